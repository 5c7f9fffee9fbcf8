/- Words and contracts for a claim. -/
import Derived.Test.YthoeindopljmkaaPumpTried3
import Derived.Lib.SliceRun
section
namespace Go.Proofs.Ythoeindopljmkaa.P
open Go.RowKit Go.Proofs.YthoeindopljmkaaW.PrintWords Go.Proofs.YthoeindopljmkaaW.PrintLast Go.Proofs.YthoeindopljmkaaW.PrintMore
set_option linter.unusedVariables false
set_option linter.unusedSimpArgs false
theorem btw_iff {a b c : Int} : btw a b c = true ↔ a ≤ b ∧ b ≤ c := by simp [btw]
end Go.Proofs.Ythoeindopljmkaa.P
end
section
namespace Go.Proofs.Ythoeindopljmkaa.P
open Go.RowKit Go.Proofs.YthoeindopljmkaaW.PrintWords Go.Proofs.YthoeindopljmkaaW.PrintLast Go.Proofs.YthoeindopljmkaaW.PrintMore
attribute [local go_sem] max2_int min2_int max_two min_two max_three min_three max_four min_four
set_option linter.unusedVariables false
set_option linter.unusedSimpArgs false
mutual
def pianolalaw04_PumpTried.l0 : Nat → List (S71) → Int → Int → Int → Int → Int → Option (Bool)
  | 0, _, _, _, _, _, _ => none
  | k + 1, x5, x6, x7, x8, x9, x10 => if x10 < x6 then (pianolalaw04_PumpTried.l0 k x5 x6 x7 x8 (wrap64 (x9 * 6)) (wrap64 (x10 + 1))) else (pianolalaw04_PumpTried.l1 k x5 x6 x7 x8 x9 0)
def pianolalaw04_PumpTried.l1 : Nat → List (S71) → Int → Int → Int → Int → Int → Option (Bool)
  | 0, _, _, _, _, _, _ => none
  | k + 1, x5, x6, x7, x8, x9, x11 => if x11 < x9 then (pianolalaw04_PumpTried.l2 k x5 x6 x7 x8 x9 x11 ([] : List Int) 0 x11) else ((pump_Most.f x5 x6).bind fun bt489 => ((pump_Least.f x5 x6).bind fun bt491 => (if bt489.2 = 0 then (if bt491.2 = 0 then (if bt489.1 = x7 then (if bt491.1 = x8 then ((pianolalaw04_works.f).bind fun t493 => (some t493)) else (some false)) else (some false)) else (some false)) else (some false))))
def pianolalaw04_PumpTried.l2 : Nat → List (S71) → Int → Int → Int → Int → Int → List Int → Int → Int → Option (Bool)
  | 0, _, _, _, _, _, _, _, _, _ => none
  | k + 1, x5, x6, x7, x8, x9, x11, x12, x13, x14 => if x13 < x6 then (if x12.length < 17592186044416 then (pianolalaw04_PumpTried.l2 k x5 x6 x7 x8 x9 x11 (x12 ++ [Int.tmod x14 6]) (wrap64 (x13 + 1)) (wrap64 (Int.tdiv x14 6))) else (none)) else (pianolalaw04_PumpTried.l3 k x5 x6 x7 x8 x9 x11 x12 true true x5 (x5.length : Int) 0)
def pianolalaw04_PumpTried.l3 : Nat → List (S71) → Int → Int → Int → Int → Int → List Int → Bool → Bool → List (S71) → Int → Int → Option (Bool)
  | 0, _, _, _, _, _, _, _, _, _, _, _, _ => none
  | k + 1, x5, x6, x7, x8, x9, x11, x12, x15, x16, x55, x56, x57 => if x57 < x56 then (if 0 ≤ x57 then (if x57 < (x55.length : Int) then (pianolalaw04_PumpTried.l4 k x5 x6 x7 x8 x9 x11 x12 x15 x16 0 x55 x56 x57 ((rd_T71 x55 x57).f0) ((rd_T71 x55 x57).f1)) else (none)) else (none)) else ((pianolalaw04_sums.f k x12 0 x6).bind fun t502 => (if x15 = true then (if x16 = true then (pianolalaw04_PumpTried.l1 k x5 x6 (mx x7 t502) (mn x8 t502) x9 (wrap64 (x11 + 1))) else (pianolalaw04_PumpTried.l1 k x5 x6 (mx x7 t502) x8 x9 (wrap64 (x11 + 1)))) else (if x16 = true then (pianolalaw04_PumpTried.l1 k x5 x6 x7 (mn x8 t502) x9 (wrap64 (x11 + 1))) else (pianolalaw04_PumpTried.l1 k x5 x6 x7 x8 x9 (wrap64 (x11 + 1))))))
def pianolalaw04_PumpTried.l4 : Nat → List (S71) → Int → Int → Int → Int → Int → List Int → Bool → Bool → Int → List (S71) → Int → Int → Int → Int → Option (Bool)
  | 0, _, _, _, _, _, _, _, _, _, _, _, _, _, _, _ => none
  | k + 1, x5, x6, x7, x8, x9, x11, x12, x15, x16, x19, x55, x56, x57, x499000, x499001 => if x19 < x6 then (if x15 = true then ((pianolalaw04_sums.f k x12 x19 x499000).bind fun t499 => (if x16 = true then (if (wrap64 (x19 + x499000)) > x6 then (pianolalaw04_PumpTried.l4 k x5 x6 x7 x8 x9 x11 x12 (decide (t499 ≤ x499001)) true (wrap64 (x19 + 1)) x55 x56 x57 x499000 x499001) else ((pianolalaw04_sums.f k x12 x19 x499000).bind fun t500 => (pianolalaw04_PumpTried.l4 k x5 x6 x7 x8 x9 x11 x12 (decide (t499 ≤ x499001)) (decide (t500 ≥ x499001)) (wrap64 (x19 + 1)) x55 x56 x57 x499000 x499001))) else (pianolalaw04_PumpTried.l4 k x5 x6 x7 x8 x9 x11 x12 (decide (t499 ≤ x499001)) false (wrap64 (x19 + 1)) x55 x56 x57 x499000 x499001))) else (if x16 = true then (if (wrap64 (x19 + x499000)) > x6 then (pianolalaw04_PumpTried.l4 k x5 x6 x7 x8 x9 x11 x12 false true (wrap64 (x19 + 1)) x55 x56 x57 x499000 x499001) else ((pianolalaw04_sums.f k x12 x19 x499000).bind fun t501 => (pianolalaw04_PumpTried.l4 k x5 x6 x7 x8 x9 x11 x12 false (decide (t501 ≥ x499001)) (wrap64 (x19 + 1)) x55 x56 x57 x499000 x499001))) else (pianolalaw04_PumpTried.l4 k x5 x6 x7 x8 x9 x11 x12 false false (wrap64 (x19 + 1)) x55 x56 x57 x499000 x499001))) else (pianolalaw04_PumpTried.l3 k x5 x6 x7 x8 x9 x11 x12 x15 x16 x55 x56 (wrap64 (x57 + 1)))
end
def pianolalaw04_PumpTried.f (k : Nat) (l0 : List (S86)) (a1 : Int) : Option (Bool) := (pianolalaw04_Set_made.f k l0).bind fun t486 => (pianolalaw04_PumpTried.l0 k t486 (Int.tmod (wrap64 (a1)) 6) 0 1000 1 0)
set_option maxHeartbeats 8000000 in
set_option maxRecDepth 100000 in
theorem pianolalaw04_PumpTried.calls (k : Nat) (A0 : Option Addr) (c0 : Nat) (l0 : List (S86)) (a1 : Int) (r : Bool) (w : World) (hr0 : Kd.C k86 w A0 l0.length l0) (hc0 : l0.length ≤ c0) (h : pianolalaw04_PumpTried.f k l0 a1 = some r) :
  Calls Try.prog 8 #[.slice A0 l0.length c0, .int .u8 a1] w fun e w' => e = .returned (.bool r) ∧ Below w.heap.size w w' := by
 have hu71 := Try.underlying71
 have HR0 := Aside0.mk hr0
 have HC0 := Aside0.mk hc0
 clear hr0 hc0
 have HB := Aside0.mk (Below.refl w.heap.size w)
 have H : ((pianolalaw04_Set_made.f k l0).bind fun t486 => (pianolalaw04_PumpTried.l0 k t486 (Int.tmod (wrap64 (a1)) 6) 0 1000 1 0)) = some r := h
 clear h
 replace H := Option.bind_eq_some_iff.mp H
 obtain ⟨t486, A30, H⟩ := H
 replace H : (pianolalaw04_PumpTried.l0 k t486 (Int.tmod (wrap64 (a1)) 6) 0 1000 1 0) = some r := H
 have A3 := Aside0.mk A30
 clear A30
 have H' := Aside0.mk H
 clear H
 go_enter Try.func8, Try.ntmps8
 go_wp2_with (first | (go_at_call 40; (with_reducible refine (pianolalaw04_Set_made.calls k _ _ l0 t486 _ ?side1 ?side2 A3.out).mono ?_); (case side1 => repeat (first | exact HR0.out | (with_reducible refine Kd.C_alloc ?_ _) | (with_reducible refine Kd.C_drewN ?_ _) | (with_reducible refine Kd.C_drew ?_))); (case side2 => exact HC0.out); rintro e w4 ⟨v487, rfl, ho0, hb⟩; have n0_ := Aside0.mk (Kd.R_lower ho0 (below_size (zqA HB.out))); have n1_ := Aside0.mk (below_step (zqA HB.out) hb); clear HB; have HO488 := n0_; have HB := n1_; clear n0_ n1_; (try clear hb); (try clear hb2); (try clear hk); (try clear hi); (try clear ho0)))
 repeat (go_quiet (first | (go_at_call 40; (with_reducible refine (pianolalaw04_Set_made.calls k _ _ l0 t486 _ ?side1 ?side2 A3.out).mono ?_); (case side1 => repeat (first | exact HR0.out | (with_reducible refine Kd.C_alloc ?_ _) | (with_reducible refine Kd.C_drewN ?_ _) | (with_reducible refine Kd.C_drew ?_))); (case side2 => exact HC0.out); rintro e w4 ⟨v487, rfl, ho0, hb⟩; have n0_ := Aside0.mk (Kd.R_lower ho0 (below_size (zqA HB.out))); have n1_ := Aside0.mk (below_step (zqA HB.out) hb); clear HB; have HO488 := n0_; have HB := n1_; clear n0_ n1_; (try clear hb); (try clear hb2); (try clear hk); (try clear hi); (try clear ho0))); try go_wp2_with (first | (go_at_call 40; (with_reducible refine (pianolalaw04_Set_made.calls k _ _ l0 t486 _ ?side1 ?side2 A3.out).mono ?_); (case side1 => repeat (first | exact HR0.out | (with_reducible refine Kd.C_alloc ?_ _) | (with_reducible refine Kd.C_drewN ?_ _) | (with_reducible refine Kd.C_drew ?_))); (case side2 => exact HC0.out); rintro e w4 ⟨v487, rfl, ho0, hb⟩; have n0_ := Aside0.mk (Kd.R_lower ho0 (below_size (zqA HB.out))); have n1_ := Aside0.mk (below_step (zqA HB.out) hb); clear HB; have HO488 := n0_; have HB := n1_; clear n0_ n1_; (try clear hb); (try clear hb2); (try clear hk); (try clear hi); (try clear ho0))))
 go_loopg [9, 10] k (fun kq v9 v10 w' => ∃ (x9_1 : Int) (x10_1 : Int), v9 = .int .i64 x9_1 ∧ v10 = .int .i64 x10_1 ∧ Aside0 (pianolalaw04_PumpTried.l0 kq t486 (Int.tmod (wrap64 (a1)) 6) 0 1000 x9_1 x10_1 = some r) ∧ Aside0 (kq ≤ k) ∧ Aside0 (Kd.R k71 71 w' w.heap.size (fun _ => True) v487 t486) ∧ Aside0 (Below w.heap.size w w'))
 case atStart => exact ⟨(1), (0), (by first | rfl | (simp; done) | (simp [*]; done)), (by first | rfl | (simp; done) | (simp [*]; done)), H', ⟨Nat.le_refl _⟩, ⟨zqC HO488.out⟩, ⟨zqA HB.out⟩⟩
 case round =>
  clear H'
  try clear p2
  obtain ⟨x9_1, x10_1, rfl, rfl, HA, HK1, HO_5, HB⟩ := hrel
  cases gk with
  | zero => exact absurd HA.out (by simp [pianolalaw04_PumpTried.l0])
  | succ k1 =>
   have H := HA.out
   clear HA
   simp only [pianolalaw04_PumpTried.l0] at H
   by_cases c5 : x10_1 < (Int.tmod (wrap64 (a1)) 6)
   ·
    rw [if_pos c5] at H
    have c5b0 : decide (x10_1 < (Int.tmod (wrap64 (a1)) 6)) = true := decide_eq_true c5
    clear c5
    have H' := Aside0.mk H
    clear H
    go_wp2
    repeat (go_quiet (fail); try go_wp2)
    go_roundg k1
    case measure => have := HK1.out; omega
    case rel => exact ⟨(wrap64 (x9_1 * 6)), (wrap64 (x10_1 + 1)), (by first | rfl | (simp; done) | (simp [*]; done)), (by first | rfl | (simp; done) | (simp [*]; done)), H', ⟨by have := HK1.out; omega⟩, ⟨zqC HO_5.out⟩, ⟨zqA HB.out⟩⟩
   ·
    rw [if_neg c5] at H
    have c5b0 : decide (x10_1 < (Int.tmod (wrap64 (a1)) 6)) = false := decide_eq_false c5
    clear c5
    have H' := Aside0.mk H
    clear H
    go_wp2
    repeat (go_quiet (fail); try go_wp2)
    go_loopg [7, 8, 11] k1 (fun kq v7 v8 v11 w' => ∃ (x7_2 : Int) (x8_2 : Int) (x11_2 : Int), v7 = .int .i64 x7_2 ∧ v8 = .int .i64 x8_2 ∧ v11 = .int .i64 x11_2 ∧ Aside0 (pianolalaw04_PumpTried.l1 kq t486 (Int.tmod (wrap64 (a1)) 6) x7_2 x8_2 x9_1 x11_2 = some r) ∧ Aside0 (kq ≤ k1) ∧ Aside0 (Kd.R k71 71 w' w.heap.size (fun _ => True) v487 t486) ∧ Aside0 (Below w.heap.size w w'))
    case atStart => exact ⟨(0), (1000), (0), (by first | rfl | (simp; done) | (simp [*]; done)), (by first | rfl | (simp; done) | (simp [*]; done)), (by first | rfl | (simp; done) | (simp [*]; done)), H', ⟨Nat.le_refl _⟩, ⟨zqC HO_5.out⟩, ⟨zqA HB.out⟩⟩
    case round =>
     clear H'
     try clear p2
     try clear c5
     try clear c5b0
     try clear p2
     obtain ⟨x7_2, x8_2, x11_2, rfl, rfl, rfl, HA, HK2, HO_5, HB⟩ := hrel
     cases gk with
     | zero => exact absurd HA.out (by simp [pianolalaw04_PumpTried.l1])
     | succ k2 =>
      have H := HA.out
      clear HA
      simp only [pianolalaw04_PumpTried.l1] at H
      by_cases c6 : x11_2 < x9_1
      ·
       rw [if_pos c6] at H
       have c6b0 : decide (x11_2 < x9_1) = true := decide_eq_true c6
       clear c6
       have H' := Aside0.mk H
       clear H
       go_wp2
       repeat (go_quiet (fail); try go_wp2)
       go_loopg [12, 13, 14] k2 (fun kq v12 v13 v14 w' => ∃ (x12_3 : List Int) (x13_3 : Int) (x14_3 : Int), v13 = .int .i64 x13_3 ∧ v14 = .int .i64 x14_3 ∧ Aside0 (pianolalaw04_PumpTried.l2 kq t486 (Int.tmod (wrap64 (a1)) 6) x7_2 x8_2 x9_1 x11_2 x12_3 x13_3 x14_3 = some r) ∧ Aside0 (kq ≤ k2) ∧ Aside0 (Kd.R k71 71 w' w.heap.size (fun _ => True) v487 t486) ∧ Aside0 (Kd.R (Kd.int .i64) 3 w' w.heap.size (fun _ => True) v12 x12_3) ∧ Aside0 (Below w.heap.size w w'))
       case atStart => exact ⟨(([] : List Int)), (0), (x11_2), (by first | rfl | (simp; done) | (simp [*]; done)), (by first | rfl | (simp; done) | (simp [*]; done)), H', ⟨Nat.le_refl _⟩, ⟨zqC HO_5.out⟩, ⟨by first | exact Kd.R_nil _ _ _ _ _ | exact Kd.N_nil _ _ _ _ _ | exact Kd.V_nil _ _ _ _ _ | exact Kd.Q_nil _ _ _ _ _ | exact Kd.S_nil _ _ _ _ _⟩, ⟨zqA HB.out⟩⟩
       case round =>
        clear H'
        try clear p2
        try clear c5
        try clear c5b0
        try clear c6
        try clear c6b0
        try clear p6
        try clear p2
        obtain ⟨x12_3, x13_3, x14_3, rfl, rfl, HA, HK3, HO_5, HO_12, HB⟩ := hrel
        cases gk with
        | zero => exact absurd HA.out (by simp [pianolalaw04_PumpTried.l2])
        | succ k3 =>
         have H := HA.out
         clear HA
         simp only [pianolalaw04_PumpTried.l2] at H
         by_cases c7 : x13_3 < (Int.tmod (wrap64 (a1)) 6)
         ·
          rw [if_pos c7] at H
          have c7b0 : decide (x13_3 < (Int.tmod (wrap64 (a1)) 6)) = true := decide_eq_true c7
          clear c7
          by_cases c8 : x12_3.length < 17592186044416
          ·
           rw [if_pos c8] at H
           have LMc8 := Aside0.mk c8
           clear c8
           obtain ⟨y494, hy494⟩ : ∃ y_ : List Int, y_ = (x12_3 ++ [Int.tmod x14_3 6]) := ⟨_, rfl⟩
           replace H : (pianolalaw04_PumpTried.l2 k3 t486 (Int.tmod (wrap64 (a1)) 6) x7_2 x8_2 x9_1 x11_2 y494 (wrap64 (x13_3 + 1)) (wrap64 (Int.tdiv x14_3 6))) = some r := by first | (rw [hy494]; with_reducible exact H) | (have H2_ := (Option.bind_some _ _).symm.trans H; rw [hy494]; with_reducible exact H2_) | (have H2_ := (Option.bind_some _ _).symm.trans H; with_reducible exact H2_) | with_reducible exact H | (rw [hy494]; exact H) | exact H
           have Ny494 := Aside0.mk hy494
           clear hy494
           have H' := Aside0.mk H
           clear H
           go_wp2_with (first | ((with_reducible refine gate_builtin (b := .append) (xs := #[.tmp 48, .tmp 51]) rfl ?_); at_builtin; refine Kd.R_append (Kd.int .i64) (w0 := w) w.heap.size rfl (.tmp 48) (.tmp 51) 30 3 (.int .i64 0) 8 rfl Try.underlying30 info3 rfl (by decide) (by omega) u12 x12_3 (Int.tmod x14_3 6) [.int .i64 (Int.tmod x14_3 6)] (fun _ => True) (fun _ => False) rfl rfl ?aP (fun _ hk => hk.elim) ?aF ?aO ?aB ?aS ?aL ?_; (case aP => exact rfl); (case aB => exact (zqA HB.out)); (case aF => exact (fun _ _ => trivial)); (case aO => exact (zqC HO_12.out)); (case aS => exact (below_size (zqA HB.out))); (case aL => have := LMc8.out; omega); intro v495 w9 ho hb hg hat; rw [← Ny494.out] at ho; have n0_ := Aside0.mk (Kd.R_over' (zqC HO_5.out) (Kd.R_typed (zqC HO_12.out)) (by decide) hg); have n1_ := Aside0.mk (hb); have n2_ := Aside0.mk (ho); clear HO_5; clear HB; clear HO_12; have HO_5 := n0_; have HB := n1_; have HO496 := n2_; clear n0_ n1_ n2_; clear ho hb hg hat))
           repeat (go_quiet (first | ((with_reducible refine gate_builtin (b := .append) (xs := #[.tmp 48, .tmp 51]) rfl ?_); at_builtin; refine Kd.R_append (Kd.int .i64) (w0 := w) w.heap.size rfl (.tmp 48) (.tmp 51) 30 3 (.int .i64 0) 8 rfl Try.underlying30 info3 rfl (by decide) (by omega) u12 x12_3 (Int.tmod x14_3 6) [.int .i64 (Int.tmod x14_3 6)] (fun _ => True) (fun _ => False) rfl rfl ?aP (fun _ hk => hk.elim) ?aF ?aO ?aB ?aS ?aL ?_; (case aP => exact rfl); (case aB => exact (zqA HB.out)); (case aF => exact (fun _ _ => trivial)); (case aO => exact (zqC HO_12.out)); (case aS => exact (below_size (zqA HB.out))); (case aL => have := LMc8.out; omega); intro v495 w9 ho hb hg hat; rw [← Ny494.out] at ho; have n0_ := Aside0.mk (Kd.R_over' (zqC HO_5.out) (Kd.R_typed (zqC HO_12.out)) (by decide) hg); have n1_ := Aside0.mk (hb); have n2_ := Aside0.mk (ho); clear HO_5; clear HB; clear HO_12; have HO_5 := n0_; have HB := n1_; have HO496 := n2_; clear n0_ n1_ n2_; clear ho hb hg hat)); try go_wp2_with (first | ((with_reducible refine gate_builtin (b := .append) (xs := #[.tmp 48, .tmp 51]) rfl ?_); at_builtin; refine Kd.R_append (Kd.int .i64) (w0 := w) w.heap.size rfl (.tmp 48) (.tmp 51) 30 3 (.int .i64 0) 8 rfl Try.underlying30 info3 rfl (by decide) (by omega) u12 x12_3 (Int.tmod x14_3 6) [.int .i64 (Int.tmod x14_3 6)] (fun _ => True) (fun _ => False) rfl rfl ?aP (fun _ hk => hk.elim) ?aF ?aO ?aB ?aS ?aL ?_; (case aP => exact rfl); (case aB => exact (zqA HB.out)); (case aF => exact (fun _ _ => trivial)); (case aO => exact (zqC HO_12.out)); (case aS => exact (below_size (zqA HB.out))); (case aL => have := LMc8.out; omega); intro v495 w9 ho hb hg hat; rw [← Ny494.out] at ho; have n0_ := Aside0.mk (Kd.R_over' (zqC HO_5.out) (Kd.R_typed (zqC HO_12.out)) (by decide) hg); have n1_ := Aside0.mk (hb); have n2_ := Aside0.mk (ho); clear HO_5; clear HB; clear HO_12; have HO_5 := n0_; have HB := n1_; have HO496 := n2_; clear n0_ n1_ n2_; clear ho hb hg hat)))
           go_roundg k3
           case measure => have := HK1.out; have := HK2.out; have := HK3.out; omega
           case rel => exact ⟨(y494), (wrap64 (x13_3 + 1)), (wrap64 (Int.tdiv x14_3 6)), (by first | rfl | (simp; done) | (simp [*]; done)), (by first | rfl | (simp; done) | (simp [*]; done)), H', ⟨by have := HK1.out; have := HK2.out; have := HK3.out; omega⟩, ⟨zqC HO_5.out⟩, ⟨zqC HO496.out⟩, ⟨zqA HB.out⟩⟩
          ·
           rw [if_neg c8] at H
           exact absurd H (by simp)
         ·
          rw [if_neg c7] at H
          have c7b0 : decide (x13_3 < (Int.tmod (wrap64 (a1)) 6)) = false := decide_eq_false c7
          clear c7
          have H' := Aside0.mk H
          clear H
          obtain ⟨Ao10, co10, eo10⟩ := Kd.R_slice HO_5.out
          subst eo10
          go_wp2
          repeat (go_quiet (fail); try go_wp2)
          go_loopg [15, 16, 57] k3 (fun kq v15 v16 v57 w' => ∃ (x15_4 : Bool) (x16_4 : Bool) (x57_4 : Int), v15 = .bool x15_4 ∧ v16 = .bool x16_4 ∧ v57 = .int .i64 x57_4 ∧ Aside0 (pianolalaw04_PumpTried.l3 kq t486 (Int.tmod (wrap64 (a1)) 6) x7_2 x8_2 x9_1 x11_2 x12_3 x15_4 x16_4 t486 (t486.length : Int) x57_4 = some r) ∧ Aside0 (kq ≤ k3) ∧ Aside0 (Kd.R k71 71 w' w.heap.size (fun _ => True) (.slice Ao10 t486.length co10) t486) ∧ Aside0 (Kd.R (Kd.int .i64) 3 w' w.heap.size (fun _ => True) u12 x12_3) ∧ Aside0 (Kd.R k71 71 w' w.heap.size (fun _ => True) (.slice Ao10 t486.length co10) t486) ∧ Aside0 (Below w.heap.size w w'))
          case atStart => exact ⟨(true), (true), (0), (by first | rfl | (simp; done) | (simp [*]; done)), (by first | rfl | (simp; done) | (simp [*]; done)), (by first | rfl | (simp; done) | (simp [*]; done)), H', ⟨Nat.le_refl _⟩, ⟨zqC HO_5.out⟩, ⟨zqC HO_12.out⟩, ⟨zqC HO_5.out⟩, ⟨zqA HB.out⟩⟩
          case round =>
           clear H'
           try clear p2
           try clear c5
           try clear c5b0
           try clear c6
           try clear c6b0
           try clear p6
           try clear c7
           try clear c7b0
           try clear c8
           try clear p2
           try clear p6
           obtain ⟨x15_4, x16_4, x57_4, rfl, rfl, rfl, HA, HK4, HO_5, HO_12, HO_55, HB⟩ := hrel
           cases gk with
           | zero => exact absurd HA.out (by simp [pianolalaw04_PumpTried.l3])
           | succ k4 =>
            have H := HA.out
            clear HA
            simp only [pianolalaw04_PumpTried.l3] at H
            by_cases c11 : x57_4 < (t486.length : Int)
            ·
             rw [if_pos c11] at H
             have c11b0 : decide (x57_4 < (t486.length : Int)) = true := decide_eq_true c11
             clear c11
             by_cases c12 : 0 ≤ x57_4
             ·
              rw [if_pos c12] at H
              have c12b0 : decide (0 ≤ x57_4) = true := decide_eq_true c12
              clear c12
              by_cases c13 : x57_4 < (t486.length : Int)
              ·
               rw [if_pos c13] at H
               have c13b0 : decide (x57_4 < (t486.length : Int)) = true := decide_eq_true c13
               clear c13
               have H' := Aside0.mk H
               clear H
               have p497 : 0 ≤ (x57_4 : Int) := of_decide_eq_true (zqD)
               have q497 : x57_4 < (t486.length : Int) := of_decide_eq_true (zqD)
               obtain ⟨ad497, e497, hx497_0, hx497_1⟩ := at_T71 (Kd.R_reads' HO_55.out).2.2 x57_4 p497 q497
               cases e497
               replace p497 := eq_true p497
               replace q497 := eq_true q497
               go_wp2_with (first | ((with_reducible refine gate_dst (N := 18) rfl ?_); refine box_event ?hg (N := 18) ?hd (cs := #[.int .i64 0, .int .i64 0]) (t := 71) ?hr ?_; (case hd => rfl); (case hg => rfl); (case hr => first | (go_simp; done) | (go_simp; rfl)); intro gb498 hg w14 hbox hb; have n0_ := Aside0.mk (Kd.R_below (Kd.R_elderB (zqC HO_5.out) gb498 (Nat.le_of_eq hg.symm)) hb); have n1_ := Aside0.mk (Kd.R_below (zqC HO_12.out) hb); have n2_ := Aside0.mk (Kd.R_below (Kd.R_elderB (zqC HO_55.out) gb498 (Nat.le_of_eq hg.symm)) hb); have n3_ := Aside0.mk (below_step (zqA HB.out) hb); have n4_ := Aside0.mk (hbox); have n5_ := Aside0.mk ((by rw [hg]; exact (below_size (zqA HB.out)) : w.heap.size ≤ gb498)); have n6_ := Aside0.mk ((by rw [hg]; exact (below_size (zqA HB.out)) : w.heap.size ≤ gb498)); clear HO_5; clear HO_12; clear HO_55; clear HB; have HO_5 := n0_; have HO_12 := n1_; have HO_55 := n2_; have HB := n3_; have BK498 := n4_; have GW498 := n5_; have GE498 := n6_; clear n0_ n1_ n2_ n3_ n4_ n5_ n6_; clear hb hbox hg; have hcz15_0 : w14.cell? ⟨gb498, 0, none⟩ = some (.int .i64 0) := (blk_cell BK498.out 0).trans rfl; have hcz15_1 : w14.cell? ⟨gb498, 1, none⟩ = some (.int .i64 0) := (blk_cell BK498.out 1).trans rfl; have hfz15_0 := blk_frozen BK498.out 0; have hfz15_1 := blk_frozen BK498.out 1))
               repeat (go_quiet (first | ((with_reducible refine gate_dst (N := 18) rfl ?_); refine box_event ?hg (N := 18) ?hd (cs := #[.int .i64 0, .int .i64 0]) (t := 71) ?hr ?_; (case hd => rfl); (case hg => rfl); (case hr => first | (go_simp; done) | (go_simp; rfl)); intro gb498 hg w14 hbox hb; have n0_ := Aside0.mk (Kd.R_below (Kd.R_elderB (zqC HO_5.out) gb498 (Nat.le_of_eq hg.symm)) hb); have n1_ := Aside0.mk (Kd.R_below (zqC HO_12.out) hb); have n2_ := Aside0.mk (Kd.R_below (Kd.R_elderB (zqC HO_55.out) gb498 (Nat.le_of_eq hg.symm)) hb); have n3_ := Aside0.mk (below_step (zqA HB.out) hb); have n4_ := Aside0.mk (hbox); have n5_ := Aside0.mk ((by rw [hg]; exact (below_size (zqA HB.out)) : w.heap.size ≤ gb498)); have n6_ := Aside0.mk ((by rw [hg]; exact (below_size (zqA HB.out)) : w.heap.size ≤ gb498)); clear HO_5; clear HO_12; clear HO_55; clear HB; have HO_5 := n0_; have HO_12 := n1_; have HO_55 := n2_; have HB := n3_; have BK498 := n4_; have GW498 := n5_; have GE498 := n6_; clear n0_ n1_ n2_ n3_ n4_ n5_ n6_; clear hb hbox hg; have hcz15_0 : w14.cell? ⟨gb498, 0, none⟩ = some (.int .i64 0) := (blk_cell BK498.out 0).trans rfl; have hcz15_1 : w14.cell? ⟨gb498, 1, none⟩ = some (.int .i64 0) := (blk_cell BK498.out 1).trans rfl; have hfz15_0 := blk_frozen BK498.out 0; have hfz15_1 := blk_frozen BK498.out 1)); try go_wp2_with (first | ((with_reducible refine gate_dst (N := 18) rfl ?_); refine box_event ?hg (N := 18) ?hd (cs := #[.int .i64 0, .int .i64 0]) (t := 71) ?hr ?_; (case hd => rfl); (case hg => rfl); (case hr => first | (go_simp; done) | (go_simp; rfl)); intro gb498 hg w14 hbox hb; have n0_ := Aside0.mk (Kd.R_below (Kd.R_elderB (zqC HO_5.out) gb498 (Nat.le_of_eq hg.symm)) hb); have n1_ := Aside0.mk (Kd.R_below (zqC HO_12.out) hb); have n2_ := Aside0.mk (Kd.R_below (Kd.R_elderB (zqC HO_55.out) gb498 (Nat.le_of_eq hg.symm)) hb); have n3_ := Aside0.mk (below_step (zqA HB.out) hb); have n4_ := Aside0.mk (hbox); have n5_ := Aside0.mk ((by rw [hg]; exact (below_size (zqA HB.out)) : w.heap.size ≤ gb498)); have n6_ := Aside0.mk ((by rw [hg]; exact (below_size (zqA HB.out)) : w.heap.size ≤ gb498)); clear HO_5; clear HO_12; clear HO_55; clear HB; have HO_5 := n0_; have HO_12 := n1_; have HO_55 := n2_; have HB := n3_; have BK498 := n4_; have GW498 := n5_; have GE498 := n6_; clear n0_ n1_ n2_ n3_ n4_ n5_ n6_; clear hb hbox hg; have hcz15_0 : w14.cell? ⟨gb498, 0, none⟩ = some (.int .i64 0) := (blk_cell BK498.out 0).trans rfl; have hcz15_1 : w14.cell? ⟨gb498, 1, none⟩ = some (.int .i64 0) := (blk_cell BK498.out 1).trans rfl; have hfz15_0 := blk_frozen BK498.out 0; have hfz15_1 := blk_frozen BK498.out 1)))
               go_loopg [15, 16, 19] k4 (fun kq v15 v16 v19 w' => ∃ (x15_5 : Bool) (x16_5 : Bool) (x19_5 : Int), v15 = .bool x15_5 ∧ v16 = .bool x16_5 ∧ v19 = .int .i64 x19_5 ∧ Aside0 (pianolalaw04_PumpTried.l4 kq t486 (Int.tmod (wrap64 (a1)) 6) x7_2 x8_2 x9_1 x11_2 x12_3 x15_5 x16_5 x19_5 t486 (t486.length : Int) x57_4 ((rd_T71 t486 x57_4).f0) ((rd_T71 t486 x57_4).f1) = some r) ∧ Aside0 (kq ≤ k4) ∧ Aside0 (Kd.R k71 71 w' w.heap.size (fun k_ => k_ ≠ gb498) (.slice (some ad497) t486.length co10) t486) ∧ Aside0 (Kd.R (Kd.int .i64) 3 w' w.heap.size (fun _ => True) u12 x12_3) ∧ Aside0 (Kd.R k71 71 w' w.heap.size (fun k_ => k_ ≠ gb498) (.slice (some ad497) t486.length co10) t486) ∧ Aside0 (w'.heap[gb498]? = some (.cells #[.int .i64 ((rd_T71 t486 x57_4).f0), .int .i64 ((rd_T71 t486 x57_4).f1)] 71 (0, 0))) ∧ Aside0 (Below w.heap.size w w'))
               case atStart => exact ⟨(x15_4), (x16_4), (0), (by first | rfl | (simp; done) | (simp [*]; done)), (by first | rfl | (simp; done) | (simp [*]; done)), (by first | rfl | (simp; done) | (simp [*]; done)), H', ⟨Nat.le_refl _⟩, ⟨by (with_reducible repeat (first | apply Kd.R_alloc | apply Kd.R_drewN | apply Kd.R_drew)); exact Kd.R_mono (Kd.R_far (p := ⟨gb498, 1, none⟩) (Kd.R_far (p := ⟨gb498, 0, none⟩) (Kd.R_mono HO_5.out (fun k_ hk => (⟨hk, hk.2⟩ : _ ∧ k_ ≠ gb498))) (fun _ hk => hk.2) (.int .i64 ((rd_T71 t486 x57_4).f0))) (fun _ hk => hk.2) (.int .i64 ((rd_T71 t486 x57_4).f1))) (fun _ hk => hk.1.2)⟩, ⟨by (with_reducible repeat (first | apply Kd.R_alloc | apply Kd.R_drewN | apply Kd.R_drew)); exact Kd.R_mono (Kd.R_far (p := ⟨gb498, 1, none⟩) (Kd.R_far (p := ⟨gb498, 0, none⟩) (Kd.R_types HO_12.out BK498.out (by decide)) (fun _ hk => hk.2) (.int .i64 ((rd_T71 t486 x57_4).f0))) (fun _ hk => hk.2) (.int .i64 ((rd_T71 t486 x57_4).f1))) (fun _ hk => trivial)⟩, ⟨by (with_reducible repeat (first | apply Kd.R_alloc | apply Kd.R_drewN | apply Kd.R_drew)); exact Kd.R_mono (Kd.R_far (p := ⟨gb498, 1, none⟩) (Kd.R_far (p := ⟨gb498, 0, none⟩) (Kd.R_mono HO_55.out (fun k_ hk => (⟨hk, hk.2⟩ : _ ∧ k_ ≠ gb498))) (fun _ hk => hk.2) (.int .i64 ((rd_T71 t486 x57_4).f0))) (fun _ hk => hk.2) (.int .i64 ((rd_T71 t486 x57_4).f1))) (fun _ hk => hk.1.2)⟩, ⟨by (with_reducible repeat (first | refine blk_drewN ?_ _ | refine blk_drew ?_ | refine blk_alloc ?_ _)); refine blk_put (cs := #[.int .i64 ((rd_T71 t486 x57_4).f0), .int .i64 0]) ?_ 1 _ rfl; (with_reducible repeat (first | refine blk_drewN ?_ _ | refine blk_drew ?_ | refine blk_alloc ?_ _)); refine blk_put (cs := #[.int .i64 0, .int .i64 0]) ?_ 0 _ rfl; (with_reducible repeat (first | refine blk_drewN ?_ _ | refine blk_drew ?_ | refine blk_alloc ?_ _)); exact BK498.out⟩, ⟨zqG HB.out GE498.out⟩⟩
               case round =>
                clear H'
                try clear c1
                try clear p2
                try clear p4
                try clear q4
                try clear hx4
                try clear c5
                try clear c5b0
                try clear c6
                try clear c6b0
                try clear p6
                try clear c7
                try clear c7b0
                try clear c8
                try clear c11
                try clear c11b0
                try clear c12
                try clear c12b0
                try clear c13
                try clear c13b0
                try clear hcz15_0
                try clear hcz15_1
                try clear hfz15_0
                try clear hfz15_1
                try clear hx497_0
                try clear hx497_1
                try clear p2
                try clear p497
                try clear p6
                try clear q497
                obtain ⟨x15_5, x16_5, x19_5, rfl, rfl, rfl, HA, HK5, HO_5, HO_12, HO_55, BK498, HB⟩ := hrel
                cases gk with
                | zero => exact absurd HA.out (by simp [pianolalaw04_PumpTried.l4])
                | succ k5 =>
                 have H := HA.out
                 clear HA
                 simp only [pianolalaw04_PumpTried.l4] at H
                 by_cases c16 : x19_5 < (Int.tmod (wrap64 (a1)) 6)
                 ·
                  rw [if_pos c16] at H
                  have c16b0 : decide (x19_5 < (Int.tmod (wrap64 (a1)) 6)) = true := decide_eq_true c16
                  clear c16
                  by_cases c17 : x15_5 = true
                  ·
                   subst c17
                   have H1 : ((pianolalaw04_sums.f k5 x12_3 x19_5 ((rd_T71 t486 x57_4).f0)).bind fun t499 => (if x16_5 = true then (if (wrap64 (x19_5 + ((rd_T71 t486 x57_4).f0))) > (Int.tmod (wrap64 (a1)) 6) then (pianolalaw04_PumpTried.l4 k5 t486 (Int.tmod (wrap64 (a1)) 6) x7_2 x8_2 x9_1 x11_2 x12_3 (decide (t499 ≤ ((rd_T71 t486 x57_4).f1))) true (wrap64 (x19_5 + 1)) t486 (t486.length : Int) x57_4 ((rd_T71 t486 x57_4).f0) ((rd_T71 t486 x57_4).f1)) else ((pianolalaw04_sums.f k5 x12_3 x19_5 ((rd_T71 t486 x57_4).f0)).bind fun t500 => (pianolalaw04_PumpTried.l4 k5 t486 (Int.tmod (wrap64 (a1)) 6) x7_2 x8_2 x9_1 x11_2 x12_3 (decide (t499 ≤ ((rd_T71 t486 x57_4).f1))) (decide (t500 ≥ ((rd_T71 t486 x57_4).f1))) (wrap64 (x19_5 + 1)) t486 (t486.length : Int) x57_4 ((rd_T71 t486 x57_4).f0) ((rd_T71 t486 x57_4).f1)))) else (pianolalaw04_PumpTried.l4 k5 t486 (Int.tmod (wrap64 (a1)) 6) x7_2 x8_2 x9_1 x11_2 x12_3 (decide (t499 ≤ ((rd_T71 t486 x57_4).f1))) false (wrap64 (x19_5 + 1)) t486 (t486.length : Int) x57_4 ((rd_T71 t486 x57_4).f0) ((rd_T71 t486 x57_4).f1)))) = some r := by rw [if_pos rfl] at H; exact H
                   clear H
                   have H := H1
                   clear H1
                   replace H := Option.bind_eq_some_iff.mp H
                   obtain ⟨t499, A180, H⟩ := H
                   replace H : (if x16_5 = true then (if (wrap64 (x19_5 + ((rd_T71 t486 x57_4).f0))) > (Int.tmod (wrap64 (a1)) 6) then (pianolalaw04_PumpTried.l4 k5 t486 (Int.tmod (wrap64 (a1)) 6) x7_2 x8_2 x9_1 x11_2 x12_3 (decide (t499 ≤ ((rd_T71 t486 x57_4).f1))) true (wrap64 (x19_5 + 1)) t486 (t486.length : Int) x57_4 ((rd_T71 t486 x57_4).f0) ((rd_T71 t486 x57_4).f1)) else ((pianolalaw04_sums.f k5 x12_3 x19_5 ((rd_T71 t486 x57_4).f0)).bind fun t500 => (pianolalaw04_PumpTried.l4 k5 t486 (Int.tmod (wrap64 (a1)) 6) x7_2 x8_2 x9_1 x11_2 x12_3 (decide (t499 ≤ ((rd_T71 t486 x57_4).f1))) (decide (t500 ≥ ((rd_T71 t486 x57_4).f1))) (wrap64 (x19_5 + 1)) t486 (t486.length : Int) x57_4 ((rd_T71 t486 x57_4).f0) ((rd_T71 t486 x57_4).f1)))) else (pianolalaw04_PumpTried.l4 k5 t486 (Int.tmod (wrap64 (a1)) 6) x7_2 x8_2 x9_1 x11_2 x12_3 (decide (t499 ≤ ((rd_T71 t486 x57_4).f1))) false (wrap64 (x19_5 + 1)) t486 (t486.length : Int) x57_4 ((rd_T71 t486 x57_4).f0) ((rd_T71 t486 x57_4).f1))) = some r := H
                   have A18 := Aside0.mk A180
                   clear A180
                   by_cases c19 : x16_5 = true
                   ·
                    subst c19
                    have H1 : (if (wrap64 (x19_5 + ((rd_T71 t486 x57_4).f0))) > (Int.tmod (wrap64 (a1)) 6) then (pianolalaw04_PumpTried.l4 k5 t486 (Int.tmod (wrap64 (a1)) 6) x7_2 x8_2 x9_1 x11_2 x12_3 (decide (t499 ≤ ((rd_T71 t486 x57_4).f1))) true (wrap64 (x19_5 + 1)) t486 (t486.length : Int) x57_4 ((rd_T71 t486 x57_4).f0) ((rd_T71 t486 x57_4).f1)) else ((pianolalaw04_sums.f k5 x12_3 x19_5 ((rd_T71 t486 x57_4).f0)).bind fun t500 => (pianolalaw04_PumpTried.l4 k5 t486 (Int.tmod (wrap64 (a1)) 6) x7_2 x8_2 x9_1 x11_2 x12_3 (decide (t499 ≤ ((rd_T71 t486 x57_4).f1))) (decide (t500 ≥ ((rd_T71 t486 x57_4).f1))) (wrap64 (x19_5 + 1)) t486 (t486.length : Int) x57_4 ((rd_T71 t486 x57_4).f0) ((rd_T71 t486 x57_4).f1)))) = some r := by rw [if_pos rfl] at H; exact H
                    clear H
                    have H := H1
                    clear H1
                    by_cases c20 : (wrap64 (x19_5 + ((rd_T71 t486 x57_4).f0))) > (Int.tmod (wrap64 (a1)) 6)
                    ·
                     rw [if_pos c20] at H
                     have c20b0 : decide ((Int.tmod (wrap64 (a1)) 6) < (wrap64 (x19_5 + ((rd_T71 t486 x57_4).f0)))) = true := decide_eq_true c20
                     clear c20
                     have H' := Aside0.mk H
                     clear H
                     have hcz21_0 : wr.cell? ⟨gb498, 0, none⟩ = some (.int .i64 ((rd_T71 t486 x57_4).f0)) := (blk_cell BK498.out 0).trans rfl
                     have hcz21_1 : wr.cell? ⟨gb498, 1, none⟩ = some (.int .i64 ((rd_T71 t486 x57_4).f1)) := (blk_cell BK498.out 1).trans rfl
                     have hfz21_0 := blk_frozen BK498.out 0
                     have hfz21_1 := blk_frozen BK498.out 1
                     obtain ⟨Ao22, co22, eo22⟩ := Kd.R_slice HO_12.out
                     subst eo22
                     go_wp2_with (first | (go_at_call 43; (with_reducible refine (pianolalaw04_sums.calls k5 _ _ x12_3 x19_5 ((rd_T71 t486 x57_4).f0) t499 _ ?side1 ?side2 A18.out).mono ?_); (case side1 => repeat (first | exact (Kd.R_reads' HO_12.out).2.2 | (with_reducible refine Kd.C_alloc ?_ _) | (with_reducible refine Kd.C_drewN ?_ _) | (with_reducible refine Kd.C_drew ?_))); (case side2 => exact (Kd.R_reads' HO_12.out).2.1); rintro e w' ⟨rfl, ⟨nd, rfl⟩⟩; (try first | exact ⟨rfl, _, World.drewN_drewN _ _ _⟩ | exact ⟨rfl, _, Eq.trans (World.drewN_drewN _ _ _) (congrArg (World.drewN _) (Nat.add_assoc _ _ _))⟩)))
                     repeat (go_quiet (first | (go_at_call 43; (with_reducible refine (pianolalaw04_sums.calls k5 _ _ x12_3 x19_5 ((rd_T71 t486 x57_4).f0) t499 _ ?side1 ?side2 A18.out).mono ?_); (case side1 => repeat (first | exact (Kd.R_reads' HO_12.out).2.2 | (with_reducible refine Kd.C_alloc ?_ _) | (with_reducible refine Kd.C_drewN ?_ _) | (with_reducible refine Kd.C_drew ?_))); (case side2 => exact (Kd.R_reads' HO_12.out).2.1); rintro e w' ⟨rfl, ⟨nd, rfl⟩⟩; (try first | exact ⟨rfl, _, World.drewN_drewN _ _ _⟩ | exact ⟨rfl, _, Eq.trans (World.drewN_drewN _ _ _) (congrArg (World.drewN _) (Nat.add_assoc _ _ _))⟩))); try go_wp2_with (first | (go_at_call 43; (with_reducible refine (pianolalaw04_sums.calls k5 _ _ x12_3 x19_5 ((rd_T71 t486 x57_4).f0) t499 _ ?side1 ?side2 A18.out).mono ?_); (case side1 => repeat (first | exact (Kd.R_reads' HO_12.out).2.2 | (with_reducible refine Kd.C_alloc ?_ _) | (with_reducible refine Kd.C_drewN ?_ _) | (with_reducible refine Kd.C_drew ?_))); (case side2 => exact (Kd.R_reads' HO_12.out).2.1); rintro e w' ⟨rfl, ⟨nd, rfl⟩⟩; (try first | exact ⟨rfl, _, World.drewN_drewN _ _ _⟩ | exact ⟨rfl, _, Eq.trans (World.drewN_drewN _ _ _) (congrArg (World.drewN _) (Nat.add_assoc _ _ _))⟩))))
                     go_roundg k5
                     case measure => have := HK1.out; have := HK2.out; have := HK3.out; have := HK4.out; have := HK5.out; omega
                     case rel => exact ⟨(decide (t499 ≤ ((rd_T71 t486 x57_4).f1))), (true), (wrap64 (x19_5 + 1)), (by first | rfl | (simp; done) | (simp [*]; done)), (by first | rfl | (simp; done) | (simp [*]; done)), (by first | rfl | (simp; done) | (simp [*]; done)), H', ⟨by have := HK1.out; have := HK2.out; have := HK3.out; have := HK4.out; have := HK5.out; omega⟩, ⟨zqC HO_5.out⟩, ⟨zqC HO_12.out⟩, ⟨zqC HO_55.out⟩, ⟨zqB BK498.out⟩, ⟨zqG HB.out GE498.out⟩⟩
                    ·
                     rw [if_neg c20] at H
                     have c20b0 : decide ((Int.tmod (wrap64 (a1)) 6) < (wrap64 (x19_5 + ((rd_T71 t486 x57_4).f0)))) = false := decide_eq_false c20
                     clear c20
                     replace H := Option.bind_eq_some_iff.mp H
                     obtain ⟨t500, A230, H⟩ := H
                     replace H : (pianolalaw04_PumpTried.l4 k5 t486 (Int.tmod (wrap64 (a1)) 6) x7_2 x8_2 x9_1 x11_2 x12_3 (decide (t499 ≤ ((rd_T71 t486 x57_4).f1))) (decide (t500 ≥ ((rd_T71 t486 x57_4).f1))) (wrap64 (x19_5 + 1)) t486 (t486.length : Int) x57_4 ((rd_T71 t486 x57_4).f0) ((rd_T71 t486 x57_4).f1)) = some r := H
                     have A23 := Aside0.mk A230
                     clear A230
                     have H' := Aside0.mk H
                     clear H
                     have hcz24_0 : wr.cell? ⟨gb498, 0, none⟩ = some (.int .i64 ((rd_T71 t486 x57_4).f0)) := (blk_cell BK498.out 0).trans rfl
                     have hcz24_1 : wr.cell? ⟨gb498, 1, none⟩ = some (.int .i64 ((rd_T71 t486 x57_4).f1)) := (blk_cell BK498.out 1).trans rfl
                     have hfz24_0 := blk_frozen BK498.out 0
                     have hfz24_1 := blk_frozen BK498.out 1
                     obtain ⟨Ao25, co25, eo25⟩ := Kd.R_slice HO_12.out
                     subst eo25
                     go_wp2_with (first | (go_at_call 43; (with_reducible refine (pianolalaw04_sums.calls k5 _ _ x12_3 x19_5 ((rd_T71 t486 x57_4).f0) t499 _ ?side1 ?side2 A18.out).mono ?_); (case side1 => repeat (first | exact (Kd.R_reads' HO_12.out).2.2 | (with_reducible refine Kd.C_alloc ?_ _) | (with_reducible refine Kd.C_drewN ?_ _) | (with_reducible refine Kd.C_drew ?_))); (case side2 => exact (Kd.R_reads' HO_12.out).2.1); rintro e w' ⟨rfl, ⟨nd, rfl⟩⟩; (try first | exact ⟨rfl, _, World.drewN_drewN _ _ _⟩ | exact ⟨rfl, _, Eq.trans (World.drewN_drewN _ _ _) (congrArg (World.drewN _) (Nat.add_assoc _ _ _))⟩)) | (go_at_call 43; (with_reducible refine (pianolalaw04_sums.calls k5 _ _ x12_3 x19_5 ((rd_T71 t486 x57_4).f0) t500 _ ?side1 ?side2 A23.out).mono ?_); (case side1 => repeat (first | exact (Kd.R_reads' HO_12.out).2.2 | (with_reducible refine Kd.C_alloc ?_ _) | (with_reducible refine Kd.C_drewN ?_ _) | (with_reducible refine Kd.C_drew ?_))); (case side2 => exact (Kd.R_reads' HO_12.out).2.1); rintro e w' ⟨rfl, ⟨nd, rfl⟩⟩; (try first | exact ⟨rfl, _, World.drewN_drewN _ _ _⟩ | exact ⟨rfl, _, Eq.trans (World.drewN_drewN _ _ _) (congrArg (World.drewN _) (Nat.add_assoc _ _ _))⟩)))
                     repeat (go_quiet (first | (go_at_call 43; (with_reducible refine (pianolalaw04_sums.calls k5 _ _ x12_3 x19_5 ((rd_T71 t486 x57_4).f0) t499 _ ?side1 ?side2 A18.out).mono ?_); (case side1 => repeat (first | exact (Kd.R_reads' HO_12.out).2.2 | (with_reducible refine Kd.C_alloc ?_ _) | (with_reducible refine Kd.C_drewN ?_ _) | (with_reducible refine Kd.C_drew ?_))); (case side2 => exact (Kd.R_reads' HO_12.out).2.1); rintro e w' ⟨rfl, ⟨nd, rfl⟩⟩; (try first | exact ⟨rfl, _, World.drewN_drewN _ _ _⟩ | exact ⟨rfl, _, Eq.trans (World.drewN_drewN _ _ _) (congrArg (World.drewN _) (Nat.add_assoc _ _ _))⟩)) | (go_at_call 43; (with_reducible refine (pianolalaw04_sums.calls k5 _ _ x12_3 x19_5 ((rd_T71 t486 x57_4).f0) t500 _ ?side1 ?side2 A23.out).mono ?_); (case side1 => repeat (first | exact (Kd.R_reads' HO_12.out).2.2 | (with_reducible refine Kd.C_alloc ?_ _) | (with_reducible refine Kd.C_drewN ?_ _) | (with_reducible refine Kd.C_drew ?_))); (case side2 => exact (Kd.R_reads' HO_12.out).2.1); rintro e w' ⟨rfl, ⟨nd, rfl⟩⟩; (try first | exact ⟨rfl, _, World.drewN_drewN _ _ _⟩ | exact ⟨rfl, _, Eq.trans (World.drewN_drewN _ _ _) (congrArg (World.drewN _) (Nat.add_assoc _ _ _))⟩))); try go_wp2_with (first | (go_at_call 43; (with_reducible refine (pianolalaw04_sums.calls k5 _ _ x12_3 x19_5 ((rd_T71 t486 x57_4).f0) t499 _ ?side1 ?side2 A18.out).mono ?_); (case side1 => repeat (first | exact (Kd.R_reads' HO_12.out).2.2 | (with_reducible refine Kd.C_alloc ?_ _) | (with_reducible refine Kd.C_drewN ?_ _) | (with_reducible refine Kd.C_drew ?_))); (case side2 => exact (Kd.R_reads' HO_12.out).2.1); rintro e w' ⟨rfl, ⟨nd, rfl⟩⟩; (try first | exact ⟨rfl, _, World.drewN_drewN _ _ _⟩ | exact ⟨rfl, _, Eq.trans (World.drewN_drewN _ _ _) (congrArg (World.drewN _) (Nat.add_assoc _ _ _))⟩)) | (go_at_call 43; (with_reducible refine (pianolalaw04_sums.calls k5 _ _ x12_3 x19_5 ((rd_T71 t486 x57_4).f0) t500 _ ?side1 ?side2 A23.out).mono ?_); (case side1 => repeat (first | exact (Kd.R_reads' HO_12.out).2.2 | (with_reducible refine Kd.C_alloc ?_ _) | (with_reducible refine Kd.C_drewN ?_ _) | (with_reducible refine Kd.C_drew ?_))); (case side2 => exact (Kd.R_reads' HO_12.out).2.1); rintro e w' ⟨rfl, ⟨nd, rfl⟩⟩; (try first | exact ⟨rfl, _, World.drewN_drewN _ _ _⟩ | exact ⟨rfl, _, Eq.trans (World.drewN_drewN _ _ _) (congrArg (World.drewN _) (Nat.add_assoc _ _ _))⟩))))
                     go_roundg k5
                     case measure => have := HK1.out; have := HK2.out; have := HK3.out; have := HK4.out; have := HK5.out; omega
                     case rel => exact ⟨(decide (t499 ≤ ((rd_T71 t486 x57_4).f1))), (decide (t500 ≥ ((rd_T71 t486 x57_4).f1))), (wrap64 (x19_5 + 1)), (by first | rfl | (simp; done) | (simp [*]; done) | (obtain rfl := Option.some.inj (A18.out.symm.trans A23.out); first | rfl | (simp; done))), (by first | rfl | (simp; done) | (simp [*]; done) | (obtain rfl := Option.some.inj (A18.out.symm.trans A23.out); first | rfl | (simp; done))), (by first | rfl | (simp; done) | (simp [*]; done) | (obtain rfl := Option.some.inj (A18.out.symm.trans A23.out); first | rfl | (simp; done))), H', ⟨by have := HK1.out; have := HK2.out; have := HK3.out; have := HK4.out; have := HK5.out; omega⟩, ⟨zqC HO_5.out⟩, ⟨zqC HO_12.out⟩, ⟨zqC HO_55.out⟩, ⟨zqB BK498.out⟩, ⟨zqG HB.out GE498.out⟩⟩
                   ·
                    replace c19 := Bool.eq_false_iff.mpr c19
                    subst c19
                    have H1 : (pianolalaw04_PumpTried.l4 k5 t486 (Int.tmod (wrap64 (a1)) 6) x7_2 x8_2 x9_1 x11_2 x12_3 (decide (t499 ≤ ((rd_T71 t486 x57_4).f1))) false (wrap64 (x19_5 + 1)) t486 (t486.length : Int) x57_4 ((rd_T71 t486 x57_4).f0) ((rd_T71 t486 x57_4).f1)) = some r := by rw [if_neg (show ¬ (false = true) by decide)] at H; exact H
                    clear H
                    have H := H1
                    clear H1
                    have H' := Aside0.mk H
                    clear H
                    have hcz26_0 : wr.cell? ⟨gb498, 0, none⟩ = some (.int .i64 ((rd_T71 t486 x57_4).f0)) := (blk_cell BK498.out 0).trans rfl
                    have hcz26_1 : wr.cell? ⟨gb498, 1, none⟩ = some (.int .i64 ((rd_T71 t486 x57_4).f1)) := (blk_cell BK498.out 1).trans rfl
                    have hfz26_0 := blk_frozen BK498.out 0
                    have hfz26_1 := blk_frozen BK498.out 1
                    obtain ⟨Ao27, co27, eo27⟩ := Kd.R_slice HO_12.out
                    subst eo27
                    go_wp2_with (first | (go_at_call 43; (with_reducible refine (pianolalaw04_sums.calls k5 _ _ x12_3 x19_5 ((rd_T71 t486 x57_4).f0) t499 _ ?side1 ?side2 A18.out).mono ?_); (case side1 => repeat (first | exact (Kd.R_reads' HO_12.out).2.2 | (with_reducible refine Kd.C_alloc ?_ _) | (with_reducible refine Kd.C_drewN ?_ _) | (with_reducible refine Kd.C_drew ?_))); (case side2 => exact (Kd.R_reads' HO_12.out).2.1); rintro e w' ⟨rfl, ⟨nd, rfl⟩⟩; (try first | exact ⟨rfl, _, World.drewN_drewN _ _ _⟩ | exact ⟨rfl, _, Eq.trans (World.drewN_drewN _ _ _) (congrArg (World.drewN _) (Nat.add_assoc _ _ _))⟩)))
                    repeat (go_quiet (first | (go_at_call 43; (with_reducible refine (pianolalaw04_sums.calls k5 _ _ x12_3 x19_5 ((rd_T71 t486 x57_4).f0) t499 _ ?side1 ?side2 A18.out).mono ?_); (case side1 => repeat (first | exact (Kd.R_reads' HO_12.out).2.2 | (with_reducible refine Kd.C_alloc ?_ _) | (with_reducible refine Kd.C_drewN ?_ _) | (with_reducible refine Kd.C_drew ?_))); (case side2 => exact (Kd.R_reads' HO_12.out).2.1); rintro e w' ⟨rfl, ⟨nd, rfl⟩⟩; (try first | exact ⟨rfl, _, World.drewN_drewN _ _ _⟩ | exact ⟨rfl, _, Eq.trans (World.drewN_drewN _ _ _) (congrArg (World.drewN _) (Nat.add_assoc _ _ _))⟩))); try go_wp2_with (first | (go_at_call 43; (with_reducible refine (pianolalaw04_sums.calls k5 _ _ x12_3 x19_5 ((rd_T71 t486 x57_4).f0) t499 _ ?side1 ?side2 A18.out).mono ?_); (case side1 => repeat (first | exact (Kd.R_reads' HO_12.out).2.2 | (with_reducible refine Kd.C_alloc ?_ _) | (with_reducible refine Kd.C_drewN ?_ _) | (with_reducible refine Kd.C_drew ?_))); (case side2 => exact (Kd.R_reads' HO_12.out).2.1); rintro e w' ⟨rfl, ⟨nd, rfl⟩⟩; (try first | exact ⟨rfl, _, World.drewN_drewN _ _ _⟩ | exact ⟨rfl, _, Eq.trans (World.drewN_drewN _ _ _) (congrArg (World.drewN _) (Nat.add_assoc _ _ _))⟩))))
                    go_roundg k5
                    case measure => have := HK1.out; have := HK2.out; have := HK3.out; have := HK4.out; have := HK5.out; omega
                    case rel => exact ⟨(decide (t499 ≤ ((rd_T71 t486 x57_4).f1))), (false), (wrap64 (x19_5 + 1)), (by first | rfl | (simp; done) | (simp [*]; done)), (by first | rfl | (simp; done) | (simp [*]; done)), (by first | rfl | (simp; done) | (simp [*]; done)), H', ⟨by have := HK1.out; have := HK2.out; have := HK3.out; have := HK4.out; have := HK5.out; omega⟩, ⟨zqC HO_5.out⟩, ⟨zqC HO_12.out⟩, ⟨zqC HO_55.out⟩, ⟨zqB BK498.out⟩, ⟨zqG HB.out GE498.out⟩⟩
                  ·
                   replace c17 := Bool.eq_false_iff.mpr c17
                   subst c17
                   have H1 : (if x16_5 = true then (if (wrap64 (x19_5 + ((rd_T71 t486 x57_4).f0))) > (Int.tmod (wrap64 (a1)) 6) then (pianolalaw04_PumpTried.l4 k5 t486 (Int.tmod (wrap64 (a1)) 6) x7_2 x8_2 x9_1 x11_2 x12_3 false true (wrap64 (x19_5 + 1)) t486 (t486.length : Int) x57_4 ((rd_T71 t486 x57_4).f0) ((rd_T71 t486 x57_4).f1)) else ((pianolalaw04_sums.f k5 x12_3 x19_5 ((rd_T71 t486 x57_4).f0)).bind fun t501 => (pianolalaw04_PumpTried.l4 k5 t486 (Int.tmod (wrap64 (a1)) 6) x7_2 x8_2 x9_1 x11_2 x12_3 false (decide (t501 ≥ ((rd_T71 t486 x57_4).f1))) (wrap64 (x19_5 + 1)) t486 (t486.length : Int) x57_4 ((rd_T71 t486 x57_4).f0) ((rd_T71 t486 x57_4).f1)))) else (pianolalaw04_PumpTried.l4 k5 t486 (Int.tmod (wrap64 (a1)) 6) x7_2 x8_2 x9_1 x11_2 x12_3 false false (wrap64 (x19_5 + 1)) t486 (t486.length : Int) x57_4 ((rd_T71 t486 x57_4).f0) ((rd_T71 t486 x57_4).f1))) = some r := by rw [if_neg (show ¬ (false = true) by decide)] at H; exact H
                   clear H
                   have H := H1
                   clear H1
                   by_cases c28 : x16_5 = true
                   ·
                    subst c28
                    have H1 : (if (wrap64 (x19_5 + ((rd_T71 t486 x57_4).f0))) > (Int.tmod (wrap64 (a1)) 6) then (pianolalaw04_PumpTried.l4 k5 t486 (Int.tmod (wrap64 (a1)) 6) x7_2 x8_2 x9_1 x11_2 x12_3 false true (wrap64 (x19_5 + 1)) t486 (t486.length : Int) x57_4 ((rd_T71 t486 x57_4).f0) ((rd_T71 t486 x57_4).f1)) else ((pianolalaw04_sums.f k5 x12_3 x19_5 ((rd_T71 t486 x57_4).f0)).bind fun t501 => (pianolalaw04_PumpTried.l4 k5 t486 (Int.tmod (wrap64 (a1)) 6) x7_2 x8_2 x9_1 x11_2 x12_3 false (decide (t501 ≥ ((rd_T71 t486 x57_4).f1))) (wrap64 (x19_5 + 1)) t486 (t486.length : Int) x57_4 ((rd_T71 t486 x57_4).f0) ((rd_T71 t486 x57_4).f1)))) = some r := by rw [if_pos rfl] at H; exact H
                    clear H
                    have H := H1
                    clear H1
                    by_cases c29 : (wrap64 (x19_5 + ((rd_T71 t486 x57_4).f0))) > (Int.tmod (wrap64 (a1)) 6)
                    ·
                     rw [if_pos c29] at H
                     have c29b0 : decide ((Int.tmod (wrap64 (a1)) 6) < (wrap64 (x19_5 + ((rd_T71 t486 x57_4).f0)))) = true := decide_eq_true c29
                     clear c29
                     have H' := Aside0.mk H
                     clear H
                     have hcz30_0 : wr.cell? ⟨gb498, 0, none⟩ = some (.int .i64 ((rd_T71 t486 x57_4).f0)) := (blk_cell BK498.out 0).trans rfl
                     have hcz30_1 : wr.cell? ⟨gb498, 1, none⟩ = some (.int .i64 ((rd_T71 t486 x57_4).f1)) := (blk_cell BK498.out 1).trans rfl
                     have hfz30_0 := blk_frozen BK498.out 0
                     have hfz30_1 := blk_frozen BK498.out 1
                     go_wp2
                     repeat (go_quiet (fail); try go_wp2)
                     go_roundg k5
                     case measure => have := HK1.out; have := HK2.out; have := HK3.out; have := HK4.out; have := HK5.out; omega
                     case rel => exact ⟨(false), (true), (wrap64 (x19_5 + 1)), (by first | rfl | (simp; done) | (simp [*]; done)), (by first | rfl | (simp; done) | (simp [*]; done)), (by first | rfl | (simp; done) | (simp [*]; done)), H', ⟨by have := HK1.out; have := HK2.out; have := HK3.out; have := HK4.out; have := HK5.out; omega⟩, ⟨zqC HO_5.out⟩, ⟨zqC HO_12.out⟩, ⟨zqC HO_55.out⟩, ⟨zqB BK498.out⟩, ⟨zqG HB.out GE498.out⟩⟩
                    ·
                     rw [if_neg c29] at H
                     have c29b0 : decide ((Int.tmod (wrap64 (a1)) 6) < (wrap64 (x19_5 + ((rd_T71 t486 x57_4).f0)))) = false := decide_eq_false c29
                     clear c29
                     replace H := Option.bind_eq_some_iff.mp H
                     obtain ⟨t501, A310, H⟩ := H
                     replace H : (pianolalaw04_PumpTried.l4 k5 t486 (Int.tmod (wrap64 (a1)) 6) x7_2 x8_2 x9_1 x11_2 x12_3 false (decide (t501 ≥ ((rd_T71 t486 x57_4).f1))) (wrap64 (x19_5 + 1)) t486 (t486.length : Int) x57_4 ((rd_T71 t486 x57_4).f0) ((rd_T71 t486 x57_4).f1)) = some r := H
                     have A31 := Aside0.mk A310
                     clear A310
                     have H' := Aside0.mk H
                     clear H
                     have hcz32_0 : wr.cell? ⟨gb498, 0, none⟩ = some (.int .i64 ((rd_T71 t486 x57_4).f0)) := (blk_cell BK498.out 0).trans rfl
                     have hcz32_1 : wr.cell? ⟨gb498, 1, none⟩ = some (.int .i64 ((rd_T71 t486 x57_4).f1)) := (blk_cell BK498.out 1).trans rfl
                     have hfz32_0 := blk_frozen BK498.out 0
                     have hfz32_1 := blk_frozen BK498.out 1
                     obtain ⟨Ao33, co33, eo33⟩ := Kd.R_slice HO_12.out
                     subst eo33
                     go_wp2_with (first | (go_at_call 43; (with_reducible refine (pianolalaw04_sums.calls k5 _ _ x12_3 x19_5 ((rd_T71 t486 x57_4).f0) t501 _ ?side1 ?side2 A31.out).mono ?_); (case side1 => repeat (first | exact (Kd.R_reads' HO_12.out).2.2 | (with_reducible refine Kd.C_alloc ?_ _) | (with_reducible refine Kd.C_drewN ?_ _) | (with_reducible refine Kd.C_drew ?_))); (case side2 => exact (Kd.R_reads' HO_12.out).2.1); rintro e w' ⟨rfl, ⟨nd, rfl⟩⟩; (try first | exact ⟨rfl, _, World.drewN_drewN _ _ _⟩ | exact ⟨rfl, _, Eq.trans (World.drewN_drewN _ _ _) (congrArg (World.drewN _) (Nat.add_assoc _ _ _))⟩)))
                     repeat (go_quiet (first | (go_at_call 43; (with_reducible refine (pianolalaw04_sums.calls k5 _ _ x12_3 x19_5 ((rd_T71 t486 x57_4).f0) t501 _ ?side1 ?side2 A31.out).mono ?_); (case side1 => repeat (first | exact (Kd.R_reads' HO_12.out).2.2 | (with_reducible refine Kd.C_alloc ?_ _) | (with_reducible refine Kd.C_drewN ?_ _) | (with_reducible refine Kd.C_drew ?_))); (case side2 => exact (Kd.R_reads' HO_12.out).2.1); rintro e w' ⟨rfl, ⟨nd, rfl⟩⟩; (try first | exact ⟨rfl, _, World.drewN_drewN _ _ _⟩ | exact ⟨rfl, _, Eq.trans (World.drewN_drewN _ _ _) (congrArg (World.drewN _) (Nat.add_assoc _ _ _))⟩))); try go_wp2_with (first | (go_at_call 43; (with_reducible refine (pianolalaw04_sums.calls k5 _ _ x12_3 x19_5 ((rd_T71 t486 x57_4).f0) t501 _ ?side1 ?side2 A31.out).mono ?_); (case side1 => repeat (first | exact (Kd.R_reads' HO_12.out).2.2 | (with_reducible refine Kd.C_alloc ?_ _) | (with_reducible refine Kd.C_drewN ?_ _) | (with_reducible refine Kd.C_drew ?_))); (case side2 => exact (Kd.R_reads' HO_12.out).2.1); rintro e w' ⟨rfl, ⟨nd, rfl⟩⟩; (try first | exact ⟨rfl, _, World.drewN_drewN _ _ _⟩ | exact ⟨rfl, _, Eq.trans (World.drewN_drewN _ _ _) (congrArg (World.drewN _) (Nat.add_assoc _ _ _))⟩))))
                     go_roundg k5
                     case measure => have := HK1.out; have := HK2.out; have := HK3.out; have := HK4.out; have := HK5.out; omega
                     case rel => exact ⟨(false), (decide (t501 ≥ ((rd_T71 t486 x57_4).f1))), (wrap64 (x19_5 + 1)), (by first | rfl | (simp; done) | (simp [*]; done)), (by first | rfl | (simp; done) | (simp [*]; done)), (by first | rfl | (simp; done) | (simp [*]; done)), H', ⟨by have := HK1.out; have := HK2.out; have := HK3.out; have := HK4.out; have := HK5.out; omega⟩, ⟨zqC HO_5.out⟩, ⟨zqC HO_12.out⟩, ⟨zqC HO_55.out⟩, ⟨zqB BK498.out⟩, ⟨zqG HB.out GE498.out⟩⟩
                   ·
                    replace c28 := Bool.eq_false_iff.mpr c28
                    subst c28
                    have H1 : (pianolalaw04_PumpTried.l4 k5 t486 (Int.tmod (wrap64 (a1)) 6) x7_2 x8_2 x9_1 x11_2 x12_3 false false (wrap64 (x19_5 + 1)) t486 (t486.length : Int) x57_4 ((rd_T71 t486 x57_4).f0) ((rd_T71 t486 x57_4).f1)) = some r := by rw [if_neg (show ¬ (false = true) by decide)] at H; exact H
                    clear H
                    have H := H1
                    clear H1
                    have H' := Aside0.mk H
                    clear H
                    go_wp2
                    repeat (go_quiet (fail); try go_wp2)
                    go_roundg k5
                    case measure => have := HK1.out; have := HK2.out; have := HK3.out; have := HK4.out; have := HK5.out; omega
                    case rel => exact ⟨(false), (false), (wrap64 (x19_5 + 1)), (by first | rfl | (simp; done) | (simp [*]; done)), (by first | rfl | (simp; done) | (simp [*]; done)), (by first | rfl | (simp; done) | (simp [*]; done)), H', ⟨by have := HK1.out; have := HK2.out; have := HK3.out; have := HK4.out; have := HK5.out; omega⟩, ⟨zqC HO_5.out⟩, ⟨zqC HO_12.out⟩, ⟨zqC HO_55.out⟩, ⟨zqB BK498.out⟩, ⟨zqG HB.out GE498.out⟩⟩
                 ·
                  rw [if_neg c16] at H
                  have c16b0 : decide (x19_5 < (Int.tmod (wrap64 (a1)) 6)) = false := decide_eq_false c16
                  clear c16
                  have H' := Aside0.mk H
                  clear H
                  go_wp2
                  repeat (go_quiet (fail); try go_wp2)
                  go_roundg k5
                  case measure => have := HK1.out; have := HK2.out; have := HK3.out; have := HK4.out; have := HK5.out; omega
                  case rel => exact ⟨(x15_5), (x16_5), (wrap64 (x57_4 + 1)), (by first | rfl | (simp; done) | (simp [*]; done)), (by first | rfl | (simp; done) | (simp [*]; done)), (by first | rfl | (simp; done) | (simp [*]; done)), H', ⟨by have := HK1.out; have := HK2.out; have := HK3.out; have := HK4.out; have := HK5.out; omega⟩, ⟨by (with_reducible repeat (first | apply Kd.R_alloc | apply Kd.R_drewN | apply Kd.R_drew)); exact Kd.R_mono HO_5.out (fun _ hk => trivial)⟩, ⟨zqC HO_12.out⟩, ⟨by (with_reducible repeat (first | apply Kd.R_alloc | apply Kd.R_drewN | apply Kd.R_drew)); exact Kd.R_mono HO_55.out (fun _ hk => trivial)⟩, ⟨zqG HB.out GE498.out⟩⟩
              ·
               rw [if_neg c13] at H
               exact absurd H (by simp)
             ·
              rw [if_neg c12] at H
              exact absurd H (by simp)
            ·
             rw [if_neg c11] at H
             have c11b0 : decide (x57_4 < (t486.length : Int)) = false := decide_eq_false c11
             clear c11
             replace H := Option.bind_eq_some_iff.mp H
             obtain ⟨t502, A340, H⟩ := H
             replace H : (if x15_4 = true then (if x16_4 = true then (pianolalaw04_PumpTried.l1 k4 t486 (Int.tmod (wrap64 (a1)) 6) (mx x7_2 t502) (mn x8_2 t502) x9_1 (wrap64 (x11_2 + 1))) else (pianolalaw04_PumpTried.l1 k4 t486 (Int.tmod (wrap64 (a1)) 6) (mx x7_2 t502) x8_2 x9_1 (wrap64 (x11_2 + 1)))) else (if x16_4 = true then (pianolalaw04_PumpTried.l1 k4 t486 (Int.tmod (wrap64 (a1)) 6) x7_2 (mn x8_2 t502) x9_1 (wrap64 (x11_2 + 1))) else (pianolalaw04_PumpTried.l1 k4 t486 (Int.tmod (wrap64 (a1)) 6) x7_2 x8_2 x9_1 (wrap64 (x11_2 + 1))))) = some r := H
             have A34 := Aside0.mk A340
             clear A340
             by_cases c35 : x15_4 = true
             ·
              subst c35
              have H1 : (if x16_4 = true then (pianolalaw04_PumpTried.l1 k4 t486 (Int.tmod (wrap64 (a1)) 6) (mx x7_2 t502) (mn x8_2 t502) x9_1 (wrap64 (x11_2 + 1))) else (pianolalaw04_PumpTried.l1 k4 t486 (Int.tmod (wrap64 (a1)) 6) (mx x7_2 t502) x8_2 x9_1 (wrap64 (x11_2 + 1)))) = some r := by rw [if_pos rfl] at H; exact H
              clear H
              have H := H1
              clear H1
              obtain ⟨ji36, hji36⟩ : ∃ j_ : Int, (mx x7_2 t502) = j_ := ⟨_, rfl⟩
              replace H : (if x16_4 = true then (pianolalaw04_PumpTried.l1 k4 t486 (Int.tmod (wrap64 (a1)) 6) ji36 (mn x8_2 t502) x9_1 (wrap64 (x11_2 + 1))) else (pianolalaw04_PumpTried.l1 k4 t486 (Int.tmod (wrap64 (a1)) 6) ji36 x8_2 x9_1 (wrap64 (x11_2 + 1)))) = some r := by first | (rw [hji36] at H; exact H) | (simp only [hji36] at H ⊢; exact H)
              (try rw [hji36] at A34)
              have hji36_ : (if x7_2 < t502 then t502 else x7_2) = ji36 := hji36
              by_cases c37 : x16_4 = true
              ·
               subst c37
               have H1 : (pianolalaw04_PumpTried.l1 k4 t486 (Int.tmod (wrap64 (a1)) 6) ji36 (mn x8_2 t502) x9_1 (wrap64 (x11_2 + 1))) = some r := by rw [if_pos rfl] at H; exact H
               clear H
               have H := H1
               clear H1
               obtain ⟨ji38, hji38⟩ : ∃ j_ : Int, (mn x8_2 t502) = j_ := ⟨_, rfl⟩
               replace H : (pianolalaw04_PumpTried.l1 k4 t486 (Int.tmod (wrap64 (a1)) 6) ji36 ji38 x9_1 (wrap64 (x11_2 + 1))) = some r := by first | (rw [hji38] at H; exact H) | (simp only [hji38] at H ⊢; exact H)
               (try rw [hji38] at A34)
               have hji38_ : (if t502 < x8_2 then t502 else x8_2) = ji38 := hji38
               have H' := Aside0.mk H
               clear H
               obtain ⟨Ao39, co39, eo39⟩ := Kd.R_slice HO_12.out
               subst eo39
               go_wp2_with (first | (go_at_call 43; (with_reducible refine (pianolalaw04_sums.calls k4 _ _ x12_3 0 (Int.tmod (wrap64 (a1)) 6) t502 _ ?side1 ?side2 A34.out).mono ?_); (case side1 => repeat (first | exact (Kd.R_reads' HO_12.out).2.2 | (with_reducible refine Kd.C_alloc ?_ _) | (with_reducible refine Kd.C_drewN ?_ _) | (with_reducible refine Kd.C_drew ?_))); (case side2 => exact (Kd.R_reads' HO_12.out).2.1); rintro e w' ⟨rfl, ⟨nd, rfl⟩⟩; (try first | exact ⟨rfl, _, World.drewN_drewN _ _ _⟩ | exact ⟨rfl, _, Eq.trans (World.drewN_drewN _ _ _) (congrArg (World.drewN _) (Nat.add_assoc _ _ _))⟩)))
               repeat (go_quiet (first | (go_at_call 43; (with_reducible refine (pianolalaw04_sums.calls k4 _ _ x12_3 0 (Int.tmod (wrap64 (a1)) 6) t502 _ ?side1 ?side2 A34.out).mono ?_); (case side1 => repeat (first | exact (Kd.R_reads' HO_12.out).2.2 | (with_reducible refine Kd.C_alloc ?_ _) | (with_reducible refine Kd.C_drewN ?_ _) | (with_reducible refine Kd.C_drew ?_))); (case side2 => exact (Kd.R_reads' HO_12.out).2.1); rintro e w' ⟨rfl, ⟨nd, rfl⟩⟩; (try first | exact ⟨rfl, _, World.drewN_drewN _ _ _⟩ | exact ⟨rfl, _, Eq.trans (World.drewN_drewN _ _ _) (congrArg (World.drewN _) (Nat.add_assoc _ _ _))⟩))); try go_wp2_with (first | (go_at_call 43; (with_reducible refine (pianolalaw04_sums.calls k4 _ _ x12_3 0 (Int.tmod (wrap64 (a1)) 6) t502 _ ?side1 ?side2 A34.out).mono ?_); (case side1 => repeat (first | exact (Kd.R_reads' HO_12.out).2.2 | (with_reducible refine Kd.C_alloc ?_ _) | (with_reducible refine Kd.C_drewN ?_ _) | (with_reducible refine Kd.C_drew ?_))); (case side2 => exact (Kd.R_reads' HO_12.out).2.1); rintro e w' ⟨rfl, ⟨nd, rfl⟩⟩; (try first | exact ⟨rfl, _, World.drewN_drewN _ _ _⟩ | exact ⟨rfl, _, Eq.trans (World.drewN_drewN _ _ _) (congrArg (World.drewN _) (Nat.add_assoc _ _ _))⟩))))
               go_roundg k4
               case measure => have := HK1.out; have := HK2.out; have := HK3.out; have := HK4.out; omega
               case rel => exact ⟨(ji36), (ji38), (wrap64 (x11_2 + 1)), (by first | rfl | (simp; done) | (simp only [← hji36] <;> (first | rfl | simp)) | (simp [*]; done)), (by first | rfl | (simp; done) | (simp only [← hji38] <;> (first | rfl | simp)) | (simp [*]; done)), (by first | rfl | (simp; done) | (simp [*]; done)), H', ⟨by have := HK1.out; have := HK2.out; have := HK3.out; have := HK4.out; omega⟩, ⟨zqC HO_5.out⟩, ⟨zqA HB.out⟩⟩
              ·
               replace c37 := Bool.eq_false_iff.mpr c37
               subst c37
               have H1 : (pianolalaw04_PumpTried.l1 k4 t486 (Int.tmod (wrap64 (a1)) 6) ji36 x8_2 x9_1 (wrap64 (x11_2 + 1))) = some r := by rw [if_neg (show ¬ (false = true) by decide)] at H; exact H
               clear H
               have H := H1
               clear H1
               have H' := Aside0.mk H
               clear H
               obtain ⟨Ao40, co40, eo40⟩ := Kd.R_slice HO_12.out
               subst eo40
               go_wp2_with (first | (go_at_call 43; (with_reducible refine (pianolalaw04_sums.calls k4 _ _ x12_3 0 (Int.tmod (wrap64 (a1)) 6) t502 _ ?side1 ?side2 A34.out).mono ?_); (case side1 => repeat (first | exact (Kd.R_reads' HO_12.out).2.2 | (with_reducible refine Kd.C_alloc ?_ _) | (with_reducible refine Kd.C_drewN ?_ _) | (with_reducible refine Kd.C_drew ?_))); (case side2 => exact (Kd.R_reads' HO_12.out).2.1); rintro e w' ⟨rfl, ⟨nd, rfl⟩⟩; (try first | exact ⟨rfl, _, World.drewN_drewN _ _ _⟩ | exact ⟨rfl, _, Eq.trans (World.drewN_drewN _ _ _) (congrArg (World.drewN _) (Nat.add_assoc _ _ _))⟩)))
               repeat (go_quiet (first | (go_at_call 43; (with_reducible refine (pianolalaw04_sums.calls k4 _ _ x12_3 0 (Int.tmod (wrap64 (a1)) 6) t502 _ ?side1 ?side2 A34.out).mono ?_); (case side1 => repeat (first | exact (Kd.R_reads' HO_12.out).2.2 | (with_reducible refine Kd.C_alloc ?_ _) | (with_reducible refine Kd.C_drewN ?_ _) | (with_reducible refine Kd.C_drew ?_))); (case side2 => exact (Kd.R_reads' HO_12.out).2.1); rintro e w' ⟨rfl, ⟨nd, rfl⟩⟩; (try first | exact ⟨rfl, _, World.drewN_drewN _ _ _⟩ | exact ⟨rfl, _, Eq.trans (World.drewN_drewN _ _ _) (congrArg (World.drewN _) (Nat.add_assoc _ _ _))⟩))); try go_wp2_with (first | (go_at_call 43; (with_reducible refine (pianolalaw04_sums.calls k4 _ _ x12_3 0 (Int.tmod (wrap64 (a1)) 6) t502 _ ?side1 ?side2 A34.out).mono ?_); (case side1 => repeat (first | exact (Kd.R_reads' HO_12.out).2.2 | (with_reducible refine Kd.C_alloc ?_ _) | (with_reducible refine Kd.C_drewN ?_ _) | (with_reducible refine Kd.C_drew ?_))); (case side2 => exact (Kd.R_reads' HO_12.out).2.1); rintro e w' ⟨rfl, ⟨nd, rfl⟩⟩; (try first | exact ⟨rfl, _, World.drewN_drewN _ _ _⟩ | exact ⟨rfl, _, Eq.trans (World.drewN_drewN _ _ _) (congrArg (World.drewN _) (Nat.add_assoc _ _ _))⟩))))
               go_roundg k4
               case measure => have := HK1.out; have := HK2.out; have := HK3.out; have := HK4.out; omega
               case rel => exact ⟨(ji36), (x8_2), (wrap64 (x11_2 + 1)), (by first | rfl | (simp; done) | (simp only [← hji36] <;> (first | rfl | simp)) | (simp [*]; done)), (by first | rfl | (simp; done) | (simp [*]; done)), (by first | rfl | (simp; done) | (simp [*]; done)), H', ⟨by have := HK1.out; have := HK2.out; have := HK3.out; have := HK4.out; omega⟩, ⟨zqC HO_5.out⟩, ⟨zqA HB.out⟩⟩
             ·
              replace c35 := Bool.eq_false_iff.mpr c35
              subst c35
              have H1 : (if x16_4 = true then (pianolalaw04_PumpTried.l1 k4 t486 (Int.tmod (wrap64 (a1)) 6) x7_2 (mn x8_2 t502) x9_1 (wrap64 (x11_2 + 1))) else (pianolalaw04_PumpTried.l1 k4 t486 (Int.tmod (wrap64 (a1)) 6) x7_2 x8_2 x9_1 (wrap64 (x11_2 + 1)))) = some r := by rw [if_neg (show ¬ (false = true) by decide)] at H; exact H
              clear H
              have H := H1
              clear H1
              by_cases c41 : x16_4 = true
              ·
               subst c41
               have H1 : (pianolalaw04_PumpTried.l1 k4 t486 (Int.tmod (wrap64 (a1)) 6) x7_2 (mn x8_2 t502) x9_1 (wrap64 (x11_2 + 1))) = some r := by rw [if_pos rfl] at H; exact H
               clear H
               have H := H1
               clear H1
               obtain ⟨ji42, hji42⟩ : ∃ j_ : Int, (mn x8_2 t502) = j_ := ⟨_, rfl⟩
               replace H : (pianolalaw04_PumpTried.l1 k4 t486 (Int.tmod (wrap64 (a1)) 6) x7_2 ji42 x9_1 (wrap64 (x11_2 + 1))) = some r := by first | (rw [hji42] at H; exact H) | (simp only [hji42] at H ⊢; exact H)
               (try rw [hji42] at A34)
               have hji42_ : (if t502 < x8_2 then t502 else x8_2) = ji42 := hji42
               have H' := Aside0.mk H
               clear H
               obtain ⟨Ao43, co43, eo43⟩ := Kd.R_slice HO_12.out
               subst eo43
               go_wp2_with (first | (go_at_call 43; (with_reducible refine (pianolalaw04_sums.calls k4 _ _ x12_3 0 (Int.tmod (wrap64 (a1)) 6) t502 _ ?side1 ?side2 A34.out).mono ?_); (case side1 => repeat (first | exact (Kd.R_reads' HO_12.out).2.2 | (with_reducible refine Kd.C_alloc ?_ _) | (with_reducible refine Kd.C_drewN ?_ _) | (with_reducible refine Kd.C_drew ?_))); (case side2 => exact (Kd.R_reads' HO_12.out).2.1); rintro e w' ⟨rfl, ⟨nd, rfl⟩⟩; (try first | exact ⟨rfl, _, World.drewN_drewN _ _ _⟩ | exact ⟨rfl, _, Eq.trans (World.drewN_drewN _ _ _) (congrArg (World.drewN _) (Nat.add_assoc _ _ _))⟩)))
               repeat (go_quiet (first | (go_at_call 43; (with_reducible refine (pianolalaw04_sums.calls k4 _ _ x12_3 0 (Int.tmod (wrap64 (a1)) 6) t502 _ ?side1 ?side2 A34.out).mono ?_); (case side1 => repeat (first | exact (Kd.R_reads' HO_12.out).2.2 | (with_reducible refine Kd.C_alloc ?_ _) | (with_reducible refine Kd.C_drewN ?_ _) | (with_reducible refine Kd.C_drew ?_))); (case side2 => exact (Kd.R_reads' HO_12.out).2.1); rintro e w' ⟨rfl, ⟨nd, rfl⟩⟩; (try first | exact ⟨rfl, _, World.drewN_drewN _ _ _⟩ | exact ⟨rfl, _, Eq.trans (World.drewN_drewN _ _ _) (congrArg (World.drewN _) (Nat.add_assoc _ _ _))⟩))); try go_wp2_with (first | (go_at_call 43; (with_reducible refine (pianolalaw04_sums.calls k4 _ _ x12_3 0 (Int.tmod (wrap64 (a1)) 6) t502 _ ?side1 ?side2 A34.out).mono ?_); (case side1 => repeat (first | exact (Kd.R_reads' HO_12.out).2.2 | (with_reducible refine Kd.C_alloc ?_ _) | (with_reducible refine Kd.C_drewN ?_ _) | (with_reducible refine Kd.C_drew ?_))); (case side2 => exact (Kd.R_reads' HO_12.out).2.1); rintro e w' ⟨rfl, ⟨nd, rfl⟩⟩; (try first | exact ⟨rfl, _, World.drewN_drewN _ _ _⟩ | exact ⟨rfl, _, Eq.trans (World.drewN_drewN _ _ _) (congrArg (World.drewN _) (Nat.add_assoc _ _ _))⟩))))
               go_roundg k4
               case measure => have := HK1.out; have := HK2.out; have := HK3.out; have := HK4.out; omega
               case rel => exact ⟨(x7_2), (ji42), (wrap64 (x11_2 + 1)), (by first | rfl | (simp; done) | (simp [*]; done)), (by first | rfl | (simp; done) | (simp only [← hji42] <;> (first | rfl | simp)) | (simp [*]; done)), (by first | rfl | (simp; done) | (simp [*]; done)), H', ⟨by have := HK1.out; have := HK2.out; have := HK3.out; have := HK4.out; omega⟩, ⟨zqC HO_5.out⟩, ⟨zqA HB.out⟩⟩
              ·
               replace c41 := Bool.eq_false_iff.mpr c41
               subst c41
               have H1 : (pianolalaw04_PumpTried.l1 k4 t486 (Int.tmod (wrap64 (a1)) 6) x7_2 x8_2 x9_1 (wrap64 (x11_2 + 1))) = some r := by rw [if_neg (show ¬ (false = true) by decide)] at H; exact H
               clear H
               have H := H1
               clear H1
               have H' := Aside0.mk H
               clear H
               obtain ⟨Ao44, co44, eo44⟩ := Kd.R_slice HO_12.out
               subst eo44
               go_wp2_with (first | (go_at_call 43; (with_reducible refine (pianolalaw04_sums.calls k4 _ _ x12_3 0 (Int.tmod (wrap64 (a1)) 6) t502 _ ?side1 ?side2 A34.out).mono ?_); (case side1 => repeat (first | exact (Kd.R_reads' HO_12.out).2.2 | (with_reducible refine Kd.C_alloc ?_ _) | (with_reducible refine Kd.C_drewN ?_ _) | (with_reducible refine Kd.C_drew ?_))); (case side2 => exact (Kd.R_reads' HO_12.out).2.1); rintro e w' ⟨rfl, ⟨nd, rfl⟩⟩; (try first | exact ⟨rfl, _, World.drewN_drewN _ _ _⟩ | exact ⟨rfl, _, Eq.trans (World.drewN_drewN _ _ _) (congrArg (World.drewN _) (Nat.add_assoc _ _ _))⟩)))
               repeat (go_quiet (first | (go_at_call 43; (with_reducible refine (pianolalaw04_sums.calls k4 _ _ x12_3 0 (Int.tmod (wrap64 (a1)) 6) t502 _ ?side1 ?side2 A34.out).mono ?_); (case side1 => repeat (first | exact (Kd.R_reads' HO_12.out).2.2 | (with_reducible refine Kd.C_alloc ?_ _) | (with_reducible refine Kd.C_drewN ?_ _) | (with_reducible refine Kd.C_drew ?_))); (case side2 => exact (Kd.R_reads' HO_12.out).2.1); rintro e w' ⟨rfl, ⟨nd, rfl⟩⟩; (try first | exact ⟨rfl, _, World.drewN_drewN _ _ _⟩ | exact ⟨rfl, _, Eq.trans (World.drewN_drewN _ _ _) (congrArg (World.drewN _) (Nat.add_assoc _ _ _))⟩))); try go_wp2_with (first | (go_at_call 43; (with_reducible refine (pianolalaw04_sums.calls k4 _ _ x12_3 0 (Int.tmod (wrap64 (a1)) 6) t502 _ ?side1 ?side2 A34.out).mono ?_); (case side1 => repeat (first | exact (Kd.R_reads' HO_12.out).2.2 | (with_reducible refine Kd.C_alloc ?_ _) | (with_reducible refine Kd.C_drewN ?_ _) | (with_reducible refine Kd.C_drew ?_))); (case side2 => exact (Kd.R_reads' HO_12.out).2.1); rintro e w' ⟨rfl, ⟨nd, rfl⟩⟩; (try first | exact ⟨rfl, _, World.drewN_drewN _ _ _⟩ | exact ⟨rfl, _, Eq.trans (World.drewN_drewN _ _ _) (congrArg (World.drewN _) (Nat.add_assoc _ _ _))⟩))))
               go_roundg k4
               case measure => have := HK1.out; have := HK2.out; have := HK3.out; have := HK4.out; omega
               case rel => exact ⟨(x7_2), (x8_2), (wrap64 (x11_2 + 1)), (by first | rfl | (simp; done) | (simp [*]; done)), (by first | rfl | (simp; done) | (simp [*]; done)), (by first | rfl | (simp; done) | (simp [*]; done)), H', ⟨by have := HK1.out; have := HK2.out; have := HK3.out; have := HK4.out; omega⟩, ⟨zqC HO_5.out⟩, ⟨zqA HB.out⟩⟩
      ·
       rw [if_neg c6] at H
       have c6b0 : decide (x11_2 < x9_1) = false := decide_eq_false c6
       clear c6
       replace H := Option.bind_eq_some_iff.mp H
       obtain ⟨⟨t489, t490⟩, A450, H⟩ := H
       replace H : ((pump_Least.f t486 (Int.tmod (wrap64 (a1)) 6)).bind fun bt491 => (if t490 = 0 then (if bt491.2 = 0 then (if t489 = x7_2 then (if bt491.1 = x8_2 then ((pianolalaw04_works.f).bind fun t493 => (some t493)) else (some false)) else (some false)) else (some false)) else (some false))) = some r := H
       have A45 := Aside0.mk A450
       clear A450
       replace H := Option.bind_eq_some_iff.mp H
       obtain ⟨⟨t491, t492⟩, A460, H⟩ := H
       replace H : (if t490 = 0 then (if t492 = 0 then (if t489 = x7_2 then (if t491 = x8_2 then ((pianolalaw04_works.f).bind fun t493 => (some t493)) else (some false)) else (some false)) else (some false)) else (some false)) = some r := H
       have A46 := Aside0.mk A460
       clear A460
       by_cases c47 : t490 = 0
       ·
        rw [if_pos c47] at H
        have c47b0 : (t490 == 0) = true := beq_iff_eq.mpr c47
        have c47b1 : (t490 != 0) = false := bne_eq_false_iff_eq.mpr c47
        clear c47
        by_cases c48 : t492 = 0
        ·
         rw [if_pos c48] at H
         have c48b0 : (t492 == 0) = true := beq_iff_eq.mpr c48
         have c48b1 : (t492 != 0) = false := bne_eq_false_iff_eq.mpr c48
         clear c48
         by_cases c49 : t489 = x7_2
         ·
          rw [if_pos c49] at H
          have c49b0 : (t489 == x7_2) = true := beq_iff_eq.mpr c49
          have c49b1 : (t489 != x7_2) = false := bne_eq_false_iff_eq.mpr c49
          clear c49
          by_cases c50 : t491 = x8_2
          ·
           rw [if_pos c50] at H
           have c50b0 : (t491 == x8_2) = true := beq_iff_eq.mpr c50
           have c50b1 : (t491 != x8_2) = false := bne_eq_false_iff_eq.mpr c50
           clear c50
           replace H := Option.bind_eq_some_iff.mp H
           obtain ⟨t493, A510, H⟩ := H
           replace H : (some t493) = some r := H
           have A51 := Aside0.mk A510
           clear A510
           obtain rfl := Option.some.inj H
           obtain ⟨Ao52, co52, eo52⟩ := Kd.R_slice HO_5.out
           subst eo52
           go_wp2_with (first | (go_at_call 17; (with_reducible refine (pump_Most.calls _ _ t486 (Int.tmod (wrap64 (a1)) 6) t489 t490 _ ?side1 ?side2 A45.out).mono ?_); (case side1 => repeat (first | exact (Kd.R_reads' HO_5.out).2.2 | (with_reducible refine Kd.C_alloc ?_ _) | (with_reducible refine Kd.C_drewN ?_ _) | (with_reducible refine Kd.C_drew ?_))); (case side2 => exact (Kd.R_reads' HO_5.out).2.1); rintro e w53 ⟨rfl, hb⟩; have n0_ := Aside0.mk (Kd.R_below (zqC HO_5.out) hb); have n1_ := Aside0.mk (below_step (zqA HB.out) hb); clear HO_5; clear HB; have HO_5 := n0_; have HB := n1_; clear n0_ n1_; (try clear hb); (try clear hb2); (try clear hk); (try clear hi)) | (go_at_call 19; (with_reducible refine (pump_Least.calls _ _ t486 (Int.tmod (wrap64 (a1)) 6) t491 t492 _ ?side1 ?side2 A46.out).mono ?_); (case side1 => repeat (first | exact (Kd.R_reads' HO_5.out).2.2 | (with_reducible refine Kd.C_alloc ?_ _) | (with_reducible refine Kd.C_drewN ?_ _) | (with_reducible refine Kd.C_drew ?_))); (case side2 => exact (Kd.R_reads' HO_5.out).2.1); rintro e w54 ⟨rfl, hb⟩; have n0_ := Aside0.mk (Kd.R_below (zqC HO_5.out) hb); have n1_ := Aside0.mk (below_step (zqA HB.out) hb); clear HO_5; clear HB; have HO_5 := n0_; have HB := n1_; clear n0_ n1_; (try clear hb); (try clear hb2); (try clear hk); (try clear hi)) | (go_at_call 15; (with_reducible refine (pianolalaw04_works.calls  t493 _ A51.out).mono ?_); rintro e w55 ⟨rfl, hb⟩; have n0_ := Aside0.mk (Kd.R_below (zqC HO_5.out) hb); have n1_ := Aside0.mk (below_step (zqA HB.out) hb); clear HO_5; clear HB; have HO_5 := n0_; have HB := n1_; clear n0_ n1_; (try clear hb); (try clear hb2); (try clear hk); (try clear hi)))
           repeat (go_quiet (first | (go_at_call 17; (with_reducible refine (pump_Most.calls _ _ t486 (Int.tmod (wrap64 (a1)) 6) t489 t490 _ ?side1 ?side2 A45.out).mono ?_); (case side1 => repeat (first | exact (Kd.R_reads' HO_5.out).2.2 | (with_reducible refine Kd.C_alloc ?_ _) | (with_reducible refine Kd.C_drewN ?_ _) | (with_reducible refine Kd.C_drew ?_))); (case side2 => exact (Kd.R_reads' HO_5.out).2.1); rintro e w53 ⟨rfl, hb⟩; have n0_ := Aside0.mk (Kd.R_below (zqC HO_5.out) hb); have n1_ := Aside0.mk (below_step (zqA HB.out) hb); clear HO_5; clear HB; have HO_5 := n0_; have HB := n1_; clear n0_ n1_; (try clear hb); (try clear hb2); (try clear hk); (try clear hi)) | (go_at_call 19; (with_reducible refine (pump_Least.calls _ _ t486 (Int.tmod (wrap64 (a1)) 6) t491 t492 _ ?side1 ?side2 A46.out).mono ?_); (case side1 => repeat (first | exact (Kd.R_reads' HO_5.out).2.2 | (with_reducible refine Kd.C_alloc ?_ _) | (with_reducible refine Kd.C_drewN ?_ _) | (with_reducible refine Kd.C_drew ?_))); (case side2 => exact (Kd.R_reads' HO_5.out).2.1); rintro e w54 ⟨rfl, hb⟩; have n0_ := Aside0.mk (Kd.R_below (zqC HO_5.out) hb); have n1_ := Aside0.mk (below_step (zqA HB.out) hb); clear HO_5; clear HB; have HO_5 := n0_; have HB := n1_; clear n0_ n1_; (try clear hb); (try clear hb2); (try clear hk); (try clear hi)) | (go_at_call 15; (with_reducible refine (pianolalaw04_works.calls  t493 _ A51.out).mono ?_); rintro e w55 ⟨rfl, hb⟩; have n0_ := Aside0.mk (Kd.R_below (zqC HO_5.out) hb); have n1_ := Aside0.mk (below_step (zqA HB.out) hb); clear HO_5; clear HB; have HO_5 := n0_; have HB := n1_; clear n0_ n1_; (try clear hb); (try clear hb2); (try clear hk); (try clear hi))); try go_wp2_with (first | (go_at_call 17; (with_reducible refine (pump_Most.calls _ _ t486 (Int.tmod (wrap64 (a1)) 6) t489 t490 _ ?side1 ?side2 A45.out).mono ?_); (case side1 => repeat (first | exact (Kd.R_reads' HO_5.out).2.2 | (with_reducible refine Kd.C_alloc ?_ _) | (with_reducible refine Kd.C_drewN ?_ _) | (with_reducible refine Kd.C_drew ?_))); (case side2 => exact (Kd.R_reads' HO_5.out).2.1); rintro e w53 ⟨rfl, hb⟩; have n0_ := Aside0.mk (Kd.R_below (zqC HO_5.out) hb); have n1_ := Aside0.mk (below_step (zqA HB.out) hb); clear HO_5; clear HB; have HO_5 := n0_; have HB := n1_; clear n0_ n1_; (try clear hb); (try clear hb2); (try clear hk); (try clear hi)) | (go_at_call 19; (with_reducible refine (pump_Least.calls _ _ t486 (Int.tmod (wrap64 (a1)) 6) t491 t492 _ ?side1 ?side2 A46.out).mono ?_); (case side1 => repeat (first | exact (Kd.R_reads' HO_5.out).2.2 | (with_reducible refine Kd.C_alloc ?_ _) | (with_reducible refine Kd.C_drewN ?_ _) | (with_reducible refine Kd.C_drew ?_))); (case side2 => exact (Kd.R_reads' HO_5.out).2.1); rintro e w54 ⟨rfl, hb⟩; have n0_ := Aside0.mk (Kd.R_below (zqC HO_5.out) hb); have n1_ := Aside0.mk (below_step (zqA HB.out) hb); clear HO_5; clear HB; have HO_5 := n0_; have HB := n1_; clear n0_ n1_; (try clear hb); (try clear hb2); (try clear hk); (try clear hi)) | (go_at_call 15; (with_reducible refine (pianolalaw04_works.calls  t493 _ A51.out).mono ?_); rintro e w55 ⟨rfl, hb⟩; have n0_ := Aside0.mk (Kd.R_below (zqC HO_5.out) hb); have n1_ := Aside0.mk (below_step (zqA HB.out) hb); clear HO_5; clear HB; have HO_5 := n0_; have HB := n1_; clear n0_ n1_; (try clear hb); (try clear hb2); (try clear hk); (try clear hi))))
           go_ret
           exact ⟨by first | rfl | (simp [errW_none, errW_some] <;> rfl) | (simp [*, errW_none, errW_some] <;> rfl), zqA HB.out⟩
          ·
           rw [if_neg c50] at H
           have c50b0 : (t491 == x8_2) = false := beq_eq_false_iff_ne.mpr c50
           have c50b1 : (t491 != x8_2) = true := bne_iff_ne.mpr c50
           obtain rfl := Option.some.inj H
           obtain ⟨Ao56, co56, eo56⟩ := Kd.R_slice HO_5.out
           subst eo56
           go_wp2_with (first | (go_at_call 17; (with_reducible refine (pump_Most.calls _ _ t486 (Int.tmod (wrap64 (a1)) 6) t489 t490 _ ?side1 ?side2 A45.out).mono ?_); (case side1 => repeat (first | exact (Kd.R_reads' HO_5.out).2.2 | (with_reducible refine Kd.C_alloc ?_ _) | (with_reducible refine Kd.C_drewN ?_ _) | (with_reducible refine Kd.C_drew ?_))); (case side2 => exact (Kd.R_reads' HO_5.out).2.1); rintro e w57 ⟨rfl, hb⟩; have n0_ := Aside0.mk (Kd.R_below (zqC HO_5.out) hb); have n1_ := Aside0.mk (below_step (zqA HB.out) hb); clear HO_5; clear HB; have HO_5 := n0_; have HB := n1_; clear n0_ n1_; (try clear hb); (try clear hb2); (try clear hk); (try clear hi)) | (go_at_call 19; (with_reducible refine (pump_Least.calls _ _ t486 (Int.tmod (wrap64 (a1)) 6) t491 t492 _ ?side1 ?side2 A46.out).mono ?_); (case side1 => repeat (first | exact (Kd.R_reads' HO_5.out).2.2 | (with_reducible refine Kd.C_alloc ?_ _) | (with_reducible refine Kd.C_drewN ?_ _) | (with_reducible refine Kd.C_drew ?_))); (case side2 => exact (Kd.R_reads' HO_5.out).2.1); rintro e w58 ⟨rfl, hb⟩; have n0_ := Aside0.mk (Kd.R_below (zqC HO_5.out) hb); have n1_ := Aside0.mk (below_step (zqA HB.out) hb); clear HO_5; clear HB; have HO_5 := n0_; have HB := n1_; clear n0_ n1_; (try clear hb); (try clear hb2); (try clear hk); (try clear hi)))
           repeat (go_quiet (first | (go_at_call 17; (with_reducible refine (pump_Most.calls _ _ t486 (Int.tmod (wrap64 (a1)) 6) t489 t490 _ ?side1 ?side2 A45.out).mono ?_); (case side1 => repeat (first | exact (Kd.R_reads' HO_5.out).2.2 | (with_reducible refine Kd.C_alloc ?_ _) | (with_reducible refine Kd.C_drewN ?_ _) | (with_reducible refine Kd.C_drew ?_))); (case side2 => exact (Kd.R_reads' HO_5.out).2.1); rintro e w57 ⟨rfl, hb⟩; have n0_ := Aside0.mk (Kd.R_below (zqC HO_5.out) hb); have n1_ := Aside0.mk (below_step (zqA HB.out) hb); clear HO_5; clear HB; have HO_5 := n0_; have HB := n1_; clear n0_ n1_; (try clear hb); (try clear hb2); (try clear hk); (try clear hi)) | (go_at_call 19; (with_reducible refine (pump_Least.calls _ _ t486 (Int.tmod (wrap64 (a1)) 6) t491 t492 _ ?side1 ?side2 A46.out).mono ?_); (case side1 => repeat (first | exact (Kd.R_reads' HO_5.out).2.2 | (with_reducible refine Kd.C_alloc ?_ _) | (with_reducible refine Kd.C_drewN ?_ _) | (with_reducible refine Kd.C_drew ?_))); (case side2 => exact (Kd.R_reads' HO_5.out).2.1); rintro e w58 ⟨rfl, hb⟩; have n0_ := Aside0.mk (Kd.R_below (zqC HO_5.out) hb); have n1_ := Aside0.mk (below_step (zqA HB.out) hb); clear HO_5; clear HB; have HO_5 := n0_; have HB := n1_; clear n0_ n1_; (try clear hb); (try clear hb2); (try clear hk); (try clear hi))); try go_wp2_with (first | (go_at_call 17; (with_reducible refine (pump_Most.calls _ _ t486 (Int.tmod (wrap64 (a1)) 6) t489 t490 _ ?side1 ?side2 A45.out).mono ?_); (case side1 => repeat (first | exact (Kd.R_reads' HO_5.out).2.2 | (with_reducible refine Kd.C_alloc ?_ _) | (with_reducible refine Kd.C_drewN ?_ _) | (with_reducible refine Kd.C_drew ?_))); (case side2 => exact (Kd.R_reads' HO_5.out).2.1); rintro e w57 ⟨rfl, hb⟩; have n0_ := Aside0.mk (Kd.R_below (zqC HO_5.out) hb); have n1_ := Aside0.mk (below_step (zqA HB.out) hb); clear HO_5; clear HB; have HO_5 := n0_; have HB := n1_; clear n0_ n1_; (try clear hb); (try clear hb2); (try clear hk); (try clear hi)) | (go_at_call 19; (with_reducible refine (pump_Least.calls _ _ t486 (Int.tmod (wrap64 (a1)) 6) t491 t492 _ ?side1 ?side2 A46.out).mono ?_); (case side1 => repeat (first | exact (Kd.R_reads' HO_5.out).2.2 | (with_reducible refine Kd.C_alloc ?_ _) | (with_reducible refine Kd.C_drewN ?_ _) | (with_reducible refine Kd.C_drew ?_))); (case side2 => exact (Kd.R_reads' HO_5.out).2.1); rintro e w58 ⟨rfl, hb⟩; have n0_ := Aside0.mk (Kd.R_below (zqC HO_5.out) hb); have n1_ := Aside0.mk (below_step (zqA HB.out) hb); clear HO_5; clear HB; have HO_5 := n0_; have HB := n1_; clear n0_ n1_; (try clear hb); (try clear hb2); (try clear hk); (try clear hi))))
           go_ret
           exact ⟨by first | rfl | (simp [errW_none, errW_some] <;> rfl) | (simp [*, errW_none, errW_some] <;> rfl), zqA HB.out⟩
         ·
          rw [if_neg c49] at H
          have c49b0 : (t489 == x7_2) = false := beq_eq_false_iff_ne.mpr c49
          have c49b1 : (t489 != x7_2) = true := bne_iff_ne.mpr c49
          obtain rfl := Option.some.inj H
          obtain ⟨Ao59, co59, eo59⟩ := Kd.R_slice HO_5.out
          subst eo59
          go_wp2_with (first | (go_at_call 17; (with_reducible refine (pump_Most.calls _ _ t486 (Int.tmod (wrap64 (a1)) 6) t489 t490 _ ?side1 ?side2 A45.out).mono ?_); (case side1 => repeat (first | exact (Kd.R_reads' HO_5.out).2.2 | (with_reducible refine Kd.C_alloc ?_ _) | (with_reducible refine Kd.C_drewN ?_ _) | (with_reducible refine Kd.C_drew ?_))); (case side2 => exact (Kd.R_reads' HO_5.out).2.1); rintro e w60 ⟨rfl, hb⟩; have n0_ := Aside0.mk (Kd.R_below (zqC HO_5.out) hb); have n1_ := Aside0.mk (below_step (zqA HB.out) hb); clear HO_5; clear HB; have HO_5 := n0_; have HB := n1_; clear n0_ n1_; (try clear hb); (try clear hb2); (try clear hk); (try clear hi)) | (go_at_call 19; (with_reducible refine (pump_Least.calls _ _ t486 (Int.tmod (wrap64 (a1)) 6) t491 t492 _ ?side1 ?side2 A46.out).mono ?_); (case side1 => repeat (first | exact (Kd.R_reads' HO_5.out).2.2 | (with_reducible refine Kd.C_alloc ?_ _) | (with_reducible refine Kd.C_drewN ?_ _) | (with_reducible refine Kd.C_drew ?_))); (case side2 => exact (Kd.R_reads' HO_5.out).2.1); rintro e w61 ⟨rfl, hb⟩; have n0_ := Aside0.mk (Kd.R_below (zqC HO_5.out) hb); have n1_ := Aside0.mk (below_step (zqA HB.out) hb); clear HO_5; clear HB; have HO_5 := n0_; have HB := n1_; clear n0_ n1_; (try clear hb); (try clear hb2); (try clear hk); (try clear hi)))
          repeat (go_quiet (first | (go_at_call 17; (with_reducible refine (pump_Most.calls _ _ t486 (Int.tmod (wrap64 (a1)) 6) t489 t490 _ ?side1 ?side2 A45.out).mono ?_); (case side1 => repeat (first | exact (Kd.R_reads' HO_5.out).2.2 | (with_reducible refine Kd.C_alloc ?_ _) | (with_reducible refine Kd.C_drewN ?_ _) | (with_reducible refine Kd.C_drew ?_))); (case side2 => exact (Kd.R_reads' HO_5.out).2.1); rintro e w60 ⟨rfl, hb⟩; have n0_ := Aside0.mk (Kd.R_below (zqC HO_5.out) hb); have n1_ := Aside0.mk (below_step (zqA HB.out) hb); clear HO_5; clear HB; have HO_5 := n0_; have HB := n1_; clear n0_ n1_; (try clear hb); (try clear hb2); (try clear hk); (try clear hi)) | (go_at_call 19; (with_reducible refine (pump_Least.calls _ _ t486 (Int.tmod (wrap64 (a1)) 6) t491 t492 _ ?side1 ?side2 A46.out).mono ?_); (case side1 => repeat (first | exact (Kd.R_reads' HO_5.out).2.2 | (with_reducible refine Kd.C_alloc ?_ _) | (with_reducible refine Kd.C_drewN ?_ _) | (with_reducible refine Kd.C_drew ?_))); (case side2 => exact (Kd.R_reads' HO_5.out).2.1); rintro e w61 ⟨rfl, hb⟩; have n0_ := Aside0.mk (Kd.R_below (zqC HO_5.out) hb); have n1_ := Aside0.mk (below_step (zqA HB.out) hb); clear HO_5; clear HB; have HO_5 := n0_; have HB := n1_; clear n0_ n1_; (try clear hb); (try clear hb2); (try clear hk); (try clear hi))); try go_wp2_with (first | (go_at_call 17; (with_reducible refine (pump_Most.calls _ _ t486 (Int.tmod (wrap64 (a1)) 6) t489 t490 _ ?side1 ?side2 A45.out).mono ?_); (case side1 => repeat (first | exact (Kd.R_reads' HO_5.out).2.2 | (with_reducible refine Kd.C_alloc ?_ _) | (with_reducible refine Kd.C_drewN ?_ _) | (with_reducible refine Kd.C_drew ?_))); (case side2 => exact (Kd.R_reads' HO_5.out).2.1); rintro e w60 ⟨rfl, hb⟩; have n0_ := Aside0.mk (Kd.R_below (zqC HO_5.out) hb); have n1_ := Aside0.mk (below_step (zqA HB.out) hb); clear HO_5; clear HB; have HO_5 := n0_; have HB := n1_; clear n0_ n1_; (try clear hb); (try clear hb2); (try clear hk); (try clear hi)) | (go_at_call 19; (with_reducible refine (pump_Least.calls _ _ t486 (Int.tmod (wrap64 (a1)) 6) t491 t492 _ ?side1 ?side2 A46.out).mono ?_); (case side1 => repeat (first | exact (Kd.R_reads' HO_5.out).2.2 | (with_reducible refine Kd.C_alloc ?_ _) | (with_reducible refine Kd.C_drewN ?_ _) | (with_reducible refine Kd.C_drew ?_))); (case side2 => exact (Kd.R_reads' HO_5.out).2.1); rintro e w61 ⟨rfl, hb⟩; have n0_ := Aside0.mk (Kd.R_below (zqC HO_5.out) hb); have n1_ := Aside0.mk (below_step (zqA HB.out) hb); clear HO_5; clear HB; have HO_5 := n0_; have HB := n1_; clear n0_ n1_; (try clear hb); (try clear hb2); (try clear hk); (try clear hi))))
          go_ret
          exact ⟨by first | rfl | (simp [errW_none, errW_some] <;> rfl) | (simp [*, errW_none, errW_some] <;> rfl), zqA HB.out⟩
        ·
         rw [if_neg c48] at H
         have c48b0 : (t492 == 0) = false := beq_eq_false_iff_ne.mpr c48
         have c48b1 : (t492 != 0) = true := bne_iff_ne.mpr c48
         obtain rfl := Option.some.inj H
         obtain ⟨Ao62, co62, eo62⟩ := Kd.R_slice HO_5.out
         subst eo62
         go_wp2_with (first | (go_at_call 17; (with_reducible refine (pump_Most.calls _ _ t486 (Int.tmod (wrap64 (a1)) 6) t489 t490 _ ?side1 ?side2 A45.out).mono ?_); (case side1 => repeat (first | exact (Kd.R_reads' HO_5.out).2.2 | (with_reducible refine Kd.C_alloc ?_ _) | (with_reducible refine Kd.C_drewN ?_ _) | (with_reducible refine Kd.C_drew ?_))); (case side2 => exact (Kd.R_reads' HO_5.out).2.1); rintro e w63 ⟨rfl, hb⟩; have n0_ := Aside0.mk (Kd.R_below (zqC HO_5.out) hb); have n1_ := Aside0.mk (below_step (zqA HB.out) hb); clear HO_5; clear HB; have HO_5 := n0_; have HB := n1_; clear n0_ n1_; (try clear hb); (try clear hb2); (try clear hk); (try clear hi)) | (go_at_call 19; (with_reducible refine (pump_Least.calls _ _ t486 (Int.tmod (wrap64 (a1)) 6) t491 t492 _ ?side1 ?side2 A46.out).mono ?_); (case side1 => repeat (first | exact (Kd.R_reads' HO_5.out).2.2 | (with_reducible refine Kd.C_alloc ?_ _) | (with_reducible refine Kd.C_drewN ?_ _) | (with_reducible refine Kd.C_drew ?_))); (case side2 => exact (Kd.R_reads' HO_5.out).2.1); rintro e w64 ⟨rfl, hb⟩; have n0_ := Aside0.mk (Kd.R_below (zqC HO_5.out) hb); have n1_ := Aside0.mk (below_step (zqA HB.out) hb); clear HO_5; clear HB; have HO_5 := n0_; have HB := n1_; clear n0_ n1_; (try clear hb); (try clear hb2); (try clear hk); (try clear hi)))
         repeat (go_quiet (first | (go_at_call 17; (with_reducible refine (pump_Most.calls _ _ t486 (Int.tmod (wrap64 (a1)) 6) t489 t490 _ ?side1 ?side2 A45.out).mono ?_); (case side1 => repeat (first | exact (Kd.R_reads' HO_5.out).2.2 | (with_reducible refine Kd.C_alloc ?_ _) | (with_reducible refine Kd.C_drewN ?_ _) | (with_reducible refine Kd.C_drew ?_))); (case side2 => exact (Kd.R_reads' HO_5.out).2.1); rintro e w63 ⟨rfl, hb⟩; have n0_ := Aside0.mk (Kd.R_below (zqC HO_5.out) hb); have n1_ := Aside0.mk (below_step (zqA HB.out) hb); clear HO_5; clear HB; have HO_5 := n0_; have HB := n1_; clear n0_ n1_; (try clear hb); (try clear hb2); (try clear hk); (try clear hi)) | (go_at_call 19; (with_reducible refine (pump_Least.calls _ _ t486 (Int.tmod (wrap64 (a1)) 6) t491 t492 _ ?side1 ?side2 A46.out).mono ?_); (case side1 => repeat (first | exact (Kd.R_reads' HO_5.out).2.2 | (with_reducible refine Kd.C_alloc ?_ _) | (with_reducible refine Kd.C_drewN ?_ _) | (with_reducible refine Kd.C_drew ?_))); (case side2 => exact (Kd.R_reads' HO_5.out).2.1); rintro e w64 ⟨rfl, hb⟩; have n0_ := Aside0.mk (Kd.R_below (zqC HO_5.out) hb); have n1_ := Aside0.mk (below_step (zqA HB.out) hb); clear HO_5; clear HB; have HO_5 := n0_; have HB := n1_; clear n0_ n1_; (try clear hb); (try clear hb2); (try clear hk); (try clear hi))); try go_wp2_with (first | (go_at_call 17; (with_reducible refine (pump_Most.calls _ _ t486 (Int.tmod (wrap64 (a1)) 6) t489 t490 _ ?side1 ?side2 A45.out).mono ?_); (case side1 => repeat (first | exact (Kd.R_reads' HO_5.out).2.2 | (with_reducible refine Kd.C_alloc ?_ _) | (with_reducible refine Kd.C_drewN ?_ _) | (with_reducible refine Kd.C_drew ?_))); (case side2 => exact (Kd.R_reads' HO_5.out).2.1); rintro e w63 ⟨rfl, hb⟩; have n0_ := Aside0.mk (Kd.R_below (zqC HO_5.out) hb); have n1_ := Aside0.mk (below_step (zqA HB.out) hb); clear HO_5; clear HB; have HO_5 := n0_; have HB := n1_; clear n0_ n1_; (try clear hb); (try clear hb2); (try clear hk); (try clear hi)) | (go_at_call 19; (with_reducible refine (pump_Least.calls _ _ t486 (Int.tmod (wrap64 (a1)) 6) t491 t492 _ ?side1 ?side2 A46.out).mono ?_); (case side1 => repeat (first | exact (Kd.R_reads' HO_5.out).2.2 | (with_reducible refine Kd.C_alloc ?_ _) | (with_reducible refine Kd.C_drewN ?_ _) | (with_reducible refine Kd.C_drew ?_))); (case side2 => exact (Kd.R_reads' HO_5.out).2.1); rintro e w64 ⟨rfl, hb⟩; have n0_ := Aside0.mk (Kd.R_below (zqC HO_5.out) hb); have n1_ := Aside0.mk (below_step (zqA HB.out) hb); clear HO_5; clear HB; have HO_5 := n0_; have HB := n1_; clear n0_ n1_; (try clear hb); (try clear hb2); (try clear hk); (try clear hi))))
         go_ret
         exact ⟨by first | rfl | (simp [errW_none, errW_some] <;> rfl) | (simp [*, errW_none, errW_some] <;> rfl), zqA HB.out⟩
       ·
        rw [if_neg c47] at H
        have c47b0 : (t490 == 0) = false := beq_eq_false_iff_ne.mpr c47
        have c47b1 : (t490 != 0) = true := bne_iff_ne.mpr c47
        obtain rfl := Option.some.inj H
        obtain ⟨Ao65, co65, eo65⟩ := Kd.R_slice HO_5.out
        subst eo65
        go_wp2_with (first | (go_at_call 17; (with_reducible refine (pump_Most.calls _ _ t486 (Int.tmod (wrap64 (a1)) 6) t489 t490 _ ?side1 ?side2 A45.out).mono ?_); (case side1 => repeat (first | exact (Kd.R_reads' HO_5.out).2.2 | (with_reducible refine Kd.C_alloc ?_ _) | (with_reducible refine Kd.C_drewN ?_ _) | (with_reducible refine Kd.C_drew ?_))); (case side2 => exact (Kd.R_reads' HO_5.out).2.1); rintro e w66 ⟨rfl, hb⟩; have n0_ := Aside0.mk (Kd.R_below (zqC HO_5.out) hb); have n1_ := Aside0.mk (below_step (zqA HB.out) hb); clear HO_5; clear HB; have HO_5 := n0_; have HB := n1_; clear n0_ n1_; (try clear hb); (try clear hb2); (try clear hk); (try clear hi)) | (go_at_call 19; (with_reducible refine (pump_Least.calls _ _ t486 (Int.tmod (wrap64 (a1)) 6) t491 t492 _ ?side1 ?side2 A46.out).mono ?_); (case side1 => repeat (first | exact (Kd.R_reads' HO_5.out).2.2 | (with_reducible refine Kd.C_alloc ?_ _) | (with_reducible refine Kd.C_drewN ?_ _) | (with_reducible refine Kd.C_drew ?_))); (case side2 => exact (Kd.R_reads' HO_5.out).2.1); rintro e w67 ⟨rfl, hb⟩; have n0_ := Aside0.mk (Kd.R_below (zqC HO_5.out) hb); have n1_ := Aside0.mk (below_step (zqA HB.out) hb); clear HO_5; clear HB; have HO_5 := n0_; have HB := n1_; clear n0_ n1_; (try clear hb); (try clear hb2); (try clear hk); (try clear hi)))
        repeat (go_quiet (first | (go_at_call 17; (with_reducible refine (pump_Most.calls _ _ t486 (Int.tmod (wrap64 (a1)) 6) t489 t490 _ ?side1 ?side2 A45.out).mono ?_); (case side1 => repeat (first | exact (Kd.R_reads' HO_5.out).2.2 | (with_reducible refine Kd.C_alloc ?_ _) | (with_reducible refine Kd.C_drewN ?_ _) | (with_reducible refine Kd.C_drew ?_))); (case side2 => exact (Kd.R_reads' HO_5.out).2.1); rintro e w66 ⟨rfl, hb⟩; have n0_ := Aside0.mk (Kd.R_below (zqC HO_5.out) hb); have n1_ := Aside0.mk (below_step (zqA HB.out) hb); clear HO_5; clear HB; have HO_5 := n0_; have HB := n1_; clear n0_ n1_; (try clear hb); (try clear hb2); (try clear hk); (try clear hi)) | (go_at_call 19; (with_reducible refine (pump_Least.calls _ _ t486 (Int.tmod (wrap64 (a1)) 6) t491 t492 _ ?side1 ?side2 A46.out).mono ?_); (case side1 => repeat (first | exact (Kd.R_reads' HO_5.out).2.2 | (with_reducible refine Kd.C_alloc ?_ _) | (with_reducible refine Kd.C_drewN ?_ _) | (with_reducible refine Kd.C_drew ?_))); (case side2 => exact (Kd.R_reads' HO_5.out).2.1); rintro e w67 ⟨rfl, hb⟩; have n0_ := Aside0.mk (Kd.R_below (zqC HO_5.out) hb); have n1_ := Aside0.mk (below_step (zqA HB.out) hb); clear HO_5; clear HB; have HO_5 := n0_; have HB := n1_; clear n0_ n1_; (try clear hb); (try clear hb2); (try clear hk); (try clear hi))); try go_wp2_with (first | (go_at_call 17; (with_reducible refine (pump_Most.calls _ _ t486 (Int.tmod (wrap64 (a1)) 6) t489 t490 _ ?side1 ?side2 A45.out).mono ?_); (case side1 => repeat (first | exact (Kd.R_reads' HO_5.out).2.2 | (with_reducible refine Kd.C_alloc ?_ _) | (with_reducible refine Kd.C_drewN ?_ _) | (with_reducible refine Kd.C_drew ?_))); (case side2 => exact (Kd.R_reads' HO_5.out).2.1); rintro e w66 ⟨rfl, hb⟩; have n0_ := Aside0.mk (Kd.R_below (zqC HO_5.out) hb); have n1_ := Aside0.mk (below_step (zqA HB.out) hb); clear HO_5; clear HB; have HO_5 := n0_; have HB := n1_; clear n0_ n1_; (try clear hb); (try clear hb2); (try clear hk); (try clear hi)) | (go_at_call 19; (with_reducible refine (pump_Least.calls _ _ t486 (Int.tmod (wrap64 (a1)) 6) t491 t492 _ ?side1 ?side2 A46.out).mono ?_); (case side1 => repeat (first | exact (Kd.R_reads' HO_5.out).2.2 | (with_reducible refine Kd.C_alloc ?_ _) | (with_reducible refine Kd.C_drewN ?_ _) | (with_reducible refine Kd.C_drew ?_))); (case side2 => exact (Kd.R_reads' HO_5.out).2.1); rintro e w67 ⟨rfl, hb⟩; have n0_ := Aside0.mk (Kd.R_below (zqC HO_5.out) hb); have n1_ := Aside0.mk (below_step (zqA HB.out) hb); clear HO_5; clear HB; have HO_5 := n0_; have HB := n1_; clear n0_ n1_; (try clear hb); (try clear hb2); (try clear hk); (try clear hi))))
        go_ret
        exact ⟨by first | rfl | (simp [errW_none, errW_some] <;> rfl) | (simp [*, errW_none, errW_some] <;> rfl), zqA HB.out⟩
end Go.Proofs.Ythoeindopljmkaa.P
end
section
namespace Pm
abbrev B2 := Int × Int
structure Bds (L : List B2) : Prop where
  ne : L ≠ []
  t : ∀ b ∈ L, 1 ≤ b.1 ∧ b.1 ≤ 100
  a : ∀ b ∈ L, 0 ≤ b.2 ∧ b.2 ≤ 1000000
def minFrom (f : B2 → Int) : List B2 → Int → Int → Int → Int × Int
  | [], _, s, k => (s, k)
  | b :: l, i, s, k => if i = 0 ∨ f b < s then minFrom f l (i + 1) (f b) i else minFrom f l (i + 1) s k
def maxFrom (n : Int) (f : B2 → Int) : List B2 → Int → Int → Int → Int × Int
  | [], _, s, k => (s, k)
  | b :: l, i, s, k => if b.1 ≤ n ∧ f b > s then maxFrom n f l (i + 1) (f b) i else maxFrom n f l (i + 1) s k
theorem minFrom_le (f : B2 → Int) : ∀ (l : List B2) (i s k : Int), 0 < i → (minFrom f l i s k).1 ≤ s ∧ ∀ b ∈ l, (minFrom f l i s k).1 ≤ f b
  | [], _, s, k, _ => ⟨Int.le_refl _, fun _ h => by cases h⟩
  | b :: l, i, s, k, hi => by
    unfold minFrom
    by_cases c : i = 0 ∨ f b < s
    · rw [if_pos c]
      obtain ⟨h1, h2⟩ := minFrom_le f l (i + 1) (f b) i (by omega)
      refine ⟨by omega, fun x hx => ?_⟩
      cases hx with
      | head => exact h1
      | tail _ hx => exact h2 x hx
    · rw [if_neg c]
      obtain ⟨h1, h2⟩ := minFrom_le f l (i + 1) s k (by omega)
      refine ⟨h1, fun x hx => ?_⟩
      cases hx with
      | head => omega
      | tail _ hx => exact h2 x hx
theorem minFrom_at (f : B2 → Int) : ∀ (l pre : List B2) (s k : Int), (k = -1 ∧ pre = [] ∨ ∃ j : Nat, k = j ∧ ∃ b, (pre ++ l)[j]? = some b ∧ j < pre.length ∧ f b = s) →
    (minFrom f l (pre.length : Int) s k = (s, k) ∧ l = [] ∧ pre = []) ∨ ∃ j : Nat, (minFrom f l (pre.length : Int) s k).2 = j ∧ ∃ b, (pre ++ l)[j]? = some b ∧ f b = (minFrom f l (pre.length : Int) s k).1
  | [], pre, s, k, h => by
    rcases h with ⟨h1, h2⟩ | ⟨j, hj, b, hb, _, hf⟩
    · exact .inl ⟨rfl, rfl, h2⟩
    · exact .inr ⟨j, hj, b, hb, hf⟩
  | b :: l, pre, s, k, h => by
    have e : pre ++ b :: l = (pre ++ [b]) ++ l := by simp
    have el : ((pre ++ [b]).length : Int) = (pre.length : Int) + 1 := by simp
    unfold minFrom
    by_cases c : (pre.length : Int) = 0 ∨ f b < s
    · rw [if_pos c, ← el, e]
      rcases minFrom_at f l (pre ++ [b]) (f b) pre.length (.inr ⟨pre.length, rfl, b, by simp, by simp, rfl⟩) with ⟨_, _, h3⟩ | h
      · simp at h3
      · exact .inr h
    · rw [if_neg c, ← el, e]
      rcases h with ⟨h1, h2⟩ | ⟨j, hj, x, hx, hlt, hf⟩
      · exact absurd (.inl (by rw [h2]; rfl)) c
      · rcases minFrom_at f l (pre ++ [b]) s k (.inr ⟨j, hj, x, by rw [← e]; exact hx, by simp; omega, hf⟩) with ⟨_, _, h3⟩ | h
        · simp at h3
        · exact .inr h
theorem maxFrom_le (n : Int) (f : B2 → Int) : ∀ (l : List B2) (i s k : Int), s ≤ (maxFrom n f l i s k).1 ∧ ∀ b ∈ l, b.1 ≤ n → f b ≤ (maxFrom n f l i s k).1
  | [], _, s, k => ⟨Int.le_refl _, fun _ h => by cases h⟩
  | b :: l, i, s, k => by
    unfold maxFrom
    by_cases c : b.1 ≤ n ∧ f b > s
    · rw [if_pos c]
      obtain ⟨h1, h2⟩ := maxFrom_le n f l (i + 1) (f b) i
      refine ⟨by omega, fun x hx hn => ?_⟩
      cases hx with
      | head => exact h1
      | tail _ hx => exact h2 x hx hn
    · rw [if_neg c]
      obtain ⟨h1, h2⟩ := maxFrom_le n f l (i + 1) s k
      refine ⟨h1, fun x hx hn => ?_⟩
      cases hx with
      | head => omega
      | tail _ hx => exact h2 x hx hn
theorem maxFrom_at (n : Int) (f : B2 → Int) : ∀ (l pre : List B2) (s0 s k : Int), (k = -1 ∧ s = s0 ∨ ∃ j : Nat, k = j ∧ ∃ b, (pre ++ l)[j]? = some b ∧ f b = s ∧ b.1 ≤ n) →
    ((maxFrom n f l (pre.length : Int) s k).2 = -1 ∧ (maxFrom n f l (pre.length : Int) s k).1 = s0) ∨ ∃ j : Nat, (maxFrom n f l (pre.length : Int) s k).2 = j ∧ ∃ b, (pre ++ l)[j]? = some b ∧ f b = (maxFrom n f l (pre.length : Int) s k).1 ∧ b.1 ≤ n
  | [], pre, s0, s, k, h => by
    rcases h with ⟨h1, h2⟩ | ⟨j, hj, b, hb, hf, hn⟩
    · exact .inl ⟨h1, h2⟩
    · exact .inr ⟨j, hj, b, hb, hf, hn⟩
  | b :: l, pre, s0, s, k, h => by
    have e : pre ++ b :: l = (pre ++ [b]) ++ l := by simp
    have el : ((pre ++ [b]).length : Int) = (pre.length : Int) + 1 := by simp
    unfold maxFrom
    by_cases c : b.1 ≤ n ∧ f b > s
    · rw [if_pos c, ← el, e]
      exact maxFrom_at n f l (pre ++ [b]) s0 (f b) pre.length (.inr ⟨pre.length, rfl, b, by simp, rfl, c.1⟩)
    · rw [if_neg c, ← el, e]
      exact maxFrom_at n f l (pre ++ [b]) s0 s k (by rw [← e]; exact h)
def stepM (L : List B2) (s : List Int) : Int × Int := minFrom (fun b => s.getD (max 0 ((s.length : Int) - b.1)).toNat 0 + b.2) L 0 0 0
def stepL (L : List B2) (s : List Int) : Int × Int := maxFrom (s.length : Int) (fun b => s.getD ((s.length : Int) - b.1).toNat 0 + b.2) L 0 (s.getD (s.length - 1) 0) (-1)
def tabF (R : List Int → Int × Int) : Nat → List Int × List Int
  | 0 => ([0], [-1])
  | n + 1 => ((tabF R n).1 ++ [(R (tabF R n).1).1], (tabF R n).2 ++ [(R (tabF R n).1).2])
theorem tabF_len (R : List Int → Int × Int) : ∀ n, (tabF R n).1.length = n + 1 ∧ (tabF R n).2.length = n + 1
  | 0 => ⟨rfl, rfl⟩
  | n + 1 => by
    obtain ⟨h1, h2⟩ := tabF_len R n
    simp [tabF, h1, h2]
def valF (R : List Int → Int × Int) (n : Nat) : Int := (tabF R n).1.getD n 0
def lastF (R : List Int → Int × Int) (n : Nat) : Int := (tabF R n).2.getD n 0
theorem tabF_get (R : List Int → Int × Int) : ∀ (n m : Nat), m ≤ n → (tabF R n).1.getD m 0 = valF R m ∧ (tabF R n).2.getD m 0 = lastF R m
  | 0, m, h => by
    have : m = 0 := by omega
    subst this
    exact ⟨rfl, rfl⟩
  | n + 1, m, h => by
    by_cases c : m = n + 1
    · subst c; exact ⟨rfl, rfl⟩
    · obtain ⟨h1, h2⟩ := tabF_get R n m (by omega)
      obtain ⟨l1, l2⟩ := tabF_len R n
      simp only [tabF]
      rw [List.getD_eq_getElem?_getD, List.getElem?_append_left (by omega), ← List.getD_eq_getElem?_getD, h1, List.getD_eq_getElem?_getD, List.getElem?_append_left (by omega), ← List.getD_eq_getElem?_getD, h2]
      exact ⟨rfl, rfl⟩
theorem valF_succ (R : List Int → Int × Int) (n : Nat) : valF R (n + 1) = (R (tabF R n).1).1 ∧ lastF R (n + 1) = (R (tabF R n).1).2 := by
  obtain ⟨l1, l2⟩ := tabF_len R n
  unfold valF lastF
  simp only [tabF]
  rw [List.getD_eq_getElem?_getD, List.getElem?_append_right (by omega), List.getD_eq_getElem?_getD, List.getElem?_append_right (by omega), l1, l2]
  simp
def mst (L : List B2) : Nat → Int := valF (stepM L)
def lst (L : List B2) : Nat → Int := valF (stepL L)
section
variable {L : List B2} (h : Bds L)
include h
theorem mst_spec (n : Nat) : (∀ b ∈ L, mst L (n + 1) ≤ mst L (n + 1 - b.1.toNat) + b.2) ∧ ∃ j : Nat, lastF (stepM L) (n + 1) = j ∧ ∃ b, L[j]? = some b ∧ mst L (n + 1) = mst L (n + 1 - b.1.toNat) + b.2 := by
  obtain ⟨l1, _⟩ := tabF_len (stepM L) n
  have hg : ∀ b ∈ L, (tabF (stepM L) n).1.getD (max 0 (((tabF (stepM L) n).1.length : Int) - b.1)).toNat 0 = mst L (n + 1 - b.1.toNat) := by
    intro b hb
    have := h.t b hb
    rw [show (max 0 (((tabF (stepM L) n).1.length : Int) - b.1)).toNat = n + 1 - b.1.toNat by omega]
    exact (tabF_get (stepM L) n _ (by omega)).1
  have hv := valF_succ (stepM L) n
  have hne := h.ne
  constructor
  · intro b hb
    show valF (stepM L) (n + 1) ≤ _
    rw [hv.1, ← hg b hb]
    unfold stepM
    cases L with
    | nil => exact absurd rfl hne
    | cons c l =>
      unfold minFrom
      rw [if_pos (.inl rfl)]
      obtain ⟨m1, m2⟩ := minFrom_le (fun b => (tabF (stepM (c :: l)) n).1.getD (max 0 (((tabF (stepM (c :: l)) n).1.length : Int) - b.1)).toNat 0 + b.2) l (0 + 1) ((tabF (stepM (c :: l)) n).1.getD (max 0 (((tabF (stepM (c :: l)) n).1.length : Int) - c.1)).toNat 0 + c.2) 0 (by omega)
      cases hb with
      | head => exact m1
      | tail _ hb => exact m2 b hb
  · rw [hv.2]
    show ∃ j : Nat, _ ∧ ∃ b, _ ∧ valF (stepM L) (n + 1) = _
    rw [hv.1]
    have := minFrom_at (fun b => (tabF (stepM L) n).1.getD (max 0 (((tabF (stepM L) n).1.length : Int) - b.1)).toNat 0 + b.2) L [] 0 0
    unfold stepM
    cases L with
    | nil => exact absurd rfl hne
    | cons c l =>
      unfold minFrom
      rw [if_pos (.inl rfl)]
      rcases minFrom_at (fun b => (tabF (stepM (c :: l)) n).1.getD (max 0 (((tabF (stepM (c :: l)) n).1.length : Int) - b.1)).toNat 0 + b.2) l [c] ((tabF (stepM (c :: l)) n).1.getD (max 0 (((tabF (stepM (c :: l)) n).1.length : Int) - c.1)).toNat 0 + c.2) 0 (.inr ⟨0, rfl, c, rfl, by simp, rfl⟩) with ⟨_, _, h3⟩ | ⟨j, hj, b, hb, hf⟩
      · simp at h3
      · refine ⟨j, hj, b, hb, ?_⟩
        rw [← hg b (List.mem_of_getElem? hb)]
        exact hf.symm
theorem lst_spec (n : Nat) : lst L n ≤ lst L (n + 1) ∧ (∀ b ∈ L, b.1 ≤ (n : Int) + 1 → lst L (n + 1 - b.1.toNat) + b.2 ≤ lst L (n + 1)) ∧
    ((lastF (stepL L) (n + 1) = -1 ∧ lst L (n + 1) = lst L n) ∨ ∃ j : Nat, lastF (stepL L) (n + 1) = j ∧ ∃ b, L[j]? = some b ∧ b.1 ≤ (n : Int) + 1 ∧ lst L (n + 1) = lst L (n + 1 - b.1.toNat) + b.2) := by
  obtain ⟨l1, _⟩ := tabF_len (stepL L) n
  have hg : ∀ b ∈ L, b.1 ≤ (n : Int) + 1 → (tabF (stepL L) n).1.getD (((tabF (stepL L) n).1.length : Int) - b.1).toNat 0 = lst L (n + 1 - b.1.toNat) := by
    intro b hb hn
    have := h.t b hb
    rw [show (((tabF (stepL L) n).1.length : Int) - b.1).toNat = n + 1 - b.1.toNat by omega]
    exact (tabF_get (stepL L) n _ (by omega)).1
  have h0 : (tabF (stepL L) n).1.getD ((tabF (stepL L) n).1.length - 1) 0 = lst L n := by
    rw [l1]
    exact (tabF_get (stepL L) n n (by omega)).1
  have hv := valF_succ (stepL L) n
  have hm := maxFrom_le ((tabF (stepL L) n).1.length : Int) (fun b => (tabF (stepL L) n).1.getD (((tabF (stepL L) n).1.length : Int) - b.1).toNat 0 + b.2) L 0 ((tabF (stepL L) n).1.getD ((tabF (stepL L) n).1.length - 1) 0) (-1)
  have ha := maxFrom_at ((tabF (stepL L) n).1.length : Int) (fun b => (tabF (stepL L) n).1.getD (((tabF (stepL L) n).1.length : Int) - b.1).toNat 0 + b.2) L [] ((tabF (stepL L) n).1.getD ((tabF (stepL L) n).1.length - 1) 0) ((tabF (stepL L) n).1.getD ((tabF (stepL L) n).1.length - 1) 0) (-1) (.inl ⟨rfl, rfl⟩)
  have ev : lst L (n + 1) = (stepL L (tabF (stepL L) n).1).1 := hv.1
  have el : lastF (stepL L) (n + 1) = (stepL L (tabF (stepL L) n).1).2 := hv.2
  have es : stepL L (tabF (stepL L) n).1 = maxFrom ((tabF (stepL L) n).1.length : Int) (fun b => (tabF (stepL L) n).1.getD (((tabF (stepL L) n).1.length : Int) - b.1).toNat 0 + b.2) L 0 ((tabF (stepL L) n).1.getD ((tabF (stepL L) n).1.length - 1) 0) (-1) := rfl
  rw [es] at ev el
  simp only [List.length_nil] at ha
  rw [show ((0 : Nat) : Int) = 0 from rfl, ← ev, ← el] at ha
  rw [← ev] at hm
  rw [h0] at hm ha
  refine ⟨hm.1, fun b hb hn => ?_, ?_⟩
  · have := hm.2 b hb (by rw [l1]; omega)
    rw [hg b hb hn] at this
    exact this
  · rcases ha with ⟨h1, h2⟩ | ⟨j, hj, b, hb, hf, hn⟩
    · exact .inl ⟨h1, h2⟩
    · have hb' : L[j]? = some b := hb
      have hn' : b.1 ≤ (n : Int) + 1 := by rw [l1] at hn; omega
      refine .inr ⟨j, hj, b, hb', hn', ?_⟩
      rw [← hf]
      rw [hg b (List.mem_of_getElem? hb') hn']
theorem mst_nonneg : ∀ n, 0 ≤ mst L n := by
  intro n
  induction n using Nat.strongRecOn with
  | _ n ih =>
    cases n with
    | zero => exact Int.le_refl _
    | succ n =>
      obtain ⟨_, j, _, b, hb, e⟩ := mst_spec h n
      have hbm := List.mem_of_getElem? hb
      have := h.t b hbm
      have := h.a b hbm
      have := ih (n + 1 - b.1.toNat) (by omega)
      omega
theorem mst_step : ∀ n, mst L n ≤ mst L (n + 1) := by
  intro n
  induction n using Nat.strongRecOn with
  | _ n ih =>
    obtain ⟨_, j, _, b, hb, e⟩ := mst_spec h n
    have hbm := List.mem_of_getElem? hb
    have ht := h.t b hbm
    have ha := h.a b hbm
    cases n with
    | zero =>
      have := mst_nonneg h 1
      exact this
    | succ n =>
      have h1 := (mst_spec h n).1 b hbm
      by_cases c : (b.1.toNat) ≤ n + 1
      · have h2 := ih (n + 1 - b.1.toNat) (by omega)
        rw [show n + 1 - b.1.toNat + 1 = n + 1 + 1 - b.1.toNat by omega] at h2
        omega
      · rw [show n + 1 - b.1.toNat = n + 1 + 1 - b.1.toNat by omega] at h1
        omega
theorem mst_mono {m n : Nat} (hmn : m ≤ n) : mst L m ≤ mst L n := by
  induction n with
  | zero =>
    have : m = 0 := by omega
    subst this; exact Int.le_refl _
  | succ n ih =>
    by_cases c : m = n + 1
    · subst c; exact Int.le_refl _
    · exact Int.le_trans (ih (by omega)) (mst_step h n)
theorem mst_bd : ∀ n : Nat, mst L n ≤ 1000000 * n := by
  intro n
  induction n with
  | zero => exact Int.le_refl _
  | succ n ih =>
    obtain ⟨c, l, e⟩ := List.exists_cons_of_ne_nil h.ne
    have hc : c ∈ L := by rw [e]; exact List.mem_cons_self ..
    have h1 := (mst_spec h n).1 c hc
    have ha := h.a c hc
    have ht := h.t c hc
    have h2 := mst_mono h (show n + 1 - c.1.toNat ≤ n by omega)
    omega
theorem lst_mono {m n : Nat} (hmn : m ≤ n) : lst L m ≤ lst L n := by
  induction n with
  | zero =>
    have : m = 0 := by omega
    subst this; exact Int.le_refl _
  | succ n ih =>
    by_cases c : m = n + 1
    · subst c; exact Int.le_refl _
    · exact Int.le_trans (ih (by omega)) (lst_spec h n).1
theorem lst_nonneg (n : Nat) : 0 ≤ lst L n := lst_mono h (Nat.zero_le n)
theorem lst_bd : ∀ n : Nat, lst L n ≤ 1000000 * n := by
  intro n
  induction n using Nat.strongRecOn with
  | _ n ih =>
    cases n with
    | zero => exact Int.le_refl _
    | succ n =>
      rcases (lst_spec h n).2.2 with ⟨_, e⟩ | ⟨j, _, b, hb, hn, e⟩
      · have := ih n (by omega)
        omega
      · have hbm := List.mem_of_getElem? hb
        have ht := h.t b hbm
        have ha := h.a b hbm
        have := ih (n + 1 - b.1.toNat) (by omega)
        omega
end
end Pm
end
section
namespace Go.Proofs.Ythoeindopljmkaa.P
open Go.RowKit Go.Proofs.YthoeindopljmkaaW.PrintWords Go.Proofs.YthoeindopljmkaaW.PrintLast Go.Proofs.YthoeindopljmkaaW.PrintMore
open Pm
def bs (l : List S71) : List B2 := l.map fun b => (b.f0, b.f1)
theorem bs_drop (l : List S71) {i : Nat} (h : i < l.length) : (bs l).drop i = ((rd_T71 l i).f0, (rd_T71 l i).f1) :: (bs l).drop (i + 1) := by
  have hl : i < (bs l).length := by simpa [bs] using h
  rw [List.drop_eq_getElem_cons hl]
  congr 1
  unfold rd_T71
  rw [List.getD_eq_getElem?_getD, Int.toNat_natCast, List.getElem?_eq_getElem h]
  simp [bs]
theorem mx_max (a b : Int) : mx a b = max a b := by unfold mx; omega
def Small (s : List Int) : Prop := ∀ n, 0 ≤ s.getD n 0 ∧ s.getD n 0 ≤ 1000000000
theorem most_l0 {l : List S71} (hb : Bds (bs l)) (hl : l.length ≤ 1000) (s t : List Int) (hs : Small s) (hn : 0 < s.length) (hn2 : s.length ≤ 1000) : ∀ (k : Nat) (i : Nat) (x4 x5 : Int), i ≤ l.length → l.length - i < k →
    pump_bounds_most.l0 k x4 x5 s.length l l.length i s t = some (minFrom (fun b => s.getD (max 0 ((s.length : Int) - b.1)).toNat 0 + b.2) ((bs l).drop i) i x4 x5)
  | 0, i, x4, x5, hi, hk => by omega
  | k + 1, i, x4, x5, hi, hk => by
    unfold pump_bounds_most.l0
    by_cases c : i < l.length
    · have hm : ((rd_T71 l i).f0, (rd_T71 l i).f1) ∈ bs l := List.mem_of_mem_drop (i := i) (by rw [bs_drop l c]; exact List.mem_cons_self)
      have ht := hb.t _ hm
      have ha := hb.a _ hm
      dsimp only at ht ha
      have e1 : wrap64 ((s.length : Int) - (rd_T71 l i).f0) = (s.length : Int) - (rd_T71 l i).f0 := by unfold wrap64; omega
      have e2 : wrap64 ((i : Int) + 1) = ((i + 1 : Nat) : Int) := by unfold wrap64; omega
      have hj := hs (max 0 ((s.length : Int) - (rd_T71 l i).f0)).toNat
      have e3 : wrap64 (rd s (mx 0 (wrap64 ((s.length : Int) - (rd_T71 l i).f0))) + (rd_T71 l i).f1) = s.getD (max 0 ((s.length : Int) - (rd_T71 l i).f0)).toNat 0 + (rd_T71 l i).f1 := by
        rw [e1, mx_max]
        show wrap64 (s.getD _ 0 + _) = _
        unfold wrap64; omega
      rw [if_pos (by omega), if_pos (by omega), if_pos (by omega), if_pos (by rw [e1, mx_max]; omega), if_pos (by rw [e1, mx_max]; omega), e3, e2, bs_drop l c]
      have ih := fun a b => most_l0 hb hl s t hs hn hn2 k (i + 1) a b (by omega) (by omega)
      unfold minFrom
      by_cases c0 : i = 0
      · rw [if_pos (by omega), ih, if_pos (.inl (by omega))]
        rfl
      · rw [if_neg (by omega)]
        by_cases c4 : s.getD (max 0 ((s.length : Int) - (rd_T71 l i).f0)).toNat 0 + (rd_T71 l i).f1 < x4
        · rw [if_pos c4, ih, if_pos (.inr c4)]; rfl
        · rw [if_neg c4, ih, if_neg (by rintro (h | h); omega; exact c4 h)]; rfl
    · rw [if_neg (by omega), List.drop_eq_nil_of_le (by simp [bs]; omega)]
      rfl
theorem tab_out (R : List Int → Int × Int) (n m : Nat) (h : n < m) : (tabF R n).1.getD m 0 = 0 := by
  rw [List.getD_eq_getElem?_getD, List.getElem?_eq_none (by rw [(tabF_len R n).1]; omega)]; rfl
theorem small_most {L : List B2} (hb : Bds L) {n : Nat} (hn : n ≤ 500) : Small (tabF (stepM L) n).1 := fun m => by
  by_cases c : m ≤ n
  · rw [(tabF_get _ n m c).1]
    have h1 := mst_nonneg hb m
    have h2 := mst_bd hb m
    unfold mst at h1 h2
    omega
  · rw [tab_out _ n m (by omega)]; omega
theorem small_least {L : List B2} (hb : Bds L) {n : Nat} (hn : n ≤ 500) : Small (tabF (stepL L) n).1 := fun m => by
  by_cases c : m ≤ n
  · rw [(tabF_get _ n m c).1]
    have h1 := lst_nonneg hb m
    have h2 := lst_bd hb m
    unfold lst at h1 h2
    omega
  · rw [tab_out _ n m (by omega)]; omega
theorem most_f {l : List S71} (hb : Bds (bs l)) (hl : l.length ≤ 1000) {n : Nat} (hn : n ≤ 500) (t : List Int) : pump_bounds_most.f (l.length + 1) l (tabF (stepM (bs l)) n).1 t = some (stepM (bs l) (tabF (stepM (bs l)) n).1) := by
  unfold pump_bounds_most.f
  have h := most_l0 hb hl (tabF (stepM (bs l)) n).1 t (small_most hb hn) (by rw [(tabF_len _ n).1]; omega) (by rw [(tabF_len _ n).1]; omega) (l.length + 1) 0 0 0 (Nat.zero_le _) (by omega)
  rw [List.drop_zero] at h
  exact h
theorem tabledm_l0 {l : List S71} (hb : Bds (bs l)) (hl : l.length ≤ 1000) {a : Nat} (ha : a ≤ 400) : ∀ (k m : Nat), m ≤ a → a - m + 1 < k → pump_tabledm.l0 k l a (tabF (stepM (bs l)) m).1 (tabF (stepM (bs l)) m).2 = some (tabF (stepM (bs l)) a)
  | 0, m, _, hk => by omega
  | k + 1, m, hm, hk => by
    unfold pump_tabledm.l0
    have l1 := tabF_len (stepM (bs l)) m
    by_cases c : m < a
    · have e := tabledm_l0 hb hl ha k (m + 1) (by omega) (by omega)
      rw [if_pos (by rw [l1.1]; omega), most_f hb hl (by omega), Option.bind_some, if_pos (by rw [l1.1]; omega), if_pos (by rw [l1.2]; omega)]
      exact e
    · obtain rfl : m = a := by omega
      rw [if_neg (by rw [l1.1]; omega)]
theorem tabled_most_f {l : List S71} (hb : Bds (bs l)) (hl : l.length ≤ 1000) {a : Nat} (ha : a ≤ 400) : tabled_most.f l a = some (tabF (stepM (bs l)) a) := by
  unfold tabled_most.f pump_tabledm.f
  exact tabledm_l0 hb hl ha _ 0 (Nat.zero_le _) (by rw [Int.toNat_natCast]; omega)
theorem least_l0 {l : List S71} (hb : Bds (bs l)) (hl : l.length ≤ 1000) (s t : List Int) (hs : Small s) (hn : 0 < s.length) (hn2 : s.length ≤ 1000) : ∀ (k : Nat) (i : Nat) (x4 x5 : Int), i ≤ l.length → l.length - i < k →
    pump_bounds_least.l0 k x4 x5 s.length l l.length i s t = some (maxFrom (s.length : Int) (fun b => s.getD ((s.length : Int) - b.1).toNat 0 + b.2) ((bs l).drop i) i x4 x5)
  | 0, i, x4, x5, hi, hk => by omega
  | k + 1, i, x4, x5, hi, hk => by
    unfold pump_bounds_least.l0
    by_cases c : i < l.length
    · have hm : ((rd_T71 l i).f0, (rd_T71 l i).f1) ∈ bs l := List.mem_of_mem_drop (i := i) (by rw [bs_drop l c]; exact List.mem_cons_self)
      have ht := hb.t _ hm
      have ha := hb.a _ hm
      dsimp only at ht ha
      have e1 : wrap64 ((s.length : Int) - (rd_T71 l i).f0) = (s.length : Int) - (rd_T71 l i).f0 := by unfold wrap64; omega
      have e2 : wrap64 ((i : Int) + 1) = ((i + 1 : Nat) : Int) := by unfold wrap64; omega
      have hj := hs ((s.length : Int) - (rd_T71 l i).f0).toNat
      have e3 : wrap64 (rd s (wrap64 ((s.length : Int) - (rd_T71 l i).f0)) + (rd_T71 l i).f1) = s.getD ((s.length : Int) - (rd_T71 l i).f0).toNat 0 + (rd_T71 l i).f1 := by
        rw [e1]
        show wrap64 (s.getD _ 0 + _) = _
        unfold wrap64; omega
      have ih := fun a b => least_l0 hb hl s t hs hn hn2 k (i + 1) a b (by omega) (by omega)
      rw [if_pos (by omega), if_pos (by omega), if_pos (by omega), bs_drop l c]
      unfold maxFrom
      by_cases c0 : (rd_T71 l i).f0 ≤ (s.length : Int)
      · rw [if_pos c0, if_pos (by rw [e1]; omega), if_pos (by rw [e1]; omega), e3, e2]
        by_cases c4 : s.getD ((s.length : Int) - (rd_T71 l i).f0).toNat 0 + (rd_T71 l i).f1 > x4
        · rw [if_pos c4, ih, if_pos ⟨c0, c4⟩]; rfl
        · rw [if_neg c4, ih, if_neg (fun h => c4 h.2)]; rfl
      · rw [if_neg c0, e2, ih, if_neg (fun h => c0 h.1)]; rfl
    · rw [if_neg (by omega), List.drop_eq_nil_of_le (by simp [bs]; omega)]
      rfl
theorem least_f {l : List S71} (hb : Bds (bs l)) (hl : l.length ≤ 1000) {n : Nat} (hn : n ≤ 500) (t : List Int) : pump_bounds_least.f (l.length + 1) l (tabF (stepL (bs l)) n).1 t = some (stepL (bs l) (tabF (stepL (bs l)) n).1) := by
  have l1 := (tabF_len (stepL (bs l)) n).1
  have hsm := small_least hb hn
  generalize (tabF (stepL (bs l)) n).1 = X at l1 hsm
  unfold pump_bounds_least.f
  have e1 : wrap64 ((X.length : Int) - 1) = (n : Int) := by rw [l1]; unfold wrap64; omega
  rw [e1, if_pos (by omega), if_pos (by rw [l1]; omega)]
  have h := least_l0 hb hl X t hsm (by rw [l1]; omega) (by rw [l1]; omega) (l.length + 1) 0 (rd X n) (-1) (Nat.zero_le _) (by omega)
  rw [List.drop_zero] at h
  refine h.trans ?_
  unfold stepL
  rw [show X.length - 1 = n by omega]
  rfl
theorem tabledl_l0 {l : List S71} (hb : Bds (bs l)) (hl : l.length ≤ 1000) {a : Nat} (ha : a ≤ 400) : ∀ (k m : Nat), m ≤ a → a - m + 1 < k → pump_tabledl.l0 k l a (tabF (stepL (bs l)) m).1 (tabF (stepL (bs l)) m).2 = some (tabF (stepL (bs l)) a)
  | 0, m, _, hk => by omega
  | k + 1, m, hm, hk => by
    unfold pump_tabledl.l0
    have l1 := tabF_len (stepL (bs l)) m
    by_cases c : m < a
    · have e := tabledl_l0 hb hl ha k (m + 1) (by omega) (by omega)
      rw [if_pos (by rw [l1.1]; omega), least_f hb hl (by omega), Option.bind_some, if_pos (by rw [l1.1]; omega), if_pos (by rw [l1.2]; omega)]
      exact e
    · obtain rfl : m = a := by omega
      rw [if_neg (by rw [l1.1]; omega)]
theorem tabled_least_f {l : List S71} (hb : Bds (bs l)) (hl : l.length ≤ 1000) {a : Nat} (ha : a ≤ 400) : tabled_least.f l a = some (tabF (stepL (bs l)) a) := by
  unfold tabled_least.f pump_tabledl.f
  exact tabledl_l0 hb hl ha _ 0 (Nat.zero_le _) (by rw [Int.toNat_natCast]; omega)
end Go.Proofs.Ythoeindopljmkaa.P
end
section
namespace Go.Proofs.Ythoeindopljmkaa.P
open Go.RowKit Go.Proofs.YthoeindopljmkaaW.PrintWords Go.Proofs.YthoeindopljmkaaW.PrintLast Go.Proofs.YthoeindopljmkaaW.PrintMore
open Pm
def ticksOf (l : List S71) (r : List Int) : Int := (r.map fun j => (rd_T71 l j).f0).sum
def amountOf (l : List S71) (r : List Int) : Int := (r.map fun j => (rd_T71 l j).f1).sum
theorem bs_get {l : List S71} {j : Nat} {b : B2} (h : (bs l)[j]? = some b) : j < l.length ∧ b = ((rd_T71 l j).f0, (rd_T71 l j).f1) := by
  unfold bs at h
  rw [List.getElem?_map] at h
  obtain ⟨x, hx, rfl⟩ := Option.map_eq_some_iff.mp h
  obtain ⟨hj, rfl⟩ := List.getElem?_eq_some_iff.1 hx
  refine ⟨hj, ?_⟩
  unfold rd_T71
  rw [List.getD_eq_getElem?_getD, Int.toNat_natCast, List.getElem?_eq_getElem hj]; rfl
theorem taken_most {l : List S71} (hb : Bds (bs l)) (hl : l.length ≤ 1000) {N : Nat} (hN : N ≤ 400) : ∀ (k n : Nat) (acc : List Int), n ≤ N → n < k → acc.length + n ≤ 1000 →
    ∃ r, takenRaw.l0 k l acc n (tabF (stepM (bs l)) N).1 (tabF (stepM (bs l)) N).2 = some (acc ++ r) ∧ r.length ≤ n ∧ (∀ j ∈ r, 0 ≤ j ∧ j < l.length) ∧ (n : Int) ≤ ticksOf l r ∧ amountOf l r = mst (bs l) n
  | 0, n, acc, _, hk, _ => by omega
  | k + 1, 0, acc, _, _, _ => by
    unfold takenRaw.l0
    refine ⟨[], ?_, Nat.le_refl _, ?_, ?_, ?_⟩
    · rw [if_neg (by simp)]; simp
    · intro j h; cases h
    · simp [ticksOf]
    · rfl
  | k + 1, n + 1, acc, hn, hk, ha => by
    obtain ⟨_, j, hj, b, hbj, hm⟩ := mst_spec hb n
    obtain ⟨hjl, rfl⟩ := bs_get hbj
    dsimp only at hm
    have hmem : ((rd_T71 l j).f0, (rd_T71 l j).f1) ∈ bs l := List.mem_of_getElem? hbj
    have ht := hb.t _ hmem
    dsimp only at ht
    have hlast : rd (tabF (stepM (bs l)) N).2 ((n + 1 : Nat) : Int) = j := by
      show (tabF (stepM (bs l)) N).2.getD _ 0 = _
      rw [Int.toNat_natCast, (tabF_get _ N (n + 1) hn).2, hj]
    have hlen := (tabF_len (stepM (bs l)) N).2
    have e1 : mx 0 (wrap64 (((n + 1 : Nat) : Int) - (rd_T71 l j).f0)) = ((n + 1 - (rd_T71 l j).f0.toNat : Nat) : Int) := by
      rw [mx_max]; unfold wrap64; omega
    obtain ⟨r, hr, h1, h2, h3, h4⟩ := taken_most hb hl hN k (n + 1 - (rd_T71 l j).f0.toNat) (acc ++ [(j : Int)]) (by omega) (by omega) (by simp; omega)
    refine ⟨(j : Int) :: r, ?_, by simp; omega, fun x hx => ?_, ?_, ?_⟩
    · unfold takenRaw.l0
      rw [hlast, if_pos (by omega), if_pos (by omega), if_pos (by rw [hlen]; omega), if_pos (by omega), if_pos (by omega), if_pos (by omega), if_pos (by omega), e1, hr]
      simp
    · rcases List.mem_cons.1 hx with rfl | hx
      · omega
      · exact h2 x hx
    · unfold ticksOf at h3 ⊢
      rw [List.map_cons, List.sum_cons]; omega
    · unfold amountOf at h4 ⊢
      rw [List.map_cons, List.sum_cons, h4, hm]; omega
theorem taken_least {l : List S71} (hb : Bds (bs l)) (hl : l.length ≤ 1000) {N : Nat} (hN : N ≤ 400) : ∀ (k n : Nat) (acc : List Int), n ≤ N → n < k → acc.length + n ≤ 1000 →
    ∃ r, takenRaw.l0 k l acc n (tabF (stepL (bs l)) N).1 (tabF (stepL (bs l)) N).2 = some (acc ++ r) ∧ r.length ≤ n ∧ (∀ j ∈ r, 0 ≤ j ∧ j < l.length) ∧ ticksOf l r ≤ n ∧ amountOf l r = lst (bs l) n
  | 0, n, acc, _, hk, _ => by omega
  | k + 1, 0, acc, _, _, _ => by
    unfold takenRaw.l0
    refine ⟨[], ?_, Nat.le_refl _, ?_, ?_, ?_⟩
    · rw [if_neg (by simp)]; simp
    · intro j h; cases h
    · simp [ticksOf]
    · rfl
  | k + 1, n + 1, acc, hn, hk, ha => by
    have hlen := (tabF_len (stepL (bs l)) N).2
    rcases (lst_spec hb n).2.2 with ⟨hj, hm⟩ | ⟨j, hj, b, hbj, htn, hm⟩
    · have hlast : rd (tabF (stepL (bs l)) N).2 ((n + 1 : Nat) : Int) = -1 := by
        show (tabF (stepL (bs l)) N).2.getD _ 0 = _
        rw [Int.toNat_natCast, (tabF_get _ N (n + 1) hn).2, hj]
      obtain ⟨r, hr, h1, h2, h3, h4⟩ := taken_least hb hl hN k n acc (by omega) (by omega) (by omega)
      refine ⟨r, ?_, by omega, h2, by omega, by rw [h4, hm]⟩
      unfold takenRaw.l0
      rw [hlast, if_pos (by omega), if_pos (by omega), if_pos (by rw [hlen]; omega), if_neg (by omega), show wrap64 (((n + 1 : Nat) : Int) - 1) = n by unfold wrap64; omega, hr]
    · obtain ⟨hjl, rfl⟩ := bs_get hbj
      dsimp only at hm htn
      have hmem : ((rd_T71 l j).f0, (rd_T71 l j).f1) ∈ bs l := List.mem_of_getElem? hbj
      have ht := hb.t _ hmem
      dsimp only at ht
      have hlast : rd (tabF (stepL (bs l)) N).2 ((n + 1 : Nat) : Int) = j := by
        show (tabF (stepL (bs l)) N).2.getD _ 0 = _
        rw [Int.toNat_natCast, (tabF_get _ N (n + 1) hn).2, hj]
      have e1 : mx 0 (wrap64 (((n + 1 : Nat) : Int) - (rd_T71 l j).f0)) = ((n + 1 - (rd_T71 l j).f0.toNat : Nat) : Int) := by
        rw [mx_max]; unfold wrap64; omega
      obtain ⟨r, hr, h1, h2, h3, h4⟩ := taken_least hb hl hN k (n + 1 - (rd_T71 l j).f0.toNat) (acc ++ [(j : Int)]) (by omega) (by omega) (by simp; omega)
      refine ⟨(j : Int) :: r, ?_, by simp; omega, fun x hx => ?_, ?_, ?_⟩
      · unfold takenRaw.l0
        rw [hlast, if_pos (by omega), if_pos (by omega), if_pos (by rw [hlen]; omega), if_pos (by omega), if_pos (by omega), if_pos (by omega), if_pos (by omega), e1, hr]
        simp
      · rcases List.mem_cons.1 hx with rfl | hx
        · omega
        · exact h2 x hx
      · unfold ticksOf at h3 ⊢
        rw [List.map_cons, List.sum_cons]; omega
      · unfold amountOf at h4 ⊢
        rw [List.map_cons, List.sum_cons, h4, hm]; omega
end Go.Proofs.Ythoeindopljmkaa.P
end
section
namespace Go.Proofs.Ythoeindopljmkaa.P
open Go.RowKit Go.Proofs.YthoeindopljmkaaW.PrintWords Go.Proofs.YthoeindopljmkaaW.PrintLast Go.Proofs.YthoeindopljmkaaW.PrintMore
open Pm
def cb (l : List S71) : Int := if l.length = 0 then 4 else if 5 < l.length then 5 else if (l.any fun x => !good x) = true then 3 else 0
theorem cb_f (l : List S71) : pump_CheckBounds.f l = some (cb l) := by
  unfold pump_CheckBounds.f cb
  by_cases c : l.length = 0
  · rw [if_pos (by omega), if_pos c]
  · rw [if_neg (by omega), if_neg c]
    by_cases c5 : 5 < l.length
    · rw [if_pos (by omega), if_pos c5]
    · rw [if_neg (by omega), if_neg c5]
      unfold any_bad.f
      rw [if_pos (by omega), Option.bind_some]
      split <;> rfl
def rgd (l : List S71) (a : Int) : Int := if cb l = 0 then (if btw 0 a 200 = true then 0 else 3) else cb l
theorem ranged_f (l : List S71) (a : Int) : pump_ranged.f l a = some (rgd l a) := by
  unfold pump_ranged.f rgd
  rw [cb_f, Option.bind_some, btw_f, Option.bind_some]
  by_cases c : cb l = 0
  · rw [if_pos c, if_pos c]
    split
    · rw [c]
    · rfl
  · rw [if_neg c, if_neg c]
theorem cb_zero {l : List S71} : cb l = 0 ↔ l.length ≠ 0 ∧ l.length ≤ 5 ∧ ∀ b ∈ l, good b = true := by
  unfold cb
  by_cases c : l.length = 0
  · rw [if_pos c]; constructor
    · intro h; cases h
    · rintro ⟨h, _⟩; exact absurd c h
  rw [if_neg c]
  by_cases c5 : 5 < l.length
  · rw [if_pos c5]; constructor
    · intro h; cases h
    · rintro ⟨_, h, _⟩; omega
  rw [if_neg c5]
  by_cases ca : (l.any fun x => !good x) = true
  · rw [if_pos ca]; constructor
    · intro h; cases h
    · rintro ⟨_, _, h⟩
      obtain ⟨x, hx, hg⟩ := List.any_eq_true.1 ca
      rw [h x hx] at hg; cases hg
  · rw [if_neg ca]
    refine ⟨fun _ => ⟨c, by omega, fun b hb => ?_⟩, fun _ => rfl⟩
    cases hg : good b
    · exact absurd (List.any_eq_true.2 ⟨b, hb, by rw [hg]; rfl⟩) ca
    · rfl
theorem good_iff {x : S71} : good x = true ↔ (1 ≤ x.f0 ∧ x.f0 ≤ 100) ∧ 0 ≤ x.f1 ∧ x.f1 ≤ 1000000 := by
  unfold good
  rw [Bool.and_eq_true, btw_iff, btw_iff]
theorem bds_of {l : List S71} (h : cb l = 0) : Bds (bs l) ∧ l.length ≤ 5 := by
  obtain ⟨h0, h5, hg⟩ := cb_zero.1 h
  refine ⟨⟨?_, ?_, ?_⟩, h5⟩
  · intro e
    have : (bs l).length = 0 := by rw [e]; rfl
    simp [bs] at this
    exact h0 (by rw [this]; rfl)
  · intro b hb
    obtain ⟨x, hx, rfl⟩ := List.mem_map.1 hb
    exact (good_iff.1 (hg x hx)).1
  · intro b hb
    obtain ⟨x, hx, rfl⟩ := List.mem_map.1 hb
    exact (good_iff.1 (hg x hx)).2
theorem rgd_zero {l : List S71} {a : Int} (h : rgd l a = 0) : cb l = 0 ∧ 0 ≤ a ∧ a ≤ 200 := by
  unfold rgd at h
  by_cases c : cb l = 0
  · rw [if_pos c] at h
    by_cases b : btw 0 a 200 = true
    · exact ⟨c, btw_iff.1 b⟩
    · rw [if_neg b] at h; cases h
  · rw [if_neg c] at h; exact absurd h c
theorem rgd_of {l : List S71} {a : Int} (h : cb l = 0) (h0 : 0 ≤ a) (h1 : a ≤ 200) : rgd l a = 0 := by
  unfold rgd
  rw [if_pos h, if_pos (btw_iff.2 ⟨h0, h1⟩)]
theorem sum_perm {x y : List Int} (h : x.Perm y) : x.sum = y.sum := by
  induction h with
  | nil => rfl
  | cons a _ ih => simp only [List.sum_cons, ih]
  | swap a b l => simp only [List.sum_cons]; omega
  | trans _ _ h1 h2 => exact h1.trans h2
theorem sortI_perm (r : List Int) : (sortI r).Perm r := List.mergeSort_perm _ _
theorem sortI_sorted (r : List Int) : (sortI r).Pairwise fun x y => x ≤ y := by
  have h := List.pairwise_mergeSort (le := fun x y : Int => decide (x ≤ y)) (fun a b c h1 h2 => by simp at *; omega) (fun a b => by simp; omega) r
  exact h.imp (fun h => by simpa using h)
theorem ticks_sort (l : List S71) (r : List Int) : ticksOf l (sortI r) = ticksOf l r := sum_perm ((sortI_perm r).map _)
theorem amount_sort (l : List S71) (r : List Int) : amountOf l (sortI r) = amountOf l r := sum_perm ((sortI_perm r).map _)
structure Ord (l : List S71) (r : List Int) : Prop where
  len : r.length ≤ 200
  at_ : ∀ j ∈ r, 0 ≤ j ∧ j < l.length
  up : r.Pairwise fun x y => x ≤ y
theorem asked_most_f (l : List S71) (a : Int) : ∃ r, asked_most.f l a l = some (if rgd l a = 0 then mst (bs l) a.toNat else 0, r, rgd l a) ∧ (rgd l a ≠ 0 → r = []) ∧ (rgd l a = 0 → Ord l r ∧ a ≤ ticksOf l r ∧ amountOf l r = mst (bs l) a.toNat) := by
  unfold asked_most.f
  rw [ranged_f, Option.bind_some]
  by_cases c : rgd l a = 0
  · obtain ⟨h1, h2, h3⟩ := rgd_zero c
    obtain ⟨hb, h5⟩ := bds_of h1
    obtain ⟨n, rfl⟩ := Int.eq_ofNat_of_zero_le h2
    rw [if_pos c, if_pos c, tabled_most_f hb (by omega) (by omega), Option.bind_some, if_pos h2]
    have hl := (tabF_len (stepM (bs l)) n).1
    obtain ⟨r, hr, r1, r2, r3, r4⟩ := taken_most hb (by omega) (by omega) (((n : Nat) : Int).toNat + 2) n [] (Nat.le_refl _) (by omega) (by simp; omega)
    refine ⟨sortI r, ?_, fun h => absurd c h, fun _ => ⟨⟨?_, ?_, sortI_sorted r⟩, ?_, ?_⟩⟩
    · rw [if_pos (by omega)]
      unfold pump_bounds_taken.f takenRaw.f
      rw [hr, Option.bind_some, if_pos (by rw [List.nil_append]; omega), Option.bind_some, List.nil_append, c]
      congr 2
    · rw [(sortI_perm r).length_eq]; omega
    · intro j hj; exact r2 j ((sortI_perm r).mem_iff.1 hj)
    · rw [ticks_sort]; exact r3
    · rw [amount_sort]; exact r4
  · rw [if_neg c, if_neg c]
    exact ⟨[], rfl, fun _ => rfl, fun h => absurd h c⟩
theorem asked_least_f (l : List S71) (a : Int) : ∃ r, asked_least.f l a l = some (if rgd l a = 0 then lst (bs l) a.toNat else 0, r, rgd l a) ∧ (rgd l a ≠ 0 → r = []) ∧ (rgd l a = 0 → Ord l r ∧ ticksOf l r ≤ a ∧ amountOf l r = lst (bs l) a.toNat) := by
  unfold asked_least.f
  rw [ranged_f, Option.bind_some]
  by_cases c : rgd l a = 0
  · obtain ⟨h1, h2, h3⟩ := rgd_zero c
    obtain ⟨hb, h5⟩ := bds_of h1
    obtain ⟨n, rfl⟩ := Int.eq_ofNat_of_zero_le h2
    rw [if_pos c, if_pos c, tabled_least_f hb (by omega) (by omega), Option.bind_some, if_pos h2]
    have hl := (tabF_len (stepL (bs l)) n).1
    obtain ⟨r, hr, r1, r2, r3, r4⟩ := taken_least hb (by omega) (by omega) (((n : Nat) : Int).toNat + 2) n [] (Nat.le_refl _) (by omega) (by simp; omega)
    refine ⟨sortI r, ?_, fun h => absurd c h, fun _ => ⟨⟨?_, ?_, sortI_sorted r⟩, ?_, ?_⟩⟩
    · rw [if_pos (by omega)]
      unfold pump_bounds_taken.f takenRaw.f
      rw [hr, Option.bind_some, if_pos (by rw [List.nil_append]; omega), Option.bind_some, List.nil_append, c]
      congr 2
    · rw [(sortI_perm r).length_eq]; omega
    · intro j hj; exact r2 j ((sortI_perm r).mem_iff.1 hj)
    · rw [ticks_sort]; exact r3
    · rw [amount_sort]; exact r4
  · rw [if_neg c, if_neg c]
    exact ⟨[], rfl, fun _ => rfl, fun h => absurd h c⟩
theorem Most_f (l : List S71) (a : Int) : pump_Most.f l a = some (if rgd l a = 0 then mst (bs l) a.toNat else 0, rgd l a) := by
  obtain ⟨r, h, _⟩ := asked_most_f l a
  unfold pump_Most.f
  rw [h]; rfl
theorem Least_f (l : List S71) (a : Int) : pump_Least.f l a = some (if rgd l a = 0 then lst (bs l) a.toNat else 0, rgd l a) := by
  obtain ⟨r, h, _⟩ := asked_least_f l a
  unfold pump_Least.f
  rw [h]; rfl
end Go.Proofs.Ythoeindopljmkaa.P
end
section
namespace Go.Proofs.Ythoeindopljmkaa.P
open Go.RowKit Go.Proofs.YthoeindopljmkaaW.PrintWords Go.Proofs.YthoeindopljmkaaW.PrintLast Go.Proofs.YthoeindopljmkaaW.PrintMore
open Pm
def U8s (l : List S86) : Prop := ∀ x ∈ l, (0 ≤ x.f0 ∧ x.f0 < 256) ∧ 0 ≤ x.f1 ∧ x.f1 < 256
structure Few (L : List S71) : Prop where
  ne : 1 ≤ L.length
  le : L.length ≤ 3
  small : ∀ b ∈ L, (1 ≤ b.f0 ∧ b.f0 ≤ 4) ∧ 0 ≤ b.f1 ∧ b.f1 ≤ 5
theorem few_cb {L : List S71} (h : Few L) : cb L = 0 := cb_zero.2 ⟨by have := h.ne; omega, by have := h.le; omega, fun b hb => good_iff.2 (by have := h.small b hb; omega)⟩
theorem few_one {x : S86} (h : (0 ≤ x.f0 ∧ x.f0 < 256) ∧ 0 ≤ x.f1 ∧ x.f1 < 256) : (1 ≤ wrap64 (1 + (Int.tmod (wrap64 x.f0) 4)) ∧ wrap64 (1 + (Int.tmod (wrap64 x.f0) 4)) ≤ 4) ∧ 0 ≤ Int.tmod (wrap64 x.f1) 6 ∧ Int.tmod (wrap64 x.f1) 6 ≤ 5 := by
  have e0 : wrap64 x.f0 = x.f0 := by unfold wrap64; omega
  have e1 : wrap64 x.f1 = x.f1 := by unfold wrap64; omega
  have a0 := Int.tmod_nonneg 4 h.1.1
  have a1 := Int.tmod_lt_of_pos x.f0 (show (0 : Int) < 4 by omega)
  have b0 := Int.tmod_nonneg 6 h.2.1
  have b1 := Int.tmod_lt_of_pos x.f1 (show (0 : Int) < 6 by omega)
  rw [e0, e1]
  have e2 : wrap64 (1 + Int.tmod x.f0 4) = 1 + Int.tmod x.f0 4 := by unfold wrap64; omega
  rw [e2]
  omega
theorem rd86_mem {l : List S86} {i : Nat} (h : i < l.length) : rd_T86 l i ∈ l := by
  unfold rd_T86
  rw [List.getD_eq_getElem?_getD, Int.toNat_natCast, List.getElem?_eq_getElem h]
  exact List.getElem_mem h
theorem made_l0 {l : List S86} (hu : U8s l) : ∀ (k i : Nat) (x3 : List S71), (i ≤ 3) → 2 * (3 - i) + 2 ≤ k → Few x3 → x3.length ≤ max 1 i → ∃ L, pianolalaw04_Set_made.l0 k l x3 i = some L ∧ Few L
  | 0, i, x3, hi, hk, _, _ => by omega
  | 1, i, x3, hi, hk, _, _ => by omega
  | k + 2, i, x3, hi, hk, hf, hx => by
    unfold pianolalaw04_Set_made.l0 pianolalaw04_Set_made.j1
    by_cases c : i < l.length
    · rw [if_pos (by omega)]
      by_cases c3 : i < 3
      · have h1 := few_one (hu _ (rd86_mem c))
        have hn := hf.ne
        rw [if_pos (decide_eq_true (by omega)), if_pos (by omega), if_pos (by omega), show wrap64 ((i : Int) + 1) = ((i + 1 : Nat) : Int) by unfold wrap64; omega]
        by_cases c0 : i = 0
        · rw [if_pos (by omega), if_pos (by omega)]
          refine made_l0 hu k (i + 1) _ (by omega) (by omega) ⟨by simpa using hf.ne, by simpa using hf.le, fun b hb => ?_⟩ (by simp; omega)
          rcases List.mem_or_eq_of_mem_set hb with h | h
          · exact hf.small b h
          · rw [h]; exact h1
        · rw [if_neg (by omega), if_pos (by omega)]
          refine made_l0 hu k (i + 1) _ (by omega) (by omega) ⟨by simp, by simp; omega, fun b hb => ?_⟩ (by simp; omega)
          rcases List.mem_append.1 hb with h | h
          · exact hf.small b h
          · rw [List.mem_singleton.1 h]; exact h1
      · rw [if_neg (by simp; omega)]
        exact ⟨x3, rfl, hf⟩
    · rw [if_neg (by omega), if_neg (by simp)]
      exact ⟨x3, rfl, hf⟩
theorem made_f {l : List S86} (hu : U8s l) {k : Nat} (hk : 8 ≤ k) : ∃ L, pianolalaw04_Set_made.f k l = some L ∧ Few L :=
  made_l0 hu k 0 _ (by omega) (by omega) ⟨Nat.le_refl _, by decide, fun b hb => by rw [List.mem_singleton.1 hb]; decide⟩ (by decide)
theorem made_all {l : List S86} (hu : U8s l) : ∃ L, (∀ k, 8 ≤ k → pianolalaw04_Set_made.f k l = some L) ∧ Few L := by
  obtain ⟨L, h, hf⟩ := made_f hu (Nat.le_refl 8)
  refine ⟨L, fun k hk => ?_, hf⟩
  obtain ⟨j, rfl⟩ : ∃ j, k = 8 + j := ⟨k - 8, by omega⟩
  induction j with
  | zero => exact h
  | succ j ih => exact pianolalaw04_Set_made.mono l (8 + j) L (ih (by omega))
theorem u8_wf {x : Int} (h : (Lit.int .u8 x).wf = true) : 0 ≤ x ∧ x < 256 := by
  have h1 : (decide (IntKind.u8.min ≤ x) && decide (x ≤ IntKind.u8.max)) = true := h
  rw [Bool.and_eq_true, decide_eq_true_eq, decide_eq_true_eq] at h1
  have e1 : IntKind.u8.min = 0 := by decide
  have e2 : IntKind.u8.max = 255 := by decide
  omega
end Go.Proofs.Ythoeindopljmkaa.P
end
section
namespace Pm
def preS (l : List Int) : Nat → Int
  | 0 => 0
  | n + 1 => preS l n + l.getD n 0
def Keeps (L : List B2) (l : List Int) : Prop := ∀ b ∈ L, ∀ s, preS l (s + b.1.toNat) - preS l s ≤ b.2
def Has (L : List B2) (T : Nat) (l : List Int) : Prop := ∀ b ∈ L, ∀ s, s + b.1.toNat ≤ T → b.2 ≤ preS l (s + b.1.toNat) - preS l s
theorem preS_mono {l : List Int} (h : ∀ n, 0 ≤ l.getD n 0) {m n : Nat} (hmn : m ≤ n) : preS l m ≤ preS l n := by
  induction n with
  | zero =>
    have : m = 0 := by omega
    subst this; exact Int.le_refl _
  | succ n ih =>
    by_cases c : m = n + 1
    · subst c; exact Int.le_refl _
    · have := ih (by omega)
      have := h n
      show _ ≤ preS l n + l.getD n 0
      omega
theorem keeps_mst {L : List B2} (h : Bds L) {l : List Int} (h0 : ∀ n, 0 ≤ l.getD n 0) (hk : Keeps L l) : ∀ d s : Nat, preS l (s + d) - preS l s ≤ mst L d := by
  intro d
  induction d using Nat.strongRecOn with
  | _ d ih =>
    intro s
    cases d with
    | zero => show preS l s - preS l s ≤ 0; omega
    | succ d =>
      obtain ⟨_, j, _, b, hb, e⟩ := mst_spec h d
      have hbm := List.mem_of_getElem? hb
      have ht := h.t b hbm
      rw [e]
      by_cases c : d + 1 ≤ b.1.toNat
      · have h1 := hk b hbm s
        have h2 := preS_mono h0 (show s + (d + 1) ≤ s + b.1.toNat by omega)
        have h3 := mst_nonneg h (d + 1 - b.1.toNat)
        omega
      · have h1 := ih (d + 1 - b.1.toNat) (by omega) s
        have h2 := hk b hbm (s + (d + 1 - b.1.toNat))
        rw [show s + (d + 1 - b.1.toNat) + b.1.toNat = s + (d + 1) by omega] at h2
        omega
theorem has_lst {L : List B2} (h : Bds L) {T : Nat} {l : List Int} (h0 : ∀ n, 0 ≤ l.getD n 0) (hk : Has L T l) : ∀ d s : Nat, s + d ≤ T → lst L d ≤ preS l (s + d) - preS l s := by
  intro d
  induction d using Nat.strongRecOn with
  | _ d ih =>
    intro s hT
    cases d with
    | zero => show 0 ≤ preS l s - preS l s; omega
    | succ d =>
      rcases (lst_spec h d).2.2 with ⟨_, e⟩ | ⟨j, _, b, hb, hn, e⟩
      · have h1 := ih d (by omega) s (by omega)
        have h2 := h0 (s + d)
        have h3 : preS l (s + (d + 1)) = preS l (s + d) + l.getD (s + d) 0 := rfl
        omega
      · have hbm := List.mem_of_getElem? hb
        have ht := h.t b hbm
        have h1 := ih (d + 1 - b.1.toNat) (by omega) s (by omega)
        have h2 := hk b hbm (s + (d + 1 - b.1.toNat)) (by omega)
        rw [show s + (d + 1 - b.1.toNat) + b.1.toNat = s + (d + 1) by omega] at h2
        omega
end Pm
end
section
namespace Go.Proofs.Ythoeindopljmkaa.P
open Go.RowKit Go.Proofs.YthoeindopljmkaaW.PrintWords Go.Proofs.YthoeindopljmkaaW.PrintLast Go.Proofs.YthoeindopljmkaaW.PrintMore
open Pm
def Evt (F : Nat → Option Bool) : Prop := ∃ K, ∀ k, K ≤ k → F k = some true
theorem Evt.step {F G : Nat → Option Bool} (h : Evt G) (e : ∀ k, F (k + 1) = G k) : Evt F := by
  obtain ⟨K, hK⟩ := h
  refine ⟨K + 1, fun k hk => ?_⟩
  obtain ⟨j, rfl⟩ : ∃ j, k = j + 1 := ⟨k - 1, by omega⟩
  rw [e]; exact hK j (by omega)
theorem Evt.step_from {F G : Nat → Option Bool} (N : Nat) (h : Evt G) (e : ∀ k, N ≤ k → F (k + 1) = G k) : Evt F := by
  obtain ⟨K, hK⟩ := h
  refine ⟨K + N + 1, fun k hk => ?_⟩
  obtain ⟨j, rfl⟩ : ∃ j, k = j + 1 := ⟨k - 1, by omega⟩
  rw [e j (by omega)]; exact hK j (by omega)
def Smalls (l : List Int) : Prop := l.length ≤ 5 ∧ ∀ x ∈ l, 0 ≤ x ∧ x ≤ 5
theorem smalls_getD {l : List Int} (h : Smalls l) (n : Nat) : 0 ≤ l.getD n 0 ∧ l.getD n 0 ≤ 5 := by
  by_cases c : n < l.length
  · rw [List.getD_eq_getElem?_getD, List.getElem?_eq_getElem c]
    exact h.2 _ (List.getElem_mem c)
  · rw [List.getD_eq_getElem?_getD, List.getElem?_eq_none (by omega)]
    show (0 : Int) ≤ 0 ∧ (0 : Int) ≤ 5
    omega
theorem preS_add {l : List Int} (h : Smalls l) (s : Nat) : ∀ d, preS l s ≤ preS l (s + d) ∧ preS l (s + d) - preS l s ≤ 5 * d
  | 0 => by simp
  | d + 1 => by
    have := preS_add h s d
    have := smalls_getD h (s + d)
    have : preS l (s + (d + 1)) = preS l (s + d) + l.getD (s + d) 0 := rfl
    omega
theorem preS_end {l : List Int} {s : Nat} (h : l.length ≤ s) : ∀ d, preS l (s + d) = preS l s
  | 0 => rfl
  | d + 1 => by
    have := preS_end h d
    have e : preS l (s + (d + 1)) = preS l (s + d) + l.getD (s + d) 0 := rfl
    rw [e, List.getD_eq_getElem?_getD, List.getElem?_eq_none (by omega), this]
    exact Int.add_zero _
theorem sums_l0 {l : List Int} (h : Smalls l) (s d : Nat) (hs : s ≤ 10) (hd : d ≤ 10) : ∀ (k i : Nat), s ≤ i → i ≤ s + d → s + d - i < k → pianolalaw04_sums.l0 k l s d (preS l i - preS l s) i = some (preS l (s + d) - preS l s)
  | 0, i, _, _, hk => by omega
  | k + 1, i, h1, h2, hk => by
    unfold pianolalaw04_sums.l0
    have e0 : wrap64 ((s : Int) + d) = ((s + d : Nat) : Int) := by unfold wrap64; omega
    rw [e0]
    by_cases c : i < s + d
    · rw [if_pos (by omega)]
      by_cases c2 : i < l.length
      · have a1 := preS_add h s (i - s)
        rw [show s + (i - s) = i by omega] at a1
        have a2 := smalls_getD h i
        have e1 : rd l (i : Int) = l.getD i 0 := rfl
        rw [if_pos (by omega), if_pos (by omega), e1, show wrap64 (preS l i - preS l s + l.getD i 0) = preS l (i + 1) - preS l s by
          have : preS l (i + 1) = preS l i + l.getD i 0 := rfl
          unfold wrap64; omega, show wrap64 ((i : Int) + 1) = ((i + 1 : Nat) : Int) by unfold wrap64; omega]
        exact sums_l0 h s d hs hd k (i + 1) (by omega) (by omega) (by omega)
      · rw [if_neg (by omega)]
        have := preS_end (l := l) (s := i) (by omega) (s + d - i)
        rw [show i + (s + d - i) = s + d by omega] at this
        rw [this]
    · rw [if_neg (by omega), show s + d = i by omega]
theorem sums_f {l : List Int} (h : Smalls l) {s d : Nat} (hs : s ≤ 10) (hd : d ≤ 10) {k : Nat} (hk : 30 ≤ k) : pianolalaw04_sums.f k l s d = some (preS l (s + d) - preS l s) := by
  have := sums_l0 h s d hs hd k s (Nat.le_refl _) (by omega) (by omega)
  rw [show preS l s - preS l s = 0 by omega] at this
  exact this
theorem tried_l4 {L : List S71} {n : Nat} (hn : n ≤ 5) (x7 x8 x9 x11 x57 : Int) (l : List Int) (hl : Smalls l) (t : Nat) (a : Int) (ht : t ≤ 4) (ha : 0 ≤ a ∧ a ≤ 5) : ∀ (m s : Nat), s + m = n → ∀ (p q : Bool),
    (∀ p' q' : Bool, (p' = true ↔ p = true ∧ ∀ i, s ≤ i → i < n → preS l (i + t) - preS l i ≤ a) → (q' = true ↔ q = true ∧ ∀ i, s ≤ i → i < n → i + t ≤ n → a ≤ preS l (i + t) - preS l i) →
      Evt fun k => pianolalaw04_PumpTried.l3 k L n x7 x8 x9 x11 l p' q' L L.length (wrap64 (x57 + 1))) →
    Evt fun k => pianolalaw04_PumpTried.l4 k L n x7 x8 x9 x11 l p q s L L.length x57 t a
  | 0, s, hs, p, q, h => by
    refine (h p q ⟨fun e => ⟨e, fun i _ _ => by omega⟩, And.left⟩ ⟨fun e => ⟨e, fun i _ _ => by omega⟩, And.left⟩).step fun k => ?_
    rw [pianolalaw04_PumpTried.l4, if_neg (by omega)]
  | m + 1, s, hs, p, q, h => by
    have ih := tried_l4 hn x7 x8 x9 x11 x57 l hl t a ht ha m (s + 1) (by omega) (p && decide (preS l (s + t) - preS l s ≤ a)) (q && (decide (n < s + t) || decide (a ≤ preS l (s + t) - preS l s))) (fun p' q' hp hq => h p' q'
      (by
        rw [hp, Bool.and_eq_true, decide_eq_true_eq]
        constructor
        · rintro ⟨⟨h1, h2⟩, h3⟩
          refine ⟨h1, fun i hi hin => ?_⟩
          by_cases c : i = s
          · subst c; exact h2
          · exact h3 i (by omega) hin
        · rintro ⟨h1, h2⟩
          exact ⟨⟨h1, h2 s (Nat.le_refl _) (by omega)⟩, fun i hi => h2 i (by omega)⟩)
      (by
        rw [hq, Bool.and_eq_true, Bool.or_eq_true, decide_eq_true_eq, decide_eq_true_eq]
        constructor
        · rintro ⟨⟨h1, h2⟩, h3⟩
          refine ⟨h1, fun i hi hin hit => ?_⟩
          by_cases c : i = s
          · subst c
            rcases h2 with h2 | h2
            · omega
            · exact h2
          · exact h3 i (by omega) hin hit
        · rintro ⟨h1, h2⟩
          refine ⟨⟨h1, ?_⟩, fun i hi => h2 i (by omega)⟩
          by_cases c : n < s + t
          · exact .inl c
          · exact .inr (h2 s (Nat.le_refl _) (by omega) (by omega))))
    refine ih.step_from 40 fun k hk => ?_
    have e1 : wrap64 ((s : Int) + t) = ((s + t : Nat) : Int) := by unfold wrap64; omega
    have e2 : wrap64 ((s : Int) + 1) = ((s + 1 : Nat) : Int) := by unfold wrap64; omega
    rw [pianolalaw04_PumpTried.l4, if_pos (by omega), sums_f hl (by omega) (by omega) (by omega), e1, e2]
    by_cases c : ((s + t : Nat) : Int) > (n : Int)
    · have cn : decide (n < s + t) = true := decide_eq_true (by omega)
      rw [cn]
      cases p <;> cases q <;> simp only [if_pos c, Option.bind_some, Bool.true_and, Bool.false_and, Bool.true_or, if_true, Bool.false_eq_true, if_false]
    · have cn : decide (n < s + t) = false := decide_eq_false (by omega)
      rw [cn]
      cases p <;> cases q <;> simp only [if_neg c, Option.bind_some, Bool.true_and, Bool.false_and, Bool.false_or, if_true, Bool.false_eq_true, if_false]
section
variable {L : List S71} (hL : Few L) {n : Nat} (hn : n ≤ 5)
include hL hn
theorem tried_l3 (x7 x8 x9 x11 : Int) (l : List Int) (hl : Smalls l) (hln : l.length = n) : ∀ (m j : Nat), j + m = L.length → ∀ (p q : Bool),
    (∀ p' q' : Bool, (p' = true ↔ p = true ∧ ∀ b ∈ (bs L).drop j, ∀ i, i < n → preS l (i + b.1.toNat) - preS l i ≤ b.2) → (q' = true ↔ q = true ∧ ∀ b ∈ (bs L).drop j, ∀ i, i < n → i + b.1.toNat ≤ n → b.2 ≤ preS l (i + b.1.toNat) - preS l i) →
      Evt fun k => pianolalaw04_PumpTried.l1 k L n (if p' = true then max x7 (preS l n) else x7) (if q' = true then min x8 (preS l n) else x8) x9 (wrap64 (x11 + 1))) →
    Evt fun k => pianolalaw04_PumpTried.l3 k L n x7 x8 x9 x11 l p q L L.length j
  | 0, j, hj, p, q, h => by
    have hd : (bs L).drop j = [] := List.drop_eq_nil_of_le (by simp [bs]; omega)
    refine (h p q ⟨fun e => ⟨e, fun b hb => by rw [hd] at hb; cases hb⟩, And.left⟩ ⟨fun e => ⟨e, fun b hb => by rw [hd] at hb; cases hb⟩, And.left⟩).step_from 40 fun k hk => ?_
    have es := sums_f hl (s := 0) (d := n) (by omega) (by omega) (k := k) (by omega)
    rw [Nat.zero_add, show preS l n - preS l 0 = preS l n from Int.sub_zero _] at es
    rw [pianolalaw04_PumpTried.l3, if_neg (by omega), show (0 : Int) = ((0 : Nat) : Int) from rfl, es]
    have mn_min : ∀ a b : Int, mn a b = min a b := fun a b => by unfold mn; omega
    cases p <;> cases q <;> simp [mx_max, mn_min]
  | m + 1, j, hj, p, q, h => by
    have hb := hL.small _ (show rd_T71 L (j : Nat) ∈ L by
      unfold rd_T71
      rw [List.getD_eq_getElem?_getD, Int.toNat_natCast, List.getElem?_eq_getElem (by omega)]
      exact List.getElem_mem _)
    have hd := bs_drop L (i := j) (by omega)
    have := tried_l4 hn x7 x8 x9 x11 j l hl (rd_T71 L j).f0.toNat (rd_T71 L j).f1 (by omega) hb.2 n 0 (by omega) p q (fun p' q' hp hq => by
      rw [show wrap64 ((j : Int) + 1) = ((j + 1 : Nat) : Int) by have := hL.le; unfold wrap64; omega]
      refine tried_l3 x7 x8 x9 x11 l hl hln m (j + 1) (by omega) p' q' (fun p'' q'' hp' hq' => h p'' q'' ?_ ?_)
      · rw [hp', hp, hd]
        constructor
        · rintro ⟨⟨h1, h2⟩, h3⟩
          refine ⟨h1, fun b hb' i hi => ?_⟩
          rcases List.mem_cons.1 hb' with rfl | hb'
          · exact h2 i (Nat.zero_le _) hi
          · exact h3 b hb' i hi
        · rintro ⟨h1, h2⟩
          exact ⟨⟨h1, fun i _ hi => h2 _ List.mem_cons_self i hi⟩, fun b hb' => h2 b (List.mem_cons_of_mem _ hb')⟩
      · rw [hq', hq, hd]
        constructor
        · rintro ⟨⟨h1, h2⟩, h3⟩
          refine ⟨h1, fun b hb' i hi => ?_⟩
          rcases List.mem_cons.1 hb' with rfl | hb'
          · exact h2 i (Nat.zero_le _) hi
          · exact h3 b hb' i hi
        · rintro ⟨h1, h2⟩
          exact ⟨⟨h1, fun i _ hi => h2 _ List.mem_cons_self i hi⟩, fun b hb' => h2 b (List.mem_cons_of_mem _ hb')⟩)
    refine this.step fun k => ?_
    rw [pianolalaw04_PumpTried.l3, if_pos (by omega), if_pos (by omega), if_pos (by omega), Int.toNat_of_nonneg (by omega)]
    rfl
end
def digs : Nat → Nat → List Int
  | 0, _ => []
  | m + 1, r => ((r % 6 : Nat) : Int) :: digs m (r / 6)
theorem tried_l2 {L : List S71} {n : Nat} (hn : n ≤ 5) (x7 x8 x9 x11 : Int) : ∀ (m i r : Nat) (x12 : List Int), i + m = n → x12.length = i → r < 10000 →
    (Evt fun k => pianolalaw04_PumpTried.l3 k L n x7 x8 x9 x11 (x12 ++ digs m r) true true L L.length 0) →
    Evt fun k => pianolalaw04_PumpTried.l2 k L n x7 x8 x9 x11 x12 i r
  | 0, i, r, x12, hi, hx, hr, h => by
    rw [show x12 ++ digs 0 r = x12 from List.append_nil _] at h
    refine h.step fun k => ?_
    rw [pianolalaw04_PumpTried.l2, if_neg (by omega)]
  | m + 1, i, r, x12, hi, hx, hr, h => by
    have ih := tried_l2 hn x7 x8 x9 x11 m (i + 1) (r / 6) (x12 ++ [((r % 6 : Nat) : Int)]) (by omega) (by simp; omega) (by omega) (by rw [List.append_assoc]; exact h)
    refine ih.step fun k => ?_
    have e1 : Int.tmod (r : Int) 6 = ((r % 6 : Nat) : Int) := by rw [Int.tmod_eq_emod_of_nonneg (by omega)]; rfl
    have e2 : wrap64 (Int.tdiv (r : Int) 6) = ((r / 6 : Nat) : Int) := by rw [Int.tdiv_eq_ediv_of_nonneg (by omega)]; unfold wrap64; omega
    rw [pianolalaw04_PumpTried.l2, if_pos (by omega), if_pos (by omega), e1, e2, show wrap64 ((i : Int) + 1) = ((i + 1 : Nat) : Int) by unfold wrap64; omega]
theorem digs_len : ∀ m r, (digs m r).length = m
  | 0, _ => rfl
  | m + 1, r => by simp [digs, digs_len m]
theorem digs_mem : ∀ m r, ∀ x ∈ digs m r, 0 ≤ x ∧ x ≤ 5
  | 0, _, x, h => by cases h
  | m + 1, r, x, h => by
    rcases List.mem_cons.1 h with rfl | h
    · omega
    · exact digs_mem m _ x h
theorem digs_all : ∀ l : List Int, (∀ x ∈ l, 0 ≤ x ∧ x ≤ 5) → ∃ r, r < 6 ^ l.length ∧ digs l.length r = l
  | [], _ => ⟨0, by simp, rfl⟩
  | x :: l, h => by
    obtain ⟨r, hr, e⟩ := digs_all l (fun y hy => h y (List.mem_cons_of_mem _ hy))
    have hx := h x List.mem_cons_self
    refine ⟨x.toNat + 6 * r, ?_, ?_⟩
    · rw [List.length_cons, Nat.pow_succ]; omega
    · show ((_ % 6 : Nat) : Int) :: digs l.length (_ / 6) = _
      rw [show (x.toNat + 6 * r) % 6 = x.toNat by omega, show (x.toNat + 6 * r) / 6 = r by omega, e, Int.toNat_of_nonneg hx.1]
def steps (f : Nat → Int) (n : Nat) : List Int := (List.range n).map fun i => f (i + 1) - f i
theorem steps_preS {f : Nat → Int} (h0 : f 0 = 0) {n : Nat} : ∀ m, m ≤ n → preS (steps f n) m = f m
  | 0, _ => h0.symm
  | m + 1, h => by
    have : preS (steps f n) (m + 1) = preS (steps f n) m + (steps f n).getD m 0 := rfl
    rw [this, steps_preS h0 m (by omega), List.getD_eq_getElem?_getD, List.getElem?_eq_getElem (by simp [steps]; omega)]
    simp [steps]
    omega
theorem preS_top {l : List Int} {n m : Nat} (h : l.length = n) (hm : n ≤ m) : preS l m = preS l n := by
  have := preS_end (l := l) (s := n) (by omega) (m - n)
  rw [show n + (m - n) = m by omega] at this
  exact this
theorem tried_l0 {L : List S71} {n : Nat} (hn : n ≤ 5) (x7 x8 : Int) : ∀ (m i : Nat), i + m = n → (Evt fun k => pianolalaw04_PumpTried.l1 k L n x7 x8 ((6 ^ n : Nat) : Int) 0) → Evt fun k => pianolalaw04_PumpTried.l0 k L n x7 x8 ((6 ^ i : Nat) : Int) i
  | 0, i, hi, h => by
    obtain rfl : i = n := by omega
    refine h.step fun k => ?_
    rw [pianolalaw04_PumpTried.l0, if_neg (by omega)]
  | m + 1, i, hi, h => by
    refine (tried_l0 hn x7 x8 m (i + 1) (by omega) h).step fun k => ?_
    have h6 : 6 ^ i ≤ 7776 := by
      have := Nat.pow_le_pow_right (show 0 < 6 by omega) (show i ≤ 5 by omega)
      exact this
    rw [pianolalaw04_PumpTried.l0, if_pos (by omega), show wrap64 (((6 ^ i : Nat) : Int) * 6) = ((6 ^ (i + 1) : Nat) : Int) by rw [Nat.pow_succ]; unfold wrap64; omega, show wrap64 ((i : Int) + 1) = ((i + 1 : Nat) : Int) by unfold wrap64; omega]
section
variable {L : List S71} (hL : Few L) {n : Nat} (hn : n ≤ 5)
include hL hn
theorem tried_l1 (rM rL : Nat) (hM : rM < 6 ^ n) (hM1 : (∀ b ∈ bs L, ∀ i, i < n → preS (digs n rM) (i + b.1.toNat) - preS (digs n rM) i ≤ b.2) ∧ preS (digs n rM) n = mst (bs L) n)
  (hR : rL < 6 ^ n) (hR1 : (∀ b ∈ bs L, ∀ i, i < n → i + b.1.toNat ≤ n → b.2 ≤ preS (digs n rL) (i + b.1.toNat) - preS (digs n rL) i) ∧ preS (digs n rL) n = lst (bs L) n) :
  ∀ (m c : Nat), c + m = 6 ^ n → ∀ x7 x8 : Int, x7 ≤ mst (bs L) n → lst (bs L) n ≤ x8 → (rM < c → x7 = mst (bs L) n) → (rL < c → x8 = lst (bs L) n) → Evt fun k => pianolalaw04_PumpTried.l1 k L n x7 x8 ((6 ^ n : Nat) : Int) c
 | 0, c, hc, x7, x8, h1, h2, h3, h4 => by
  have z : rgd L n = 0 := rgd_of (few_cb hL) (by omega) (by omega)
  refine ⟨1, fun k hk => ?_⟩
  obtain ⟨j, rfl⟩ : ∃ j, k = j + 1 := ⟨k - 1, by omega⟩
  show pianolalaw04_PumpTried.l1 (j + 1) L n x7 x8 ((6 ^ n : Nat) : Int) c = some true
  rw [pianolalaw04_PumpTried.l1, if_neg (by omega)]
  simp only [Most_f, Least_f, z, if_true, Option.bind_some, Int.toNat_natCast]
  rw [if_pos (h3 (by omega)).symm, if_pos (h4 (by omega)).symm]
  rfl
 | m + 1, c, hc, x7, x8, h1, h2, h3, h4 => by
  have h6 : 6 ^ n ≤ 7776 := by
   have := Nat.pow_le_pow_right (show 0 < 6 by omega) hn
   exact this
  obtain ⟨hB, _⟩ := bds_of (few_cb hL)
  have hs : Smalls (digs n c) := ⟨by rw [digs_len]; exact hn, digs_mem n c⟩
  have h3' := tried_l3 hL hn x7 x8 ((6 ^ n : Nat) : Int) c (digs n c) hs (digs_len n c) L.length 0 (by omega) true true (fun p' q' hp hq => by
   rw [show wrap64 ((c : Int) + 1) = ((c + 1 : Nat) : Int) by unfold wrap64; omega]
   rw [List.drop_zero] at hp hq
   have nn : ∀ i, 0 ≤ (digs n c).getD i 0 := fun i => (smalls_getD hs i).1
   refine tried_l1 rM rL hM hM1 hR hR1 m (c + 1) (by omega) _ _ ?_ ?_ ?_ ?_
   ·
    by_cases e : p' = true
    ·
     rw [if_pos e]
     have hk : Keeps (bs L) (digs n c) := fun b hb s => by
      by_cases cs : s < n
      ·
       exact (hp.1 e).2 b hb s cs
      ·
       rw [preS_top (digs_len n c) (show n ≤ s + b.1.toNat by omega), preS_top (digs_len n c) (show n ≤ s by omega)]
       have := hB.a b hb
       omega
     have := keeps_mst hB nn hk n 0
     rw [Nat.zero_add, show preS (digs n c) 0 = 0 from rfl] at this
     omega
    ·
     rw [if_neg e]; exact h1
   ·
    by_cases e : q' = true
    ·
     rw [if_pos e]
     have hk : Has (bs L) n (digs n c) := fun b hb s hsn => (hq.1 e).2 b hb s (by have := hB.t b hb; omega) hsn
     have := has_lst hB nn hk n 0 (by omega)
     rw [Nat.zero_add, show preS (digs n c) 0 = 0 from rfl] at this
     omega
    ·
     rw [if_neg e]; exact h2
   ·
    intro hlt
    by_cases e : rM = c
    ·
     subst e
     rw [if_pos (hp.2 ⟨rfl, hM1.1⟩), hM1.2]
     omega
    ·
     have := h3 (by omega)
     by_cases e' : p' = true
     ·
      rw [if_pos e']
      have hk : Keeps (bs L) (digs n c) := fun b hb s => by
       by_cases cs : s < n
       ·
        exact (hp.1 e').2 b hb s cs
       ·
        rw [preS_top (digs_len n c) (show n ≤ s + b.1.toNat by omega), preS_top (digs_len n c) (show n ≤ s by omega)]
        have := hB.a b hb
        omega
      have := keeps_mst hB nn hk n 0
      rw [Nat.zero_add, show preS (digs n c) 0 = 0 from rfl] at this
      omega
     ·
      rw [if_neg e']; exact this
   ·
    intro hlt
    by_cases e : rL = c
    ·
     subst e
     rw [if_pos (hq.2 ⟨rfl, hR1.1⟩), hR1.2]
     omega
    ·
     have := h4 (by omega)
     by_cases e' : q' = true
     ·
      rw [if_pos e']
      have hk : Has (bs L) n (digs n c) := fun b hb s hsn => (hq.1 e').2 b hb s (by have := hB.t b hb; omega) hsn
      have := has_lst hB nn hk n 0 (by omega)
      rw [Nat.zero_add, show preS (digs n c) 0 = 0 from rfl] at this
      omega
     ·
      rw [if_neg e']; exact this)
  have h2' := tried_l2 hn x7 x8 ((6 ^ n : Nat) : Int) c n 0 c [] (by omega) rfl (by omega) h3'
  refine h2'.step fun k => ?_
  rw [pianolalaw04_PumpTried.l1, if_pos (by omega)]
  rfl
theorem tried_all : Evt fun k => pianolalaw04_PumpTried.l0 k L n 0 1000 1 0 := by
  obtain ⟨hB, _⟩ := bds_of (few_cb hL)
  have ha : ∀ b ∈ bs L, b.2 ≤ 5 := fun b hb => by
    obtain ⟨x, hx, rfl⟩ := List.mem_map.1 hb
    exact (hL.small x hx).2.2
  obtain ⟨c, lc, ec⟩ := List.exists_cons_of_ne_nil hB.ne
  have hc : c ∈ bs L := by rw [ec]; exact List.mem_cons_self
  have sM : ∀ x ∈ steps (mst (bs L)) n, 0 ≤ x ∧ x ≤ 5 := fun x hx => by
    obtain ⟨i, _, rfl⟩ := List.mem_map.1 hx
    have h1 := mst_step hB i
    have h2 := (mst_spec hB i).1 c hc
    have h3 := mst_mono hB (show i + 1 - c.1.toNat ≤ i by have := hB.t c hc; omega)
    have h4 := ha c hc
    omega
  have sL : ∀ x ∈ steps (lst (bs L)) n, 0 ≤ x ∧ x ≤ 5 := fun x hx => by
    obtain ⟨i, _, rfl⟩ := List.mem_map.1 hx
    obtain ⟨h1, _, h2⟩ := lst_spec hB i
    rcases h2 with ⟨_, e⟩ | ⟨j, _, b, hb, hbn, e⟩
    · omega
    · have hbm := List.mem_of_getElem? hb
      have h3 := lst_mono hB (show i + 1 - b.1.toNat ≤ i by have := hB.t b hbm; omega)
      have h4 := ha b hbm
      omega
  have lM : (steps (mst (bs L)) n).length = n := by simp [steps]
  have lL : (steps (lst (bs L)) n).length = n := by simp [steps]
  obtain ⟨rM, hM, eM⟩ := digs_all _ sM
  obtain ⟨rL, hR, eL⟩ := digs_all _ sL
  rw [lM] at hM eM
  rw [lL] at hR eL
  have pM := steps_preS (f := mst (bs L)) rfl (n := n)
  have pL := steps_preS (f := lst (bs L)) rfl (n := n)
  refine tried_l0 hn 0 1000 n 0 (by omega) (tried_l1 hL hn rM rL hM ⟨fun b hb i hi => ?_, ?_⟩ hR ⟨fun b hb i hi hin => ?_, ?_⟩ (6 ^ n) 0 (by omega) 0 1000 (mst_nonneg hB n) ?_ (fun h => by omega) (fun h => by omega))
  · rw [eM, pM i (by omega)]
    have ht := hB.t b hb
    have h1 := (mst_spec hB (i + b.1.toNat - 1)).1 b hb
    rw [show i + b.1.toNat - 1 + 1 = i + b.1.toNat by omega, show i + b.1.toNat - b.1.toNat = i by omega] at h1
    by_cases q : i + b.1.toNat ≤ n
    · rw [pM _ q]; omega
    · rw [preS_top lM (by omega), pM n (Nat.le_refl _)]
      have := mst_mono hB (show n ≤ i + b.1.toNat by omega)
      omega
  · rw [eM]; exact pM n (Nat.le_refl _)
  · rw [eL, pL i (by omega), pL _ hin]
    have ht := hB.t b hb
    have h1 := (lst_spec hB (i + b.1.toNat - 1)).2.1 b hb (by omega)
    rw [show i + b.1.toNat - 1 + 1 = i + b.1.toNat by omega, show i + b.1.toNat - b.1.toNat = i by omega] at h1
    omega
  · rw [eL]; exact pL n (Nat.le_refl _)
  · have : ∀ m, lst (bs L) m ≤ 5 * m := fun m => by
      induction m with
      | zero => exact Int.le_refl _
      | succ i ih =>
        obtain ⟨_, _, h2⟩ := lst_spec hB i
        rcases h2 with ⟨_, e⟩ | ⟨j, _, b, hb, hbn, e⟩
        · omega
        · have hbm := List.mem_of_getElem? hb
          have h3 := lst_mono hB (show i + 1 - b.1.toNat ≤ i by have := hB.t b hbm; omega)
          have h4 := ha b hbm
          omega
    have := this n
    omega
end
end Go.Proofs.Ythoeindopljmkaa.P
namespace Go.Proofs.Ythoeindopljmkaa.Pure
open P Go.RowKit
theorem PumpTried (l : List S86) (a : Int) (hl : ∀ s ∈ l, (Lit.int .u8 s.f0).wf = true ∧ (Lit.int .u8 s.f1).wf = true) (ha : (Lit.int .u8 a).wf = true) : ∃ k, pianolalaw04_PumpTried.f k l a = some true := by
  have hu : U8s l := fun x hx => ⟨u8_wf (hl x hx).1, u8_wf (hl x hx).2⟩
  have hm := u8_wf ha
  obtain ⟨L, hL, hf⟩ := made_all hu
  have h0 : 0 ≤ Int.tmod a 6 := Int.tmod_nonneg 6 hm.1
  have h1 : Int.tmod a 6 < 6 := Int.tmod_lt_of_pos a (by omega)
  obtain ⟨n, hn⟩ := Int.eq_ofNat_of_zero_le h0
  obtain ⟨K, hK⟩ := tried_all hf (n := n) (by omega)
  refine ⟨K + 9, ?_⟩
  unfold pianolalaw04_PumpTried.f
  rw [hL _ (by omega), Option.bind_some, show wrap64 a = a by unfold wrap64; omega, hn]
  exact hK _ (by omega)
end Go.Proofs.Ythoeindopljmkaa.Pure
end
