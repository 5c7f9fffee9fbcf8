/- Words and contracts for a claim. -/
import Derived.Test.YtpfkfbbekfkcgaaVaultDeals1
import Derived.StillTailTactics
section
namespace Go.Proofs.Ytpfkfbbekfkcgaa.P
open Go.RowKit Go.Proofs.YtpfkfbbekfkcgaaW.PrintWords Go.Proofs.YtpfkfbbekfkcgaaW.PrintLast Go.Proofs.YtpfkfbbekfkcgaaW.PrintMore
attribute [local go_sem] max2_int min2_int max_two min_two max_three min_three max_four min_four
set_option linter.unusedVariables false
set_option linter.unusedSimpArgs false
attribute [local go_sem high] eqA61
set_option maxHeartbeats 8000000 in
set_option maxRecDepth 100000 in
theorem pianolaref09_Inverse.calls (k : Nat) (a0 : Int) (r1 : Int) (r2 : Int) (w : World) (h : pianolaref09_Inverse.f k a0 = some (r1, r2)) :
    Calls Try.prog 21 #[.int .i64 a0] w fun e w' => e = .returned (.tuple #[.int .i64 r1, .int .i64 r2]) ∧ Drawn0 w w' := by
  have H : ((pianolaref09_is.f a0 0 250).bind fun t133 => (if t133 = true then (if a0 = 0 then (some (0, 8)) else ((pianolaref09_inverse.f k a0).bind fun t134 => (some (t134, 0)))) else (some (0, 3)))) = some (r1, r2) := h
  clear h
  replace H := Option.bind_eq_some_iff.mp H
  obtain ⟨t133, A20, H⟩ := H
  replace H : (if t133 = true then (if a0 = 0 then (some (0, 8)) else ((pianolaref09_inverse.f k a0).bind fun t134 => (some (t134, 0)))) else (some (0, 3))) = some (r1, r2) := H
  have A2 := Aside0.mk A20
  clear A20
  by_cases c3 : t133 = true
  · subst c3
    have H1 : (if a0 = 0 then (some (0, 8)) else ((pianolaref09_inverse.f k a0).bind fun t134 => (some (t134, 0)))) = some (r1, r2) := by rw [if_pos rfl] at H; exact H
    clear H
    have H := H1
    clear H1
    by_cases c4 : a0 = 0
    · rw [if_pos c4] at H
      have c4b0 : (a0 == 0) = true := beq_iff_eq.mpr c4
      have c4b1 : (a0 != 0) = false := bne_eq_false_iff_eq.mpr c4
      clear c4
      simp only [Option.some.injEq, Prod.mk.injEq] at H
      obtain ⟨rfl, rfl⟩ := H
      go_enter Try.func21, Try.ntmps21
      go_wp2_with (first | ((with_reducible refine gate_callee (f := 52) rfl ?_); refine goesL_ (some 5) rfl rfl Try.func52 (by kernel_rfl) rfl #[.int .i64 a0, .int .i64 0, .int .i64 250] rfl (by (try simp only [List.map_toArray, List.map_cons, List.map_nil]); first | done | rfl | (simp only [List.length_drop, List.length_take]; rfl)) ?_; (with_reducible refine (pianolaref09_is.calls a0 0 250 true _ A2.out).mono ?_); rintro e w' ⟨rfl, ⟨nd, rfl⟩⟩; refine ⟨_, rfl, ?_⟩))
      go_ret2
      exact ⟨by first | rfl | (simp; done) | (simp [*]; done), by repeat (first | exact Drawn0.refl _ | apply Drawn0.step)⟩
    · rw [if_neg c4] at H
      have c4b0 : (a0 == 0) = false := beq_eq_false_iff_ne.mpr c4
      have c4b1 : (a0 != 0) = true := bne_iff_ne.mpr c4
      replace H := Option.bind_eq_some_iff.mp H
      obtain ⟨t134, A50, H⟩ := H
      replace H : (some (t134, 0)) = some (r1, r2) := H
      have A5 := Aside0.mk A50
      clear A50
      simp only [Option.some.injEq, Prod.mk.injEq] at H
      obtain ⟨rfl, rfl⟩ := H
      go_enter Try.func21, Try.ntmps21
      go_wp2_with (first | ((with_reducible refine gate_callee (f := 52) rfl ?_); refine goesL_ (some 5) rfl rfl Try.func52 (by kernel_rfl) rfl #[.int .i64 a0, .int .i64 0, .int .i64 250] rfl (by (try simp only [List.map_toArray, List.map_cons, List.map_nil]); first | done | rfl | (simp only [List.length_drop, List.length_take]; rfl)) ?_; (with_reducible refine (pianolaref09_is.calls a0 0 250 true _ A2.out).mono ?_); rintro e w' ⟨rfl, ⟨nd, rfl⟩⟩; refine ⟨_, rfl, ?_⟩) | ((with_reducible refine gate_callee (f := 55) rfl ?_); refine goesL_ (some 10) rfl rfl Try.func55 (by kernel_rfl) rfl #[.int .i64 a0] rfl (by (try simp only [List.map_toArray, List.map_cons, List.map_nil]); first | done | rfl | (simp only [List.length_drop, List.length_take]; rfl)) ?_; (with_reducible refine (pianolaref09_inverse.calls k a0 t134 _ A5.out).mono ?_); rintro e w' ⟨rfl, ⟨nd, rfl⟩⟩; refine ⟨_, rfl, ?_⟩))
      go_ret2
      exact ⟨by first | rfl | (simp; done) | (simp [*]; done), by repeat (first | exact Drawn0.refl _ | apply Drawn0.step)⟩
  · replace c3 := Bool.eq_false_iff.mpr c3
    subst c3
    have H1 : (some (0, 3)) = some (r1, r2) := by rw [if_neg (show ¬ (false = true) by decide)] at H; exact H
    clear H
    have H := H1
    clear H1
    simp only [Option.some.injEq, Prod.mk.injEq] at H
    obtain ⟨rfl, rfl⟩ := H
    go_enter Try.func21, Try.ntmps21
    go_wp2_with (first | ((with_reducible refine gate_callee (f := 52) rfl ?_); refine goesL_ (some 5) rfl rfl Try.func52 (by kernel_rfl) rfl #[.int .i64 a0, .int .i64 0, .int .i64 250] rfl (by (try simp only [List.map_toArray, List.map_cons, List.map_nil]); first | done | rfl | (simp only [List.length_drop, List.length_take]; rfl)) ?_; (with_reducible refine (pianolaref09_is.calls a0 0 250 false _ A2.out).mono ?_); rintro e w' ⟨rfl, ⟨nd, rfl⟩⟩; refine ⟨_, rfl, ?_⟩))
    go_ret2
    exact ⟨by first | rfl | (simp; done) | (simp [*]; done), by repeat (first | exact Drawn0.refl _ | apply Drawn0.step)⟩
set_option maxHeartbeats 8000000 in
set_option maxRecDepth 100000 in
theorem pianolalaw09_same.calls (k : Nat) (A0 : Option Addr) (c0 : Nat) (l0 : List (S61)) (A1 : Option Addr) (c1 : Nat) (l1 : List (S91)) (r : Bool) (w : World) (hr0 : Kd.C k61 w A0 l0.length l0) (hc0 : l0.length ≤ c0) (hr1 : Kd.C k91 w A1 l1.length l1) (hc1 : l1.length ≤ c1) (h : pianolalaw09_same.f k l0 l1 = some r) :
    Calls Try.prog 24 #[.slice A0 l0.length c0, .slice A1 l1.length c1] w fun e w' => e = .returned (.bool r) ∧ Drawn0 w w' := by
  have hu61 := Try.underlying61
  have hu91 := Try.underlying91
  have HR0 := Aside0.mk hr0
  have HC0 := Aside0.mk hc0
  clear hr0 hc0
  have HR1 := Aside0.mk hr1
  have HC1 := Aside0.mk hc1
  clear hr1 hc1
  have H : (if (l0.length : Int) = (l1.length : Int) then (pianolalaw09_same.l0 k l0 l1 0) else (some false)) = some r := h
  clear h
  by_cases c3 : (l0.length : Int) = (l1.length : Int)
  · rw [if_pos c3] at H
    have c3b0 : ((l0.length : Int) == (l1.length : Int)) = true := beq_iff_eq.mpr c3
    have c3b1 : ((l0.length : Int) != (l1.length : Int)) = false := bne_eq_false_iff_eq.mpr c3
    have c3b2 : (l0.length == l1.length) = true := by first | simpa using c3 | (simp at c3 ⊢; omega)
    clear c3
    have H' := Aside0.mk H
    clear H
    go_enter Try.func24, Try.ntmps24
    go_wp2
    (first | (refine wp_region_still_tail 8 (by kernel_rfl) (by kernel_rfl) ?_; simp only [List.take_succ_cons, List.take_zero, List.drop_succ_cons, List.drop_zero]; change wpStill _ _ (World.drew _) (fun a' => wpList _ _ _ _ a' (World.drew _)) _ _; (repeat still_step); refine wpStill_nil ?_; go_wp2) | skip)
    go_loopg [5] k (fun kq v5 w' => ∃ (x5_1 : Int), v5 = .int .i64 x5_1 ∧ Aside0 (pianolalaw09_same.l0 kq l0 l1 x5_1 = some r) ∧ Aside0 (kq ≤ k) ∧ Drawn0 w w')
    case atStart => exact ⟨(0), (by first | rfl | (simp; done) | (simp [*]; done)), H', ⟨Nat.le_refl _⟩, by repeat (first | exact Drawn0.refl _ | apply Drawn0.step)⟩
    case round =>
      clear H'
      try clear c1
      try clear c2
      try clear p2
      try clear c3
      try clear c3b0
      try clear c3b1
      try clear c3b2
      obtain ⟨x5_1, rfl, HA, HK1, ⟨m1, rfl⟩⟩ := hrel
      cases gk with
      | zero => exact absurd HA.out (by simp [pianolalaw09_same.l0])
      | succ k1 =>
        have H := HA.out
        clear HA
        simp only [pianolalaw09_same.l0] at H
        by_cases c4 : x5_1 < (l0.length : Int)
        · rw [if_pos c4] at H
          have c4b0 : decide (x5_1 < (l0.length : Int)) = true := decide_eq_true c4
          clear c4
          by_cases c5 : 0 ≤ x5_1
          · rw [if_pos c5] at H
            have c5b0 : decide (0 ≤ x5_1) = true := decide_eq_true c5
            clear c5
            by_cases c6 : x5_1 < (l1.length : Int)
            · rw [if_pos c6] at H
              have c6b0 : decide (x5_1 < (l1.length : Int)) = true := decide_eq_true c6
              clear c6
              by_cases c7 : (!(((rd_T61 l0 x5_1).f0) == ((rd_T91 l1 x5_1).f0)) || (!(((rd_T61 l0 x5_1).f1) == ((rd_T91 l1 x5_1).f1)))) = true
              · rw [if_pos c7] at H
                have c7b0 : (!(((rd_T61 l0 x5_1).f0) == ((rd_T91 l1 x5_1).f0)) || (!(((rd_T61 l0 x5_1).f1) == ((rd_T91 l1 x5_1).f1)))) = true := c7
                clear c7
                obtain rfl := Option.some.inj H
                have p150 : 0 ≤ (x5_1 : Int) := of_decide_eq_true (by first | (with_reducible assumption) | assumption)
                have q150 : x5_1 < (l0.length : Int) := of_decide_eq_true (by first | (with_reducible assumption) | assumption)
                obtain ⟨ad150, e150, hx150_0, hx150_1⟩ := at_T61 HR0.out x5_1 p150 q150
                cases e150
                replace p150 := eq_true p150
                replace q150 := eq_true q150
                have p151 : 0 ≤ (x5_1 : Int) := of_decide_eq_true (by first | (with_reducible assumption) | assumption)
                have q151 : x5_1 < (l1.length : Int) := of_decide_eq_true (by first | (with_reducible assumption) | assumption)
                obtain ⟨ad151, e151, hx151_0, hx151_1⟩ := at_T91 HR1.out x5_1 p151 q151
                cases e151
                replace p151 := eq_true p151
                replace q151 := eq_true q151
                by_cases hq8 : ((rd_T61 l0 x5_1).f0) = ((rd_T91 l1 x5_1).f0)
                all_goals (have hq9 : ¬ (((rd_T61 l0 x5_1).f0) = ((rd_T91 l1 x5_1).f0) ∧ ((rd_T61 l0 x5_1).f1) = ((rd_T91 l1 x5_1).f1)) := (fun hh => by simp [hh.1, hh.2] at c7b0); (try (have hq10 : ¬ (((rd_T61 l0 x5_1).f1) = ((rd_T91 l1 x5_1).f1)) := fun e => hq9 ⟨hq8, e⟩)); clear hq9 c7b0; go_wp2)
                all_goals (first | (refine wp_region_still_tail 8 (by kernel_rfl) (by kernel_rfl) ?_; simp only [List.take_succ_cons, List.take_zero, List.drop_succ_cons, List.drop_zero]; change wpStill _ _ (World.drew _) (fun a' => wpList _ _ _ _ a' (World.drew _)) _ _; (repeat still_step); refine wpStill_nil ?_; go_wp2) | skip)
                all_goals go_ret
                all_goals exact ⟨by first | rfl | (simp; done) | (simp [*]; done), by repeat (first | exact Drawn0.refl _ | apply Drawn0.step)⟩
              · rw [if_neg c7] at H
                have c7b0 : (!(((rd_T61 l0 x5_1).f0) == ((rd_T91 l1 x5_1).f0)) || (!(((rd_T61 l0 x5_1).f1) == ((rd_T91 l1 x5_1).f1)))) = false := by simpa using c7
                have hq7 := c7b0
                simp only [Bool.or_eq_false_iff, Bool.not_eq_false', beq_iff_eq] at hq7
                clear c7
                have H' := Aside0.mk H
                clear H
                have p150 : 0 ≤ (x5_1 : Int) := of_decide_eq_true (by first | (with_reducible assumption) | assumption)
                have q150 : x5_1 < (l0.length : Int) := of_decide_eq_true (by first | (with_reducible assumption) | assumption)
                obtain ⟨ad150, e150, hx150_0, hx150_1⟩ := at_T61 HR0.out x5_1 p150 q150
                cases e150
                replace p150 := eq_true p150
                replace q150 := eq_true q150
                have p151 : 0 ≤ (x5_1 : Int) := of_decide_eq_true (by first | (with_reducible assumption) | assumption)
                have q151 : x5_1 < (l1.length : Int) := of_decide_eq_true (by first | (with_reducible assumption) | assumption)
                obtain ⟨ad151, e151, hx151_0, hx151_1⟩ := at_T91 HR1.out x5_1 p151 q151
                cases e151
                replace p151 := eq_true p151
                replace q151 := eq_true q151
                rw [hq7.1] at hx150_0
                rw [hq7.2] at hx150_1
                go_wp2
                (first | (refine wp_region_still_tail 8 (by kernel_rfl) (by kernel_rfl) ?_; simp only [List.take_succ_cons, List.take_zero, List.drop_succ_cons, List.drop_zero]; change wpStill _ _ (World.drew _) (fun a' => wpList _ _ _ _ a' (World.drew _)) _ _; (repeat still_step); refine wpStill_nil ?_; go_wp2) | skip)
                go_roundg k1
                case measure => have := HK1.out; omega
                case rel => exact ⟨(wrap64 (x5_1 + 1)), (by first | rfl | (simp; done) | (simp [*]; done)), H', ⟨by have := HK1.out; omega⟩, by repeat (first | exact Drawn0.refl _ | apply Drawn0.step)⟩
            · rw [if_neg c6] at H
              exact absurd H (by simp)
          · rw [if_neg c5] at H
            exact absurd H (by simp)
        · rw [if_neg c4] at H
          have c4b0 : decide (x5_1 < (l0.length : Int)) = false := decide_eq_false c4
          clear c4
          obtain rfl := Option.some.inj H
          go_wp2
          (first | (refine wp_region_still_tail 8 (by kernel_rfl) (by kernel_rfl) ?_; simp only [List.take_succ_cons, List.take_zero, List.drop_succ_cons, List.drop_zero]; change wpStill _ _ (World.drew _) (fun a' => wpList _ _ _ _ a' (World.drew _)) _ _; (repeat still_step); refine wpStill_nil ?_; go_wp2) | skip)
          all_goals go_ret
          all_goals exact ⟨by first | rfl | (simp; done) | (simp [*]; done), by repeat (first | exact Drawn0.refl _ | apply Drawn0.step)⟩
  · rw [if_neg c3] at H
    have c3b0 : ((l0.length : Int) == (l1.length : Int)) = false := beq_eq_false_iff_ne.mpr c3
    have c3b1 : ((l0.length : Int) != (l1.length : Int)) = true := bne_iff_ne.mpr c3
    have c3b2 : (l0.length == l1.length) = false := by first | simpa using c3 | (simp at c3 ⊢; omega)
    obtain rfl := Option.some.inj H
    go_enter Try.func24, Try.ntmps24
    go_wp2
    (first | (refine wp_region_still_tail 8 (by kernel_rfl) (by kernel_rfl) ?_; simp only [List.take_succ_cons, List.take_zero, List.drop_succ_cons, List.drop_zero]; change wpStill _ _ (World.drew _) (fun a' => wpList _ _ _ _ a' (World.drew _)) _ _; (repeat still_step); refine wpStill_nil ?_; go_wp2) | skip)
    all_goals go_ret
    all_goals exact ⟨by first | rfl | (simp; done) | (simp [*]; done), by repeat (first | exact Drawn0.refl _ | apply Drawn0.step)⟩
end Go.Proofs.Ytpfkfbbekfkcgaa.P
end
section
namespace Go.Proofs.Ytpfkfbbekfkcgaa.P
open Go.RowKit Go.Proofs.YtpfkfbbekfkcgaaW.PrintWords Go.Proofs.YtpfkfbbekfkcgaaW.PrintLast Go.Proofs.YtpfkfbbekfkcgaaW.PrintMore
attribute [local go_sem] max2_int min2_int max_two min_two max_three min_three max_four min_four
set_option linter.unusedVariables false
set_option linter.unusedSimpArgs false
def pianolalaw09_VaultDeals.f (k : Nat) (l0 : List Int) (a1 : Int) (a2 : Int) : Option (Bool) := if (l0.length : Int) > 40 then ((pianolalaw09_works.f).bind fun t152 => (some t152)) else ((vault_Value.f k l0 a1).bind fun bt153 => ((pianolaref09_Value.f k l0 a1).bind fun bt155 => ((vault_Inverse.f k a1).bind fun bt157 => ((pianolaref09_Inverse.f k a1).bind fun bt159 => ((vault_Deal.f k l0 a2).bind fun bt161 => ((pianolaref09_Deal.f k l0 a2).bind fun bt165 => (if bt153.1 = bt155.1 then (if bt153.2 = bt155.2 then (if bt157.1 = bt159.1 then (if bt157.2 = bt159.2 then ((pianolalaw09_same.f k bt161.1 bt165.1).bind fun t169 => (if t169 = true then (if bt161.2 = bt165.2 then ((pianolalaw09_works.f).bind fun t170 => (some t170)) else (some false)) else (some false))) else (some false)) else (some false)) else (some false)) else (some false))))))))
theorem pianolalaw09_VaultDeals.mono : ∀ a0 a1 a2 k, LeO (pianolalaw09_VaultDeals.f k a0 a1 a2) (pianolalaw09_VaultDeals.f (k + 1) a0 a1 a2) := by
  intro a0 a1 a2 k
  unfold pianolalaw09_VaultDeals.f
  repeat' first
      | (with_reducible exact pianolalaw09_same.mono _ _ _)
      | (with_reducible exact pianolaref09_Deal.mono _ _ _)
      | (with_reducible exact pianolaref09_Inverse.mono _ _)
      | (with_reducible exact pianolaref09_Value.mono _ _ _)
      | (with_reducible exact vault_Deal.mono _ _ _)
      | (with_reducible exact vault_Inverse.mono _ _)
      | (with_reducible exact vault_Value.mono _ _ _)
      | (with_reducible exact LeO.refl _)
      | (with_reducible exact LeO.none _)
      | (with_reducible refine LeO.ite ?_ ?_)
      | (with_reducible refine LeO.bind ?_ (fun _ => ?_))
      | exact pianolalaw09_same.mono _ _ _
      | exact pianolaref09_Deal.mono _ _ _
      | exact pianolaref09_Inverse.mono _ _
      | exact pianolaref09_Value.mono _ _ _
      | exact vault_Deal.mono _ _ _
      | exact vault_Inverse.mono _ _
      | exact vault_Value.mono _ _ _
      | exact LeO.none _
      | refine LeO.ite ?_ ?_
      | refine LeO.bind ?_ (fun _ => ?_)
set_option maxHeartbeats 8000000 in
set_option maxRecDepth 100000 in
theorem pianolalaw09_VaultDeals.calls (k : Nat) (A0 : Option Addr) (c0 : Nat) (l0 : List Int) (a1 : Int) (a2 : Int) (r : Bool) (w : World) (hr0 : Kd.C (Kd.int .i64) w A0 l0.length l0) (hc0 : l0.length ≤ c0) (h : pianolalaw09_VaultDeals.f k l0 a1 a2 = some r) :
    Calls Try.prog 3 #[.slice A0 l0.length c0, .int .i64 a1, .int .i64 a2] w fun e w' => e = .returned (.bool r) ∧ Below w.heap.size w w' := by
  have HR0 := Aside0.mk hr0
  have HC0 := Aside0.mk hc0
  clear hr0 hc0
  have HB := Aside0.mk (Below.refl w.heap.size w)
  have H : (if (l0.length : Int) > 40 then ((pianolalaw09_works.f).bind fun t152 => (some t152)) else ((vault_Value.f k l0 a1).bind fun bt153 => ((pianolaref09_Value.f k l0 a1).bind fun bt155 => ((vault_Inverse.f k a1).bind fun bt157 => ((pianolaref09_Inverse.f k a1).bind fun bt159 => ((vault_Deal.f k l0 a2).bind fun bt161 => ((pianolaref09_Deal.f k l0 a2).bind fun bt165 => (if bt153.1 = bt155.1 then (if bt153.2 = bt155.2 then (if bt157.1 = bt159.1 then (if bt157.2 = bt159.2 then ((pianolalaw09_same.f k bt161.1 bt165.1).bind fun t169 => (if t169 = true then (if bt161.2 = bt165.2 then ((pianolalaw09_works.f).bind fun t170 => (some t170)) else (some false)) else (some false))) else (some false)) else (some false)) else (some false)) else (some false))))))))) = some r := h
  clear h
  by_cases c4 : (l0.length : Int) > 40
  · rw [if_pos c4] at H
    have c4b0 : decide (40 < (l0.length : Int)) = true := decide_eq_true c4
    have c4b1 : decide (40 < l0.length) = true := decide_eq_true (by omega)
    clear c4
    replace H := Option.bind_eq_some_iff.mp H
    obtain ⟨t152, A50, H⟩ := H
    replace H : (some t152) = some r := H
    have A5 := Aside0.mk A50
    clear A50
    obtain rfl := Option.some.inj H
    go_enter Try.func3, Try.ntmps3
    go_wp2_with (first | ((with_reducible refine gate_callee (f := 17) rfl ?_); refine goesL_ (some 22) rfl rfl Try.func17 (by kernel_rfl) rfl #[] rfl (by (try simp only [List.map_toArray, List.map_cons, List.map_nil]); first | done | rfl | (simp only [List.length_drop, List.length_take]; rfl)) ?_; (with_reducible refine (pianolalaw09_works.calls  t152 _ A5.out).mono ?_); rintro e w6 ⟨rfl, hb⟩; refine ⟨_, rfl, ?_⟩; have n0_ := Aside0.mk (below_step (by repeat (first | (with_reducible first | exact HB.out | apply below_alloc | apply pw_below_drewN | apply below_drew1) | exact HB.out)) hb); clear HB; have HB := n0_; clear n0_; (try clear hb); (try clear hb2); (try clear hk); (try clear hi)))
    go_ret
    exact ⟨by first | rfl | (simp [errW_none, errW_some] <;> rfl) | (simp [*, errW_none, errW_some] <;> rfl), by repeat (first | (with_reducible first | exact HB.out | apply below_alloc | apply pw_below_drewN | apply below_drew1) | exact HB.out)⟩
  · rw [if_neg c4] at H
    have c4b0 : decide (40 < (l0.length : Int)) = false := decide_eq_false c4
    have c4b1 : decide (40 < l0.length) = false := decide_eq_false (by omega)
    clear c4
    replace H := Option.bind_eq_some_iff.mp H
    obtain ⟨⟨t153, t154⟩, A70, H⟩ := H
    replace H : ((pianolaref09_Value.f k l0 a1).bind fun bt155 => ((vault_Inverse.f k a1).bind fun bt157 => ((pianolaref09_Inverse.f k a1).bind fun bt159 => ((vault_Deal.f k l0 a2).bind fun bt161 => ((pianolaref09_Deal.f k l0 a2).bind fun bt165 => (if t153 = bt155.1 then (if t154 = bt155.2 then (if bt157.1 = bt159.1 then (if bt157.2 = bt159.2 then ((pianolalaw09_same.f k bt161.1 bt165.1).bind fun t169 => (if t169 = true then (if bt161.2 = bt165.2 then ((pianolalaw09_works.f).bind fun t170 => (some t170)) else (some false)) else (some false))) else (some false)) else (some false)) else (some false)) else (some false))))))) = some r := H
    have A7 := Aside0.mk A70
    clear A70
    replace H := Option.bind_eq_some_iff.mp H
    obtain ⟨⟨t155, t156⟩, A80, H⟩ := H
    replace H : ((vault_Inverse.f k a1).bind fun bt157 => ((pianolaref09_Inverse.f k a1).bind fun bt159 => ((vault_Deal.f k l0 a2).bind fun bt161 => ((pianolaref09_Deal.f k l0 a2).bind fun bt165 => (if t153 = t155 then (if t154 = t156 then (if bt157.1 = bt159.1 then (if bt157.2 = bt159.2 then ((pianolalaw09_same.f k bt161.1 bt165.1).bind fun t169 => (if t169 = true then (if bt161.2 = bt165.2 then ((pianolalaw09_works.f).bind fun t170 => (some t170)) else (some false)) else (some false))) else (some false)) else (some false)) else (some false)) else (some false)))))) = some r := H
    have A8 := Aside0.mk A80
    clear A80
    replace H := Option.bind_eq_some_iff.mp H
    obtain ⟨⟨t157, t158⟩, A90, H⟩ := H
    replace H : ((pianolaref09_Inverse.f k a1).bind fun bt159 => ((vault_Deal.f k l0 a2).bind fun bt161 => ((pianolaref09_Deal.f k l0 a2).bind fun bt165 => (if t153 = t155 then (if t154 = t156 then (if t157 = bt159.1 then (if t158 = bt159.2 then ((pianolalaw09_same.f k bt161.1 bt165.1).bind fun t169 => (if t169 = true then (if bt161.2 = bt165.2 then ((pianolalaw09_works.f).bind fun t170 => (some t170)) else (some false)) else (some false))) else (some false)) else (some false)) else (some false)) else (some false))))) = some r := H
    have A9 := Aside0.mk A90
    clear A90
    replace H := Option.bind_eq_some_iff.mp H
    obtain ⟨⟨t159, t160⟩, A100, H⟩ := H
    replace H : ((vault_Deal.f k l0 a2).bind fun bt161 => ((pianolaref09_Deal.f k l0 a2).bind fun bt165 => (if t153 = t155 then (if t154 = t156 then (if t157 = t159 then (if t158 = t160 then ((pianolalaw09_same.f k bt161.1 bt165.1).bind fun t169 => (if t169 = true then (if bt161.2 = bt165.2 then ((pianolalaw09_works.f).bind fun t170 => (some t170)) else (some false)) else (some false))) else (some false)) else (some false)) else (some false)) else (some false)))) = some r := H
    have A10 := Aside0.mk A100
    clear A100
    replace H := Option.bind_eq_some_iff.mp H
    obtain ⟨⟨t161, t162⟩, A110, H⟩ := H
    replace H : ((pianolaref09_Deal.f k l0 a2).bind fun bt165 => (if t153 = t155 then (if t154 = t156 then (if t157 = t159 then (if t158 = t160 then ((pianolalaw09_same.f k t161 bt165.1).bind fun t169 => (if t169 = true then (if t162 = bt165.2 then ((pianolalaw09_works.f).bind fun t170 => (some t170)) else (some false)) else (some false))) else (some false)) else (some false)) else (some false)) else (some false))) = some r := H
    have A11 := Aside0.mk A110
    clear A110
    replace H := Option.bind_eq_some_iff.mp H
    obtain ⟨⟨t165, t166⟩, A120, H⟩ := H
    replace H : (if t153 = t155 then (if t154 = t156 then (if t157 = t159 then (if t158 = t160 then ((pianolalaw09_same.f k t161 t165).bind fun t169 => (if t169 = true then (if t162 = t166 then ((pianolalaw09_works.f).bind fun t170 => (some t170)) else (some false)) else (some false))) else (some false)) else (some false)) else (some false)) else (some false)) = some r := H
    have A12 := Aside0.mk A120
    clear A120
    by_cases c13 : t153 = t155
    · rw [if_pos c13] at H
      have c13b0 : (t153 == t155) = true := beq_iff_eq.mpr c13
      have c13b1 : (t153 != t155) = false := bne_eq_false_iff_eq.mpr c13
      clear c13
      by_cases c14 : t154 = t156
      · rw [if_pos c14] at H
        have c14b0 : (t154 == t156) = true := beq_iff_eq.mpr c14
        have c14b1 : (t154 != t156) = false := bne_eq_false_iff_eq.mpr c14
        clear c14
        by_cases c15 : t157 = t159
        · rw [if_pos c15] at H
          have c15b0 : (t157 == t159) = true := beq_iff_eq.mpr c15
          have c15b1 : (t157 != t159) = false := bne_eq_false_iff_eq.mpr c15
          clear c15
          by_cases c16 : t158 = t160
          · rw [if_pos c16] at H
            have c16b0 : (t158 == t160) = true := beq_iff_eq.mpr c16
            have c16b1 : (t158 != t160) = false := bne_eq_false_iff_eq.mpr c16
            clear c16
            replace H := Option.bind_eq_some_iff.mp H
            obtain ⟨t169, A170, H⟩ := H
            replace H : (if t169 = true then (if t162 = t166 then ((pianolalaw09_works.f).bind fun t170 => (some t170)) else (some false)) else (some false)) = some r := H
            have A17 := Aside0.mk A170
            clear A170
            by_cases c18 : t169 = true
            · subst c18
              have H1 : (if t162 = t166 then ((pianolalaw09_works.f).bind fun t170 => (some t170)) else (some false)) = some r := by rw [if_pos rfl] at H; exact H
              clear H
              have H := H1
              clear H1
              by_cases c19 : t162 = t166
              · rw [if_pos c19] at H
                have c19b0 : (t162 == t166) = true := beq_iff_eq.mpr c19
                have c19b1 : (t162 != t166) = false := bne_eq_false_iff_eq.mpr c19
                clear c19
                replace H := Option.bind_eq_some_iff.mp H
                obtain ⟨t170, A200, H⟩ := H
                replace H : (some t170) = some r := H
                have A20 := Aside0.mk A200
                clear A200
                obtain rfl := Option.some.inj H
                go_enter Try.func3, Try.ntmps3
                go_wp2_with (first | ((with_reducible refine gate_callee (f := 18) rfl ?_); refine goesL_ (some 26) rfl rfl Try.func18 (by kernel_rfl) rfl #[.slice A0 l0.length c0, .int .i64 a1] rfl (by (try simp only [List.map_toArray, List.map_cons, List.map_nil]); first | done | rfl | (simp only [List.length_drop, List.length_take]; rfl)) ?_; (with_reducible refine (vault_Value.calls k _ _ l0 a1 t153 t154 _ ?side1 ?side2 A7.out).mono ?_); (case side1 => repeat (first | exact HR0.out | (with_reducible refine Kd.C_alloc ?_ _) | (with_reducible refine Kd.C_drewN ?_ _) | (with_reducible refine Kd.C_drew ?_))); (case side2 => exact HC0.out); rintro e w21 ⟨rfl, hb⟩; refine ⟨_, rfl, ?_⟩; have n0_ := Aside0.mk (below_step (by repeat (first | (with_reducible first | exact HB.out | apply below_alloc | apply pw_below_drewN | apply below_drew1) | exact HB.out)) hb); clear HB; have HB := n0_; clear n0_; (try clear hb); (try clear hb2); (try clear hk); (try clear hi)) | ((with_reducible refine gate_callee (f := 19) rfl ?_); refine goesL_ (some 32) rfl rfl Try.func19 (by kernel_rfl) rfl #[.slice A0 l0.length c0, .int .i64 a1] rfl (by (try simp only [List.map_toArray, List.map_cons, List.map_nil]); first | done | rfl | (simp only [List.length_drop, List.length_take]; rfl)) ?_; (with_reducible refine (pianolaref09_Value.calls k _ _ l0 a1 t155 t156 _ ?side1 ?side2 A8.out).mono ?_); (case side1 => repeat (first | exact (Kd.C_below HR0.out HB.out) | (with_reducible refine Kd.C_alloc ?_ _) | (with_reducible refine Kd.C_drewN ?_ _) | (with_reducible refine Kd.C_drew ?_))); (case side2 => exact HC0.out); rintro e w' ⟨rfl, ⟨nd, rfl⟩⟩; refine ⟨_, rfl, ?_⟩) | ((with_reducible refine gate_callee (f := 20) rfl ?_); refine goesL_ (some 37) rfl rfl Try.func20 (by kernel_rfl) rfl #[.int .i64 a1] rfl (by (try simp only [List.map_toArray, List.map_cons, List.map_nil]); first | done | rfl | (simp only [List.length_drop, List.length_take]; rfl)) ?_; (with_reducible refine (vault_Inverse.calls k a1 t157 t158 _ A9.out).mono ?_); rintro e w' ⟨rfl, ⟨nd, rfl⟩⟩; refine ⟨_, rfl, ?_⟩) | ((with_reducible refine gate_callee (f := 21) rfl ?_); refine goesL_ (some 42) rfl rfl Try.func21 (by kernel_rfl) rfl #[.int .i64 a1] rfl (by (try simp only [List.map_toArray, List.map_cons, List.map_nil]); first | done | rfl | (simp only [List.length_drop, List.length_take]; rfl)) ?_; (with_reducible refine (pianolaref09_Inverse.calls k a1 t159 t160 _ A10.out).mono ?_); rintro e w' ⟨rfl, ⟨nd, rfl⟩⟩; refine ⟨_, rfl, ?_⟩) | ((with_reducible refine gate_callee (f := 22) rfl ?_); refine goesL_ (some 48) rfl rfl Try.func22 (by kernel_rfl) rfl #[.slice A0 l0.length c0, .int .i64 a2] rfl (by (try simp only [List.map_toArray, List.map_cons, List.map_nil]); first | done | rfl | (simp only [List.length_drop, List.length_take]; rfl)) ?_; (with_reducible refine (vault_Deal.calls k _ _ l0 a2 t161 t162 _ ?side1 ?side2 A11.out).mono ?_); (case side1 => repeat (first | exact (Kd.C_below HR0.out (by repeat (first | (with_reducible first | exact HB.out | apply below_alloc | apply pw_below_drewN | apply below_drew1) | exact HB.out))) | (with_reducible refine Kd.C_alloc ?_ _) | (with_reducible refine Kd.C_drewN ?_ _) | (with_reducible refine Kd.C_drew ?_))); (case side2 => exact HC0.out); rintro e w22 ⟨v163, rfl, ho0, hb⟩; refine ⟨_, rfl, ?_⟩; have n0_ := Aside0.mk (Kd.R_lower ho0 (below_size (by repeat (first | (with_reducible first | exact HB.out | apply below_alloc | apply pw_below_drewN | apply below_drew1) | exact HB.out)))); have n1_ := Aside0.mk (below_step (by repeat (first | (with_reducible first | exact HB.out | apply below_alloc | apply pw_below_drewN | apply below_drew1) | exact HB.out)) hb); clear HB; have HO164 := n0_; have HB := n1_; clear n0_ n1_; (try clear hb); (try clear hb2); (try clear hk); (try clear hi); (try clear ho0)) | ((with_reducible refine gate_callee (f := 23) rfl ?_); refine goesL_ (some 54) rfl rfl Try.func23 (by kernel_rfl) rfl #[.slice A0 l0.length c0, .int .i64 a2] rfl (by (try simp only [List.map_toArray, List.map_cons, List.map_nil]); first | done | rfl | (simp only [List.length_drop, List.length_take]; rfl)) ?_; (with_reducible refine (pianolaref09_Deal.calls k _ _ l0 a2 t165 t166 _ ?side1 ?side2 A12.out).mono ?_); (case side1 => repeat (first | exact (Kd.C_below HR0.out HB.out) | (with_reducible refine Kd.C_alloc ?_ _) | (with_reducible refine Kd.C_drewN ?_ _) | (with_reducible refine Kd.C_drew ?_))); (case side2 => exact HC0.out); rintro e w23 ⟨v167, rfl, ho0, hb⟩; refine ⟨_, rfl, ?_⟩; have n0_ := Aside0.mk (Kd.R_below (by (with_reducible repeat (first | apply Kd.R_alloc | apply Kd.R_drewN | apply Kd.R_drew)); exact HO164.out) hb); have n1_ := Aside0.mk (Kd.R_lower ho0 (below_size (by repeat (first | (with_reducible first | exact HB.out | apply below_alloc | apply pw_below_drewN | apply below_drew1) | exact HB.out)))); have n2_ := Aside0.mk (below_step (by repeat (first | (with_reducible first | exact HB.out | apply below_alloc | apply pw_below_drewN | apply below_drew1) | exact HB.out)) hb); clear HO164; clear HB; have HO164 := n0_; have HO168 := n1_; have HB := n2_; clear n0_ n1_ n2_; (try clear hb); (try clear hb2); (try clear hk); (try clear hi); (try clear ho0); obtain ⟨Ao24, co24, eo24⟩ := Kd.R_slice HO164.out; subst eo24; obtain ⟨Ao25, co25, eo25⟩ := Kd.R_slice HO168.out; subst eo25) | (go_at_call 24; (with_reducible refine (pianolalaw09_same.calls k _ _ t161 _ _ t165 true _ ?side1 ?side2 ?side3 ?side4 A17.out).mono ?_); (case side1 => repeat (first | exact (Kd.R_reads' HO164.out).2.2 | (with_reducible refine Kd.C_alloc ?_ _) | (with_reducible refine Kd.C_drewN ?_ _) | (with_reducible refine Kd.C_drew ?_))); (case side2 => exact (Kd.R_reads' HO164.out).2.1); (case side3 => repeat (first | exact (Kd.R_reads' HO168.out).2.2 | (with_reducible refine Kd.C_alloc ?_ _) | (with_reducible refine Kd.C_drewN ?_ _) | (with_reducible refine Kd.C_drew ?_))); (case side4 => exact (Kd.R_reads' HO168.out).2.1); rintro e w' ⟨rfl, ⟨nd, rfl⟩⟩) | (go_at_call 17; (with_reducible refine (pianolalaw09_works.calls  t170 _ A20.out).mono ?_); rintro e w26 ⟨rfl, hb⟩; have n0_ := Aside0.mk (Kd.R_below (by (with_reducible repeat (first | apply Kd.R_alloc | apply Kd.R_drewN | apply Kd.R_drew)); exact HO164.out) hb); have n1_ := Aside0.mk (Kd.R_below (by (with_reducible repeat (first | apply Kd.R_alloc | apply Kd.R_drewN | apply Kd.R_drew)); exact HO168.out) hb); have n2_ := Aside0.mk (below_step (by repeat (first | (with_reducible first | exact HB.out | apply below_alloc | apply pw_below_drewN | apply below_drew1) | exact HB.out)) hb); clear HO164; clear HO168; clear HB; have HO164 := n0_; have HO168 := n1_; have HB := n2_; clear n0_ n1_ n2_; (try clear hb); (try clear hb2); (try clear hk); (try clear hi)))
                go_ret
                exact ⟨by first | rfl | (simp [errW_none, errW_some] <;> rfl) | (simp [*, errW_none, errW_some] <;> rfl), by repeat (first | (with_reducible first | exact HB.out | apply below_alloc | apply pw_below_drewN | apply below_drew1) | exact HB.out)⟩
              · rw [if_neg c19] at H
                have c19b0 : (t162 == t166) = false := beq_eq_false_iff_ne.mpr c19
                have c19b1 : (t162 != t166) = true := bne_iff_ne.mpr c19
                obtain rfl := Option.some.inj H
                go_enter Try.func3, Try.ntmps3
                go_wp2_with (first | ((with_reducible refine gate_callee (f := 18) rfl ?_); refine goesL_ (some 26) rfl rfl Try.func18 (by kernel_rfl) rfl #[.slice A0 l0.length c0, .int .i64 a1] rfl (by (try simp only [List.map_toArray, List.map_cons, List.map_nil]); first | done | rfl | (simp only [List.length_drop, List.length_take]; rfl)) ?_; (with_reducible refine (vault_Value.calls k _ _ l0 a1 t153 t154 _ ?side1 ?side2 A7.out).mono ?_); (case side1 => repeat (first | exact HR0.out | (with_reducible refine Kd.C_alloc ?_ _) | (with_reducible refine Kd.C_drewN ?_ _) | (with_reducible refine Kd.C_drew ?_))); (case side2 => exact HC0.out); rintro e w27 ⟨rfl, hb⟩; refine ⟨_, rfl, ?_⟩; have n0_ := Aside0.mk (below_step (by repeat (first | (with_reducible first | exact HB.out | apply below_alloc | apply pw_below_drewN | apply below_drew1) | exact HB.out)) hb); clear HB; have HB := n0_; clear n0_; (try clear hb); (try clear hb2); (try clear hk); (try clear hi)) | ((with_reducible refine gate_callee (f := 19) rfl ?_); refine goesL_ (some 32) rfl rfl Try.func19 (by kernel_rfl) rfl #[.slice A0 l0.length c0, .int .i64 a1] rfl (by (try simp only [List.map_toArray, List.map_cons, List.map_nil]); first | done | rfl | (simp only [List.length_drop, List.length_take]; rfl)) ?_; (with_reducible refine (pianolaref09_Value.calls k _ _ l0 a1 t155 t156 _ ?side1 ?side2 A8.out).mono ?_); (case side1 => repeat (first | exact (Kd.C_below HR0.out HB.out) | (with_reducible refine Kd.C_alloc ?_ _) | (with_reducible refine Kd.C_drewN ?_ _) | (with_reducible refine Kd.C_drew ?_))); (case side2 => exact HC0.out); rintro e w' ⟨rfl, ⟨nd, rfl⟩⟩; refine ⟨_, rfl, ?_⟩) | ((with_reducible refine gate_callee (f := 20) rfl ?_); refine goesL_ (some 37) rfl rfl Try.func20 (by kernel_rfl) rfl #[.int .i64 a1] rfl (by (try simp only [List.map_toArray, List.map_cons, List.map_nil]); first | done | rfl | (simp only [List.length_drop, List.length_take]; rfl)) ?_; (with_reducible refine (vault_Inverse.calls k a1 t157 t158 _ A9.out).mono ?_); rintro e w' ⟨rfl, ⟨nd, rfl⟩⟩; refine ⟨_, rfl, ?_⟩) | ((with_reducible refine gate_callee (f := 21) rfl ?_); refine goesL_ (some 42) rfl rfl Try.func21 (by kernel_rfl) rfl #[.int .i64 a1] rfl (by (try simp only [List.map_toArray, List.map_cons, List.map_nil]); first | done | rfl | (simp only [List.length_drop, List.length_take]; rfl)) ?_; (with_reducible refine (pianolaref09_Inverse.calls k a1 t159 t160 _ A10.out).mono ?_); rintro e w' ⟨rfl, ⟨nd, rfl⟩⟩; refine ⟨_, rfl, ?_⟩) | ((with_reducible refine gate_callee (f := 22) rfl ?_); refine goesL_ (some 48) rfl rfl Try.func22 (by kernel_rfl) rfl #[.slice A0 l0.length c0, .int .i64 a2] rfl (by (try simp only [List.map_toArray, List.map_cons, List.map_nil]); first | done | rfl | (simp only [List.length_drop, List.length_take]; rfl)) ?_; (with_reducible refine (vault_Deal.calls k _ _ l0 a2 t161 t162 _ ?side1 ?side2 A11.out).mono ?_); (case side1 => repeat (first | exact (Kd.C_below HR0.out (by repeat (first | (with_reducible first | exact HB.out | apply below_alloc | apply pw_below_drewN | apply below_drew1) | exact HB.out))) | (with_reducible refine Kd.C_alloc ?_ _) | (with_reducible refine Kd.C_drewN ?_ _) | (with_reducible refine Kd.C_drew ?_))); (case side2 => exact HC0.out); rintro e w28 ⟨v163, rfl, ho0, hb⟩; refine ⟨_, rfl, ?_⟩; have n0_ := Aside0.mk (Kd.R_lower ho0 (below_size (by repeat (first | (with_reducible first | exact HB.out | apply below_alloc | apply pw_below_drewN | apply below_drew1) | exact HB.out)))); have n1_ := Aside0.mk (below_step (by repeat (first | (with_reducible first | exact HB.out | apply below_alloc | apply pw_below_drewN | apply below_drew1) | exact HB.out)) hb); clear HB; have HO164 := n0_; have HB := n1_; clear n0_ n1_; (try clear hb); (try clear hb2); (try clear hk); (try clear hi); (try clear ho0)) | ((with_reducible refine gate_callee (f := 23) rfl ?_); refine goesL_ (some 54) rfl rfl Try.func23 (by kernel_rfl) rfl #[.slice A0 l0.length c0, .int .i64 a2] rfl (by (try simp only [List.map_toArray, List.map_cons, List.map_nil]); first | done | rfl | (simp only [List.length_drop, List.length_take]; rfl)) ?_; (with_reducible refine (pianolaref09_Deal.calls k _ _ l0 a2 t165 t166 _ ?side1 ?side2 A12.out).mono ?_); (case side1 => repeat (first | exact (Kd.C_below HR0.out HB.out) | (with_reducible refine Kd.C_alloc ?_ _) | (with_reducible refine Kd.C_drewN ?_ _) | (with_reducible refine Kd.C_drew ?_))); (case side2 => exact HC0.out); rintro e w29 ⟨v167, rfl, ho0, hb⟩; refine ⟨_, rfl, ?_⟩; have n0_ := Aside0.mk (Kd.R_below (by (with_reducible repeat (first | apply Kd.R_alloc | apply Kd.R_drewN | apply Kd.R_drew)); exact HO164.out) hb); have n1_ := Aside0.mk (Kd.R_lower ho0 (below_size (by repeat (first | (with_reducible first | exact HB.out | apply below_alloc | apply pw_below_drewN | apply below_drew1) | exact HB.out)))); have n2_ := Aside0.mk (below_step (by repeat (first | (with_reducible first | exact HB.out | apply below_alloc | apply pw_below_drewN | apply below_drew1) | exact HB.out)) hb); clear HO164; clear HB; have HO164 := n0_; have HO168 := n1_; have HB := n2_; clear n0_ n1_ n2_; (try clear hb); (try clear hb2); (try clear hk); (try clear hi); (try clear ho0); obtain ⟨Ao30, co30, eo30⟩ := Kd.R_slice HO164.out; subst eo30; obtain ⟨Ao31, co31, eo31⟩ := Kd.R_slice HO168.out; subst eo31) | (go_at_call 24; (with_reducible refine (pianolalaw09_same.calls k _ _ t161 _ _ t165 true _ ?side1 ?side2 ?side3 ?side4 A17.out).mono ?_); (case side1 => repeat (first | exact (Kd.R_reads' HO164.out).2.2 | (with_reducible refine Kd.C_alloc ?_ _) | (with_reducible refine Kd.C_drewN ?_ _) | (with_reducible refine Kd.C_drew ?_))); (case side2 => exact (Kd.R_reads' HO164.out).2.1); (case side3 => repeat (first | exact (Kd.R_reads' HO168.out).2.2 | (with_reducible refine Kd.C_alloc ?_ _) | (with_reducible refine Kd.C_drewN ?_ _) | (with_reducible refine Kd.C_drew ?_))); (case side4 => exact (Kd.R_reads' HO168.out).2.1); rintro e w' ⟨rfl, ⟨nd, rfl⟩⟩))
                go_ret
                exact ⟨by first | rfl | (simp [errW_none, errW_some] <;> rfl) | (simp [*, errW_none, errW_some] <;> rfl), by repeat (first | (with_reducible first | exact HB.out | apply below_alloc | apply pw_below_drewN | apply below_drew1) | exact HB.out)⟩
            · replace c18 := Bool.eq_false_iff.mpr c18
              subst c18
              have H1 : (some false) = some r := by rw [if_neg (show ¬ (false = true) by decide)] at H; exact H
              clear H
              have H := H1
              clear H1
              obtain rfl := Option.some.inj H
              go_enter Try.func3, Try.ntmps3
              go_wp2_with (first | ((with_reducible refine gate_callee (f := 18) rfl ?_); refine goesL_ (some 26) rfl rfl Try.func18 (by kernel_rfl) rfl #[.slice A0 l0.length c0, .int .i64 a1] rfl (by (try simp only [List.map_toArray, List.map_cons, List.map_nil]); first | done | rfl | (simp only [List.length_drop, List.length_take]; rfl)) ?_; (with_reducible refine (vault_Value.calls k _ _ l0 a1 t153 t154 _ ?side1 ?side2 A7.out).mono ?_); (case side1 => repeat (first | exact HR0.out | (with_reducible refine Kd.C_alloc ?_ _) | (with_reducible refine Kd.C_drewN ?_ _) | (with_reducible refine Kd.C_drew ?_))); (case side2 => exact HC0.out); rintro e w32 ⟨rfl, hb⟩; refine ⟨_, rfl, ?_⟩; have n0_ := Aside0.mk (below_step (by repeat (first | (with_reducible first | exact HB.out | apply below_alloc | apply pw_below_drewN | apply below_drew1) | exact HB.out)) hb); clear HB; have HB := n0_; clear n0_; (try clear hb); (try clear hb2); (try clear hk); (try clear hi)) | ((with_reducible refine gate_callee (f := 19) rfl ?_); refine goesL_ (some 32) rfl rfl Try.func19 (by kernel_rfl) rfl #[.slice A0 l0.length c0, .int .i64 a1] rfl (by (try simp only [List.map_toArray, List.map_cons, List.map_nil]); first | done | rfl | (simp only [List.length_drop, List.length_take]; rfl)) ?_; (with_reducible refine (pianolaref09_Value.calls k _ _ l0 a1 t155 t156 _ ?side1 ?side2 A8.out).mono ?_); (case side1 => repeat (first | exact (Kd.C_below HR0.out HB.out) | (with_reducible refine Kd.C_alloc ?_ _) | (with_reducible refine Kd.C_drewN ?_ _) | (with_reducible refine Kd.C_drew ?_))); (case side2 => exact HC0.out); rintro e w' ⟨rfl, ⟨nd, rfl⟩⟩; refine ⟨_, rfl, ?_⟩) | ((with_reducible refine gate_callee (f := 20) rfl ?_); refine goesL_ (some 37) rfl rfl Try.func20 (by kernel_rfl) rfl #[.int .i64 a1] rfl (by (try simp only [List.map_toArray, List.map_cons, List.map_nil]); first | done | rfl | (simp only [List.length_drop, List.length_take]; rfl)) ?_; (with_reducible refine (vault_Inverse.calls k a1 t157 t158 _ A9.out).mono ?_); rintro e w' ⟨rfl, ⟨nd, rfl⟩⟩; refine ⟨_, rfl, ?_⟩) | ((with_reducible refine gate_callee (f := 21) rfl ?_); refine goesL_ (some 42) rfl rfl Try.func21 (by kernel_rfl) rfl #[.int .i64 a1] rfl (by (try simp only [List.map_toArray, List.map_cons, List.map_nil]); first | done | rfl | (simp only [List.length_drop, List.length_take]; rfl)) ?_; (with_reducible refine (pianolaref09_Inverse.calls k a1 t159 t160 _ A10.out).mono ?_); rintro e w' ⟨rfl, ⟨nd, rfl⟩⟩; refine ⟨_, rfl, ?_⟩) | ((with_reducible refine gate_callee (f := 22) rfl ?_); refine goesL_ (some 48) rfl rfl Try.func22 (by kernel_rfl) rfl #[.slice A0 l0.length c0, .int .i64 a2] rfl (by (try simp only [List.map_toArray, List.map_cons, List.map_nil]); first | done | rfl | (simp only [List.length_drop, List.length_take]; rfl)) ?_; (with_reducible refine (vault_Deal.calls k _ _ l0 a2 t161 t162 _ ?side1 ?side2 A11.out).mono ?_); (case side1 => repeat (first | exact (Kd.C_below HR0.out (by repeat (first | (with_reducible first | exact HB.out | apply below_alloc | apply pw_below_drewN | apply below_drew1) | exact HB.out))) | (with_reducible refine Kd.C_alloc ?_ _) | (with_reducible refine Kd.C_drewN ?_ _) | (with_reducible refine Kd.C_drew ?_))); (case side2 => exact HC0.out); rintro e w33 ⟨v163, rfl, ho0, hb⟩; refine ⟨_, rfl, ?_⟩; have n0_ := Aside0.mk (Kd.R_lower ho0 (below_size (by repeat (first | (with_reducible first | exact HB.out | apply below_alloc | apply pw_below_drewN | apply below_drew1) | exact HB.out)))); have n1_ := Aside0.mk (below_step (by repeat (first | (with_reducible first | exact HB.out | apply below_alloc | apply pw_below_drewN | apply below_drew1) | exact HB.out)) hb); clear HB; have HO164 := n0_; have HB := n1_; clear n0_ n1_; (try clear hb); (try clear hb2); (try clear hk); (try clear hi); (try clear ho0)) | ((with_reducible refine gate_callee (f := 23) rfl ?_); refine goesL_ (some 54) rfl rfl Try.func23 (by kernel_rfl) rfl #[.slice A0 l0.length c0, .int .i64 a2] rfl (by (try simp only [List.map_toArray, List.map_cons, List.map_nil]); first | done | rfl | (simp only [List.length_drop, List.length_take]; rfl)) ?_; (with_reducible refine (pianolaref09_Deal.calls k _ _ l0 a2 t165 t166 _ ?side1 ?side2 A12.out).mono ?_); (case side1 => repeat (first | exact (Kd.C_below HR0.out HB.out) | (with_reducible refine Kd.C_alloc ?_ _) | (with_reducible refine Kd.C_drewN ?_ _) | (with_reducible refine Kd.C_drew ?_))); (case side2 => exact HC0.out); rintro e w34 ⟨v167, rfl, ho0, hb⟩; refine ⟨_, rfl, ?_⟩; have n0_ := Aside0.mk (Kd.R_below (by (with_reducible repeat (first | apply Kd.R_alloc | apply Kd.R_drewN | apply Kd.R_drew)); exact HO164.out) hb); have n1_ := Aside0.mk (Kd.R_lower ho0 (below_size (by repeat (first | (with_reducible first | exact HB.out | apply below_alloc | apply pw_below_drewN | apply below_drew1) | exact HB.out)))); have n2_ := Aside0.mk (below_step (by repeat (first | (with_reducible first | exact HB.out | apply below_alloc | apply pw_below_drewN | apply below_drew1) | exact HB.out)) hb); clear HO164; clear HB; have HO164 := n0_; have HO168 := n1_; have HB := n2_; clear n0_ n1_ n2_; (try clear hb); (try clear hb2); (try clear hk); (try clear hi); (try clear ho0); obtain ⟨Ao35, co35, eo35⟩ := Kd.R_slice HO164.out; subst eo35; obtain ⟨Ao36, co36, eo36⟩ := Kd.R_slice HO168.out; subst eo36) | (go_at_call 24; (with_reducible refine (pianolalaw09_same.calls k _ _ t161 _ _ t165 false _ ?side1 ?side2 ?side3 ?side4 A17.out).mono ?_); (case side1 => repeat (first | exact (Kd.R_reads' HO164.out).2.2 | (with_reducible refine Kd.C_alloc ?_ _) | (with_reducible refine Kd.C_drewN ?_ _) | (with_reducible refine Kd.C_drew ?_))); (case side2 => exact (Kd.R_reads' HO164.out).2.1); (case side3 => repeat (first | exact (Kd.R_reads' HO168.out).2.2 | (with_reducible refine Kd.C_alloc ?_ _) | (with_reducible refine Kd.C_drewN ?_ _) | (with_reducible refine Kd.C_drew ?_))); (case side4 => exact (Kd.R_reads' HO168.out).2.1); rintro e w' ⟨rfl, ⟨nd, rfl⟩⟩))
              go_ret
              exact ⟨by first | rfl | (simp [errW_none, errW_some] <;> rfl) | (simp [*, errW_none, errW_some] <;> rfl), by repeat (first | (with_reducible first | exact HB.out | apply below_alloc | apply pw_below_drewN | apply below_drew1) | exact HB.out)⟩
          · rw [if_neg c16] at H
            have c16b0 : (t158 == t160) = false := beq_eq_false_iff_ne.mpr c16
            have c16b1 : (t158 != t160) = true := bne_iff_ne.mpr c16
            obtain rfl := Option.some.inj H
            go_enter Try.func3, Try.ntmps3
            go_wp2_with (first | ((with_reducible refine gate_callee (f := 18) rfl ?_); refine goesL_ (some 26) rfl rfl Try.func18 (by kernel_rfl) rfl #[.slice A0 l0.length c0, .int .i64 a1] rfl (by (try simp only [List.map_toArray, List.map_cons, List.map_nil]); first | done | rfl | (simp only [List.length_drop, List.length_take]; rfl)) ?_; (with_reducible refine (vault_Value.calls k _ _ l0 a1 t153 t154 _ ?side1 ?side2 A7.out).mono ?_); (case side1 => repeat (first | exact HR0.out | (with_reducible refine Kd.C_alloc ?_ _) | (with_reducible refine Kd.C_drewN ?_ _) | (with_reducible refine Kd.C_drew ?_))); (case side2 => exact HC0.out); rintro e w37 ⟨rfl, hb⟩; refine ⟨_, rfl, ?_⟩; have n0_ := Aside0.mk (below_step (by repeat (first | (with_reducible first | exact HB.out | apply below_alloc | apply pw_below_drewN | apply below_drew1) | exact HB.out)) hb); clear HB; have HB := n0_; clear n0_; (try clear hb); (try clear hb2); (try clear hk); (try clear hi)) | ((with_reducible refine gate_callee (f := 19) rfl ?_); refine goesL_ (some 32) rfl rfl Try.func19 (by kernel_rfl) rfl #[.slice A0 l0.length c0, .int .i64 a1] rfl (by (try simp only [List.map_toArray, List.map_cons, List.map_nil]); first | done | rfl | (simp only [List.length_drop, List.length_take]; rfl)) ?_; (with_reducible refine (pianolaref09_Value.calls k _ _ l0 a1 t155 t156 _ ?side1 ?side2 A8.out).mono ?_); (case side1 => repeat (first | exact (Kd.C_below HR0.out HB.out) | (with_reducible refine Kd.C_alloc ?_ _) | (with_reducible refine Kd.C_drewN ?_ _) | (with_reducible refine Kd.C_drew ?_))); (case side2 => exact HC0.out); rintro e w' ⟨rfl, ⟨nd, rfl⟩⟩; refine ⟨_, rfl, ?_⟩) | ((with_reducible refine gate_callee (f := 20) rfl ?_); refine goesL_ (some 37) rfl rfl Try.func20 (by kernel_rfl) rfl #[.int .i64 a1] rfl (by (try simp only [List.map_toArray, List.map_cons, List.map_nil]); first | done | rfl | (simp only [List.length_drop, List.length_take]; rfl)) ?_; (with_reducible refine (vault_Inverse.calls k a1 t157 t158 _ A9.out).mono ?_); rintro e w' ⟨rfl, ⟨nd, rfl⟩⟩; refine ⟨_, rfl, ?_⟩) | ((with_reducible refine gate_callee (f := 21) rfl ?_); refine goesL_ (some 42) rfl rfl Try.func21 (by kernel_rfl) rfl #[.int .i64 a1] rfl (by (try simp only [List.map_toArray, List.map_cons, List.map_nil]); first | done | rfl | (simp only [List.length_drop, List.length_take]; rfl)) ?_; (with_reducible refine (pianolaref09_Inverse.calls k a1 t159 t160 _ A10.out).mono ?_); rintro e w' ⟨rfl, ⟨nd, rfl⟩⟩; refine ⟨_, rfl, ?_⟩) | ((with_reducible refine gate_callee (f := 22) rfl ?_); refine goesL_ (some 48) rfl rfl Try.func22 (by kernel_rfl) rfl #[.slice A0 l0.length c0, .int .i64 a2] rfl (by (try simp only [List.map_toArray, List.map_cons, List.map_nil]); first | done | rfl | (simp only [List.length_drop, List.length_take]; rfl)) ?_; (with_reducible refine (vault_Deal.calls k _ _ l0 a2 t161 t162 _ ?side1 ?side2 A11.out).mono ?_); (case side1 => repeat (first | exact (Kd.C_below HR0.out (by repeat (first | (with_reducible first | exact HB.out | apply below_alloc | apply pw_below_drewN | apply below_drew1) | exact HB.out))) | (with_reducible refine Kd.C_alloc ?_ _) | (with_reducible refine Kd.C_drewN ?_ _) | (with_reducible refine Kd.C_drew ?_))); (case side2 => exact HC0.out); rintro e w38 ⟨v163, rfl, ho0, hb⟩; refine ⟨_, rfl, ?_⟩; have n0_ := Aside0.mk (Kd.R_lower ho0 (below_size (by repeat (first | (with_reducible first | exact HB.out | apply below_alloc | apply pw_below_drewN | apply below_drew1) | exact HB.out)))); have n1_ := Aside0.mk (below_step (by repeat (first | (with_reducible first | exact HB.out | apply below_alloc | apply pw_below_drewN | apply below_drew1) | exact HB.out)) hb); clear HB; have HO164 := n0_; have HB := n1_; clear n0_ n1_; (try clear hb); (try clear hb2); (try clear hk); (try clear hi); (try clear ho0)) | ((with_reducible refine gate_callee (f := 23) rfl ?_); refine goesL_ (some 54) rfl rfl Try.func23 (by kernel_rfl) rfl #[.slice A0 l0.length c0, .int .i64 a2] rfl (by (try simp only [List.map_toArray, List.map_cons, List.map_nil]); first | done | rfl | (simp only [List.length_drop, List.length_take]; rfl)) ?_; (with_reducible refine (pianolaref09_Deal.calls k _ _ l0 a2 t165 t166 _ ?side1 ?side2 A12.out).mono ?_); (case side1 => repeat (first | exact (Kd.C_below HR0.out HB.out) | (with_reducible refine Kd.C_alloc ?_ _) | (with_reducible refine Kd.C_drewN ?_ _) | (with_reducible refine Kd.C_drew ?_))); (case side2 => exact HC0.out); rintro e w39 ⟨v167, rfl, ho0, hb⟩; refine ⟨_, rfl, ?_⟩; have n0_ := Aside0.mk (Kd.R_below (by (with_reducible repeat (first | apply Kd.R_alloc | apply Kd.R_drewN | apply Kd.R_drew)); exact HO164.out) hb); have n1_ := Aside0.mk (Kd.R_lower ho0 (below_size (by repeat (first | (with_reducible first | exact HB.out | apply below_alloc | apply pw_below_drewN | apply below_drew1) | exact HB.out)))); have n2_ := Aside0.mk (below_step (by repeat (first | (with_reducible first | exact HB.out | apply below_alloc | apply pw_below_drewN | apply below_drew1) | exact HB.out)) hb); clear HO164; clear HB; have HO164 := n0_; have HO168 := n1_; have HB := n2_; clear n0_ n1_ n2_; (try clear hb); (try clear hb2); (try clear hk); (try clear hi); (try clear ho0)))
            go_ret
            exact ⟨by first | rfl | (simp [errW_none, errW_some] <;> rfl) | (simp [*, errW_none, errW_some] <;> rfl), by repeat (first | (with_reducible first | exact HB.out | apply below_alloc | apply pw_below_drewN | apply below_drew1) | exact HB.out)⟩
        · rw [if_neg c15] at H
          have c15b0 : (t157 == t159) = false := beq_eq_false_iff_ne.mpr c15
          have c15b1 : (t157 != t159) = true := bne_iff_ne.mpr c15
          obtain rfl := Option.some.inj H
          go_enter Try.func3, Try.ntmps3
          go_wp2_with (first | ((with_reducible refine gate_callee (f := 18) rfl ?_); refine goesL_ (some 26) rfl rfl Try.func18 (by kernel_rfl) rfl #[.slice A0 l0.length c0, .int .i64 a1] rfl (by (try simp only [List.map_toArray, List.map_cons, List.map_nil]); first | done | rfl | (simp only [List.length_drop, List.length_take]; rfl)) ?_; (with_reducible refine (vault_Value.calls k _ _ l0 a1 t153 t154 _ ?side1 ?side2 A7.out).mono ?_); (case side1 => repeat (first | exact HR0.out | (with_reducible refine Kd.C_alloc ?_ _) | (with_reducible refine Kd.C_drewN ?_ _) | (with_reducible refine Kd.C_drew ?_))); (case side2 => exact HC0.out); rintro e w40 ⟨rfl, hb⟩; refine ⟨_, rfl, ?_⟩; have n0_ := Aside0.mk (below_step (by repeat (first | (with_reducible first | exact HB.out | apply below_alloc | apply pw_below_drewN | apply below_drew1) | exact HB.out)) hb); clear HB; have HB := n0_; clear n0_; (try clear hb); (try clear hb2); (try clear hk); (try clear hi)) | ((with_reducible refine gate_callee (f := 19) rfl ?_); refine goesL_ (some 32) rfl rfl Try.func19 (by kernel_rfl) rfl #[.slice A0 l0.length c0, .int .i64 a1] rfl (by (try simp only [List.map_toArray, List.map_cons, List.map_nil]); first | done | rfl | (simp only [List.length_drop, List.length_take]; rfl)) ?_; (with_reducible refine (pianolaref09_Value.calls k _ _ l0 a1 t155 t156 _ ?side1 ?side2 A8.out).mono ?_); (case side1 => repeat (first | exact (Kd.C_below HR0.out HB.out) | (with_reducible refine Kd.C_alloc ?_ _) | (with_reducible refine Kd.C_drewN ?_ _) | (with_reducible refine Kd.C_drew ?_))); (case side2 => exact HC0.out); rintro e w' ⟨rfl, ⟨nd, rfl⟩⟩; refine ⟨_, rfl, ?_⟩) | ((with_reducible refine gate_callee (f := 20) rfl ?_); refine goesL_ (some 37) rfl rfl Try.func20 (by kernel_rfl) rfl #[.int .i64 a1] rfl (by (try simp only [List.map_toArray, List.map_cons, List.map_nil]); first | done | rfl | (simp only [List.length_drop, List.length_take]; rfl)) ?_; (with_reducible refine (vault_Inverse.calls k a1 t157 t158 _ A9.out).mono ?_); rintro e w' ⟨rfl, ⟨nd, rfl⟩⟩; refine ⟨_, rfl, ?_⟩) | ((with_reducible refine gate_callee (f := 21) rfl ?_); refine goesL_ (some 42) rfl rfl Try.func21 (by kernel_rfl) rfl #[.int .i64 a1] rfl (by (try simp only [List.map_toArray, List.map_cons, List.map_nil]); first | done | rfl | (simp only [List.length_drop, List.length_take]; rfl)) ?_; (with_reducible refine (pianolaref09_Inverse.calls k a1 t159 t160 _ A10.out).mono ?_); rintro e w' ⟨rfl, ⟨nd, rfl⟩⟩; refine ⟨_, rfl, ?_⟩) | ((with_reducible refine gate_callee (f := 22) rfl ?_); refine goesL_ (some 48) rfl rfl Try.func22 (by kernel_rfl) rfl #[.slice A0 l0.length c0, .int .i64 a2] rfl (by (try simp only [List.map_toArray, List.map_cons, List.map_nil]); first | done | rfl | (simp only [List.length_drop, List.length_take]; rfl)) ?_; (with_reducible refine (vault_Deal.calls k _ _ l0 a2 t161 t162 _ ?side1 ?side2 A11.out).mono ?_); (case side1 => repeat (first | exact (Kd.C_below HR0.out (by repeat (first | (with_reducible first | exact HB.out | apply below_alloc | apply pw_below_drewN | apply below_drew1) | exact HB.out))) | (with_reducible refine Kd.C_alloc ?_ _) | (with_reducible refine Kd.C_drewN ?_ _) | (with_reducible refine Kd.C_drew ?_))); (case side2 => exact HC0.out); rintro e w41 ⟨v163, rfl, ho0, hb⟩; refine ⟨_, rfl, ?_⟩; have n0_ := Aside0.mk (Kd.R_lower ho0 (below_size (by repeat (first | (with_reducible first | exact HB.out | apply below_alloc | apply pw_below_drewN | apply below_drew1) | exact HB.out)))); have n1_ := Aside0.mk (below_step (by repeat (first | (with_reducible first | exact HB.out | apply below_alloc | apply pw_below_drewN | apply below_drew1) | exact HB.out)) hb); clear HB; have HO164 := n0_; have HB := n1_; clear n0_ n1_; (try clear hb); (try clear hb2); (try clear hk); (try clear hi); (try clear ho0)) | ((with_reducible refine gate_callee (f := 23) rfl ?_); refine goesL_ (some 54) rfl rfl Try.func23 (by kernel_rfl) rfl #[.slice A0 l0.length c0, .int .i64 a2] rfl (by (try simp only [List.map_toArray, List.map_cons, List.map_nil]); first | done | rfl | (simp only [List.length_drop, List.length_take]; rfl)) ?_; (with_reducible refine (pianolaref09_Deal.calls k _ _ l0 a2 t165 t166 _ ?side1 ?side2 A12.out).mono ?_); (case side1 => repeat (first | exact (Kd.C_below HR0.out HB.out) | (with_reducible refine Kd.C_alloc ?_ _) | (with_reducible refine Kd.C_drewN ?_ _) | (with_reducible refine Kd.C_drew ?_))); (case side2 => exact HC0.out); rintro e w42 ⟨v167, rfl, ho0, hb⟩; refine ⟨_, rfl, ?_⟩; have n0_ := Aside0.mk (Kd.R_below (by (with_reducible repeat (first | apply Kd.R_alloc | apply Kd.R_drewN | apply Kd.R_drew)); exact HO164.out) hb); have n1_ := Aside0.mk (Kd.R_lower ho0 (below_size (by repeat (first | (with_reducible first | exact HB.out | apply below_alloc | apply pw_below_drewN | apply below_drew1) | exact HB.out)))); have n2_ := Aside0.mk (below_step (by repeat (first | (with_reducible first | exact HB.out | apply below_alloc | apply pw_below_drewN | apply below_drew1) | exact HB.out)) hb); clear HO164; clear HB; have HO164 := n0_; have HO168 := n1_; have HB := n2_; clear n0_ n1_ n2_; (try clear hb); (try clear hb2); (try clear hk); (try clear hi); (try clear ho0)))
          go_ret
          exact ⟨by first | rfl | (simp [errW_none, errW_some] <;> rfl) | (simp [*, errW_none, errW_some] <;> rfl), by repeat (first | (with_reducible first | exact HB.out | apply below_alloc | apply pw_below_drewN | apply below_drew1) | exact HB.out)⟩
      · rw [if_neg c14] at H
        have c14b0 : (t154 == t156) = false := beq_eq_false_iff_ne.mpr c14
        have c14b1 : (t154 != t156) = true := bne_iff_ne.mpr c14
        obtain rfl := Option.some.inj H
        go_enter Try.func3, Try.ntmps3
        go_wp2_with (first | ((with_reducible refine gate_callee (f := 18) rfl ?_); refine goesL_ (some 26) rfl rfl Try.func18 (by kernel_rfl) rfl #[.slice A0 l0.length c0, .int .i64 a1] rfl (by (try simp only [List.map_toArray, List.map_cons, List.map_nil]); first | done | rfl | (simp only [List.length_drop, List.length_take]; rfl)) ?_; (with_reducible refine (vault_Value.calls k _ _ l0 a1 t153 t154 _ ?side1 ?side2 A7.out).mono ?_); (case side1 => repeat (first | exact HR0.out | (with_reducible refine Kd.C_alloc ?_ _) | (with_reducible refine Kd.C_drewN ?_ _) | (with_reducible refine Kd.C_drew ?_))); (case side2 => exact HC0.out); rintro e w43 ⟨rfl, hb⟩; refine ⟨_, rfl, ?_⟩; have n0_ := Aside0.mk (below_step (by repeat (first | (with_reducible first | exact HB.out | apply below_alloc | apply pw_below_drewN | apply below_drew1) | exact HB.out)) hb); clear HB; have HB := n0_; clear n0_; (try clear hb); (try clear hb2); (try clear hk); (try clear hi)) | ((with_reducible refine gate_callee (f := 19) rfl ?_); refine goesL_ (some 32) rfl rfl Try.func19 (by kernel_rfl) rfl #[.slice A0 l0.length c0, .int .i64 a1] rfl (by (try simp only [List.map_toArray, List.map_cons, List.map_nil]); first | done | rfl | (simp only [List.length_drop, List.length_take]; rfl)) ?_; (with_reducible refine (pianolaref09_Value.calls k _ _ l0 a1 t155 t156 _ ?side1 ?side2 A8.out).mono ?_); (case side1 => repeat (first | exact (Kd.C_below HR0.out HB.out) | (with_reducible refine Kd.C_alloc ?_ _) | (with_reducible refine Kd.C_drewN ?_ _) | (with_reducible refine Kd.C_drew ?_))); (case side2 => exact HC0.out); rintro e w' ⟨rfl, ⟨nd, rfl⟩⟩; refine ⟨_, rfl, ?_⟩) | ((with_reducible refine gate_callee (f := 20) rfl ?_); refine goesL_ (some 37) rfl rfl Try.func20 (by kernel_rfl) rfl #[.int .i64 a1] rfl (by (try simp only [List.map_toArray, List.map_cons, List.map_nil]); first | done | rfl | (simp only [List.length_drop, List.length_take]; rfl)) ?_; (with_reducible refine (vault_Inverse.calls k a1 t157 t158 _ A9.out).mono ?_); rintro e w' ⟨rfl, ⟨nd, rfl⟩⟩; refine ⟨_, rfl, ?_⟩) | ((with_reducible refine gate_callee (f := 21) rfl ?_); refine goesL_ (some 42) rfl rfl Try.func21 (by kernel_rfl) rfl #[.int .i64 a1] rfl (by (try simp only [List.map_toArray, List.map_cons, List.map_nil]); first | done | rfl | (simp only [List.length_drop, List.length_take]; rfl)) ?_; (with_reducible refine (pianolaref09_Inverse.calls k a1 t159 t160 _ A10.out).mono ?_); rintro e w' ⟨rfl, ⟨nd, rfl⟩⟩; refine ⟨_, rfl, ?_⟩) | ((with_reducible refine gate_callee (f := 22) rfl ?_); refine goesL_ (some 48) rfl rfl Try.func22 (by kernel_rfl) rfl #[.slice A0 l0.length c0, .int .i64 a2] rfl (by (try simp only [List.map_toArray, List.map_cons, List.map_nil]); first | done | rfl | (simp only [List.length_drop, List.length_take]; rfl)) ?_; (with_reducible refine (vault_Deal.calls k _ _ l0 a2 t161 t162 _ ?side1 ?side2 A11.out).mono ?_); (case side1 => repeat (first | exact (Kd.C_below HR0.out (by repeat (first | (with_reducible first | exact HB.out | apply below_alloc | apply pw_below_drewN | apply below_drew1) | exact HB.out))) | (with_reducible refine Kd.C_alloc ?_ _) | (with_reducible refine Kd.C_drewN ?_ _) | (with_reducible refine Kd.C_drew ?_))); (case side2 => exact HC0.out); rintro e w44 ⟨v163, rfl, ho0, hb⟩; refine ⟨_, rfl, ?_⟩; have n0_ := Aside0.mk (Kd.R_lower ho0 (below_size (by repeat (first | (with_reducible first | exact HB.out | apply below_alloc | apply pw_below_drewN | apply below_drew1) | exact HB.out)))); have n1_ := Aside0.mk (below_step (by repeat (first | (with_reducible first | exact HB.out | apply below_alloc | apply pw_below_drewN | apply below_drew1) | exact HB.out)) hb); clear HB; have HO164 := n0_; have HB := n1_; clear n0_ n1_; (try clear hb); (try clear hb2); (try clear hk); (try clear hi); (try clear ho0)) | ((with_reducible refine gate_callee (f := 23) rfl ?_); refine goesL_ (some 54) rfl rfl Try.func23 (by kernel_rfl) rfl #[.slice A0 l0.length c0, .int .i64 a2] rfl (by (try simp only [List.map_toArray, List.map_cons, List.map_nil]); first | done | rfl | (simp only [List.length_drop, List.length_take]; rfl)) ?_; (with_reducible refine (pianolaref09_Deal.calls k _ _ l0 a2 t165 t166 _ ?side1 ?side2 A12.out).mono ?_); (case side1 => repeat (first | exact (Kd.C_below HR0.out HB.out) | (with_reducible refine Kd.C_alloc ?_ _) | (with_reducible refine Kd.C_drewN ?_ _) | (with_reducible refine Kd.C_drew ?_))); (case side2 => exact HC0.out); rintro e w45 ⟨v167, rfl, ho0, hb⟩; refine ⟨_, rfl, ?_⟩; have n0_ := Aside0.mk (Kd.R_below (by (with_reducible repeat (first | apply Kd.R_alloc | apply Kd.R_drewN | apply Kd.R_drew)); exact HO164.out) hb); have n1_ := Aside0.mk (Kd.R_lower ho0 (below_size (by repeat (first | (with_reducible first | exact HB.out | apply below_alloc | apply pw_below_drewN | apply below_drew1) | exact HB.out)))); have n2_ := Aside0.mk (below_step (by repeat (first | (with_reducible first | exact HB.out | apply below_alloc | apply pw_below_drewN | apply below_drew1) | exact HB.out)) hb); clear HO164; clear HB; have HO164 := n0_; have HO168 := n1_; have HB := n2_; clear n0_ n1_ n2_; (try clear hb); (try clear hb2); (try clear hk); (try clear hi); (try clear ho0)))
        go_ret
        exact ⟨by first | rfl | (simp [errW_none, errW_some] <;> rfl) | (simp [*, errW_none, errW_some] <;> rfl), by repeat (first | (with_reducible first | exact HB.out | apply below_alloc | apply pw_below_drewN | apply below_drew1) | exact HB.out)⟩
    · rw [if_neg c13] at H
      have c13b0 : (t153 == t155) = false := beq_eq_false_iff_ne.mpr c13
      have c13b1 : (t153 != t155) = true := bne_iff_ne.mpr c13
      obtain rfl := Option.some.inj H
      go_enter Try.func3, Try.ntmps3
      go_wp2_with (first | ((with_reducible refine gate_callee (f := 18) rfl ?_); refine goesL_ (some 26) rfl rfl Try.func18 (by kernel_rfl) rfl #[.slice A0 l0.length c0, .int .i64 a1] rfl (by (try simp only [List.map_toArray, List.map_cons, List.map_nil]); first | done | rfl | (simp only [List.length_drop, List.length_take]; rfl)) ?_; (with_reducible refine (vault_Value.calls k _ _ l0 a1 t153 t154 _ ?side1 ?side2 A7.out).mono ?_); (case side1 => repeat (first | exact HR0.out | (with_reducible refine Kd.C_alloc ?_ _) | (with_reducible refine Kd.C_drewN ?_ _) | (with_reducible refine Kd.C_drew ?_))); (case side2 => exact HC0.out); rintro e w46 ⟨rfl, hb⟩; refine ⟨_, rfl, ?_⟩; have n0_ := Aside0.mk (below_step (by repeat (first | (with_reducible first | exact HB.out | apply below_alloc | apply pw_below_drewN | apply below_drew1) | exact HB.out)) hb); clear HB; have HB := n0_; clear n0_; (try clear hb); (try clear hb2); (try clear hk); (try clear hi)) | ((with_reducible refine gate_callee (f := 19) rfl ?_); refine goesL_ (some 32) rfl rfl Try.func19 (by kernel_rfl) rfl #[.slice A0 l0.length c0, .int .i64 a1] rfl (by (try simp only [List.map_toArray, List.map_cons, List.map_nil]); first | done | rfl | (simp only [List.length_drop, List.length_take]; rfl)) ?_; (with_reducible refine (pianolaref09_Value.calls k _ _ l0 a1 t155 t156 _ ?side1 ?side2 A8.out).mono ?_); (case side1 => repeat (first | exact (Kd.C_below HR0.out HB.out) | (with_reducible refine Kd.C_alloc ?_ _) | (with_reducible refine Kd.C_drewN ?_ _) | (with_reducible refine Kd.C_drew ?_))); (case side2 => exact HC0.out); rintro e w' ⟨rfl, ⟨nd, rfl⟩⟩; refine ⟨_, rfl, ?_⟩) | ((with_reducible refine gate_callee (f := 20) rfl ?_); refine goesL_ (some 37) rfl rfl Try.func20 (by kernel_rfl) rfl #[.int .i64 a1] rfl (by (try simp only [List.map_toArray, List.map_cons, List.map_nil]); first | done | rfl | (simp only [List.length_drop, List.length_take]; rfl)) ?_; (with_reducible refine (vault_Inverse.calls k a1 t157 t158 _ A9.out).mono ?_); rintro e w' ⟨rfl, ⟨nd, rfl⟩⟩; refine ⟨_, rfl, ?_⟩) | ((with_reducible refine gate_callee (f := 21) rfl ?_); refine goesL_ (some 42) rfl rfl Try.func21 (by kernel_rfl) rfl #[.int .i64 a1] rfl (by (try simp only [List.map_toArray, List.map_cons, List.map_nil]); first | done | rfl | (simp only [List.length_drop, List.length_take]; rfl)) ?_; (with_reducible refine (pianolaref09_Inverse.calls k a1 t159 t160 _ A10.out).mono ?_); rintro e w' ⟨rfl, ⟨nd, rfl⟩⟩; refine ⟨_, rfl, ?_⟩) | ((with_reducible refine gate_callee (f := 22) rfl ?_); refine goesL_ (some 48) rfl rfl Try.func22 (by kernel_rfl) rfl #[.slice A0 l0.length c0, .int .i64 a2] rfl (by (try simp only [List.map_toArray, List.map_cons, List.map_nil]); first | done | rfl | (simp only [List.length_drop, List.length_take]; rfl)) ?_; (with_reducible refine (vault_Deal.calls k _ _ l0 a2 t161 t162 _ ?side1 ?side2 A11.out).mono ?_); (case side1 => repeat (first | exact (Kd.C_below HR0.out (by repeat (first | (with_reducible first | exact HB.out | apply below_alloc | apply pw_below_drewN | apply below_drew1) | exact HB.out))) | (with_reducible refine Kd.C_alloc ?_ _) | (with_reducible refine Kd.C_drewN ?_ _) | (with_reducible refine Kd.C_drew ?_))); (case side2 => exact HC0.out); rintro e w47 ⟨v163, rfl, ho0, hb⟩; refine ⟨_, rfl, ?_⟩; have n0_ := Aside0.mk (Kd.R_lower ho0 (below_size (by repeat (first | (with_reducible first | exact HB.out | apply below_alloc | apply pw_below_drewN | apply below_drew1) | exact HB.out)))); have n1_ := Aside0.mk (below_step (by repeat (first | (with_reducible first | exact HB.out | apply below_alloc | apply pw_below_drewN | apply below_drew1) | exact HB.out)) hb); clear HB; have HO164 := n0_; have HB := n1_; clear n0_ n1_; (try clear hb); (try clear hb2); (try clear hk); (try clear hi); (try clear ho0)) | ((with_reducible refine gate_callee (f := 23) rfl ?_); refine goesL_ (some 54) rfl rfl Try.func23 (by kernel_rfl) rfl #[.slice A0 l0.length c0, .int .i64 a2] rfl (by (try simp only [List.map_toArray, List.map_cons, List.map_nil]); first | done | rfl | (simp only [List.length_drop, List.length_take]; rfl)) ?_; (with_reducible refine (pianolaref09_Deal.calls k _ _ l0 a2 t165 t166 _ ?side1 ?side2 A12.out).mono ?_); (case side1 => repeat (first | exact (Kd.C_below HR0.out HB.out) | (with_reducible refine Kd.C_alloc ?_ _) | (with_reducible refine Kd.C_drewN ?_ _) | (with_reducible refine Kd.C_drew ?_))); (case side2 => exact HC0.out); rintro e w48 ⟨v167, rfl, ho0, hb⟩; refine ⟨_, rfl, ?_⟩; have n0_ := Aside0.mk (Kd.R_below (by (with_reducible repeat (first | apply Kd.R_alloc | apply Kd.R_drewN | apply Kd.R_drew)); exact HO164.out) hb); have n1_ := Aside0.mk (Kd.R_lower ho0 (below_size (by repeat (first | (with_reducible first | exact HB.out | apply below_alloc | apply pw_below_drewN | apply below_drew1) | exact HB.out)))); have n2_ := Aside0.mk (below_step (by repeat (first | (with_reducible first | exact HB.out | apply below_alloc | apply pw_below_drewN | apply below_drew1) | exact HB.out)) hb); clear HO164; clear HB; have HO164 := n0_; have HO168 := n1_; have HB := n2_; clear n0_ n1_ n2_; (try clear hb); (try clear hb2); (try clear hk); (try clear hi); (try clear ho0)))
      go_ret
      exact ⟨by first | rfl | (simp [errW_none, errW_some] <;> rfl) | (simp [*, errW_none, errW_some] <;> rfl), by repeat (first | (with_reducible first | exact HB.out | apply below_alloc | apply pw_below_drewN | apply below_drew1) | exact HB.out)⟩
def pianolalaw09_VaultDeals.Pure : Prop := ∀ (l0 : List Int) (a1 : Int) (a2 : Int), l0.length ≤ maxLen → l0.length * 8 ≤ 140737488351232 → (∀ x ∈ l0, (Lit.int .i64 x).wf = true) → (Lit.int .i64 a1).wf = true → (Lit.int .i64 a2).wf = true → ∃ k, pianolalaw09_VaultDeals.f k l0 a1 a2 = some true
theorem pianolalaw09_VaultDeals.walk (P : pianolalaw09_VaultDeals.Pure) (a0 : Option Addr) (len0 cap0 : Nat) (z0 : List Int) (a1 : Int) (a2 : Int) (w : World) (w0 : (a0 = none ∧ len0 = 0 ∧ cap0 = 0 ∧ z0 = []) ∨ ∃ x, a0 = some x ∧ len0 ≤ cap0 ∧ cap0 ≤ maxLen ∧ z0.length = cap0 ∧ (∀ i, i < z0.length → w.cell? (x.add i) = some (.int .i64 (z0.getD i 0))) ∧ ∀ n ∈ z0, (Lit.int .i64 n).wf = true) (y0 : len0 * 8 ≤ 140737488351232) (w1 : (Lit.int .i64 a1).wf = true) (w2 : (Lit.int .i64 a2).wf = true) :
    Calls Try.prog 3 #[.slice a0 len0 cap0, .int .i64 a1, .int .i64 a2] w fun e w' => e = .returned (.bool true) ∧ Below w.heap.size w w' := by
  obtain ⟨l0, rfl, hr0, hm0, hw0, hc0⟩ := ReadsInt.ofRowC w0
  obtain ⟨k, h⟩ := P l0 a1 a2 hm0 y0 hw0 w1 w2
  refine (pianolalaw09_VaultDeals.calls k _ _ l0 a1 a2 true w (Kd.C_of_reads (d := (0 : Int)) (h1 := fun _ => rfl) hr0) hc0 h).mono ?_
  rintro e w' ⟨rfl, hd⟩
  exact ⟨rfl, hd⟩
end Go.Proofs.Ytpfkfbbekfkcgaa.P
end
section
namespace Go.Proofs.Ytpfkfbbekfkcgaa.P
set_option linter.unusedVariables false
set_option linter.unusedSimpArgs false
abbrev K251 := Fin 251
def fk (a : Int) : K251 := ⟨(a % 251).toNat, by omega⟩
theorem fk_val (a : Int) : ((fk a).val : Int) = a % 251 := by
  show (((a % 251).toNat : Nat) : Int) = _
  omega
theorem fk_eq {a b : Int} : fk a = fk b ↔ a % 251 = b % 251 := by
  constructor
  · intro h
    rw [← fk_val, ← fk_val, h]
  · intro h
    apply Fin.ext
    have := fk_val a
    have := fk_val b
    omega
theorem fk_of {k : K251} {a : Int} (h : (k.val : Int) = a % 251) : fk a = k := by
  apply Fin.ext
  have := fk_val a
  omega
theorem fk_mod (a : Int) : fk (a % 251) = fk a := fk_eq.2 (by omega)
theorem fk_add (a b : Int) : fk (a + b) = fk a + fk b := by
  apply fk_of
  have h1 := fk_val a
  have h2 := fk_val b
  rw [Fin.val_add]
  omega
theorem fk_mul (a b : Int) : fk (a * b) = fk a * fk b := by
  apply fk_of
  have h1 := fk_val a
  have h2 := fk_val b
  rw [Fin.val_mul]
  rw [Int.mul_emod, ← h1, ← h2]
  simp
theorem fk_zero : fk 0 = 0 := rfl
theorem fk_one : fk 1 = 1 := rfl
theorem fk_inj {a b : Int} (a0 : 0 ≤ a) (a1 : a ≤ 250) (b0 : 0 ≤ b) (b1 : b ≤ 250) (h : fk a = fk b) : a = b := by
  have := fk_eq.1 h
  omega
def iF (a : K251) : K251 := a ^ 249
def eF : List K251 → K251 → K251
  | [], _ => 0
  | a :: l, x => a + x * eF l x
end Go.Proofs.Ytpfkfbbekfkcgaa.P
end
section
namespace Go.Proofs.Ytpfkfbbekfkcgaa.P
open Go.RowKit Go.Proofs.YtpfkfbbekfkcgaaW.PrintWords Go.Proofs.YtpfkfbbekfkcgaaW.PrintLast Go.Proofs.YtpfkfbbekfkcgaaW.PrintMore
set_option linter.unusedVariables false
set_option linter.unusedSimpArgs false
theorem fk_ev (p : List Int) (x : Int) : fk (ev p x) = eF (p.map fk) (fk x) := by
  induction p with
  | nil => rfl
  | cons c p ih =>
    show fk (((ev p x * x) % 251 + c) % 251) = fk c + fk x * eF (p.map fk) (fk x)
    rw [fk_mod, fk_add, fk_mod, fk_mul, ih]
    grind
end Go.Proofs.Ytpfkfbbekfkcgaa.P
end
section
namespace Go.Proofs.Ytpfkfbbekfkcgaa.P
open Go.RowKit Go.Proofs.YtpfkfbbekfkcgaaW.PrintWords Go.Proofs.YtpfkfbbekfkcgaaW.PrintLast Go.Proofs.YtpfkfbbekfkcgaaW.PrintMore
set_option linter.unusedVariables false
set_option linter.unusedSimpArgs false
def Fit (n : Nat) (l : List S61) : Prop := ∃ p : List K251, p.length = n ∧ ∀ a ∈ l, eF p (fk a.f0) = fk a.f1
theorem Fit.mono {n : Nat} {l m : List S61} (h : Fit n l) (hm : ∀ a ∈ m, a ∈ l) : Fit n m :=
  let ⟨p, hp, ha⟩ := h
  ⟨p, hp, fun a h => ha a (hm a h)⟩
end Go.Proofs.Ytpfkfbbekfkcgaa.P
end
section
namespace Go.Proofs.Ytpfkfbbekfkcgaa.P
open Go.RowKit Go.Proofs.YtpfkfbbekfkcgaaW.PrintWords Go.Proofs.YtpfkfbbekfkcgaaW.PrintLast Go.Proofs.YtpfkfbbekfkcgaaW.PrintMore
set_option linter.unusedVariables false
set_option linter.unusedSimpArgs false
theorem Ev.pos {α : Type} {c : Prop} [Decidable c] {f g : Nat → Option α} {r : α} (h : c) (H : Ev f r) : Ev (fun k => if c then f k else g k) r := by
  simpa only [if_pos h] using H
theorem Ev.neg {α : Type} {c : Prop} [Decidable c] {f g : Nat → Option α} {r : α} (h : ¬ c) (H : Ev g r) : Ev (fun k => if c then f k else g k) r := by
  simpa only [if_neg h] using H
theorem Ev.have {α : Type} {x : Option α} {r : α} (h : x = some r) : Ev (fun _ => x) r := ⟨0, fun _ _ => h⟩
theorem w_nat (n : Nat) (h : n ≤ 4611686018427387904) : wrap64 ((n : Int) + 1) = ((n + 1 : Nat) : Int) := by unfold wrap64; omega
theorem rd_at (l : List Int) (n : Nat) (h : n < l.length) : rd l (n : Int) = l[n] := by
  unfold rd
  rw [Int.toNat_natCast, List.getD_eq_getElem?_getD, List.getElem?_eq_getElem h]; rfl
theorem drop_at {α : Type} (l : List α) (n : Nat) (h : n < l.length) : l.drop n = l[n] :: l.drop (n + 1) := List.drop_eq_getElem_cons h
theorem take_at {α : Type} (l : List α) (n : Nat) (h : n < l.length) : l.take (n + 1) = l.take n ++ [l[n]] := by rw [List.take_succ_eq_append_getElem h]
theorem rd61_at (l : List S61) (n : Nat) (h : n < l.length) : rd_T61 l (n : Int) = l[n] := by
  unfold rd_T61
  rw [Int.toNat_natCast, List.getD_eq_getElem?_getD, List.getElem?_eq_getElem h]; rfl
theorem rd91_at (l : List S91) (n : Nat) (h : n < l.length) : rd_T91 l (n : Int) = l[n] := by
  unfold rd_T91
  rw [Int.toNat_natCast, List.getD_eq_getElem?_getD, List.getElem?_eq_getElem h]; rfl
def g91 (s : S61) : S91 := ⟨s.f0, s.f1⟩
theorem rd91_g (l : List S61) (n : Nat) (h : n < l.length) : rd_T91 (l.map g91) (n : Int) = g91 l[n] := by
  rw [rd91_at _ _ (by simpa using h), List.getElem_map]
theorem is_f (a b c : Int) : pianolaref09_is.f a b c = some (btw b a c) := by
  unfold pianolaref09_is.f pianolaref01_Is.f btw
  by_cases h : b ≤ a
  · have : a ≥ b := h
    simp [h, this]
  · have : ¬ a ≥ b := h
    simp [h, this]
theorem mod_f (a : Int) (h0 : -1000000000000000 ≤ a) (h1 : a ≤ 1000000000000000) : pianolaref09_mod.f a = some (a % 251) := of_f a h0 h1
theorem ref_inv_all : ∀ n : Fin 251, n.val ≠ 0 → pianolaref09_inverse.f 252 (n.val : Int) = some (inv (n.val : Int)) := by decide +kernel
theorem ref_inv (a : Int) (ha : F251 a) (h : a ≠ 0) : Ev (fun k => pianolaref09_inverse.f k a) (inv a) := by
  obtain ⟨a0, a1⟩ := ha
  have := ref_inv_all ⟨a.toNat, by omega⟩ (by simp; omega)
  exact Ev.of (fun k => pianolaref09_inverse.mono _ k) (by simpa [Int.toNat_of_nonneg a0] using this)
theorem prog_inv (a : Int) (ha : F251 a) : Ev (fun k => vault_number_inverse.f k a) (inv a) := Ev.of (fun k => vault_number_inverse.mono _ k) (inv_f a ha)
theorem prog_at (p : List Int) (x : Int) (hx : F251 x) (hp : all251 p) (hl : p.length ≤ 1000000) : Ev (fun k => vault_polynomial_at.f k p x) (ev p x) := Ev.of (fun k => vault_polynomial_at.mono _ _ k) (at_f p x hx hp hl)
theorem value_ev (l : List Int) (x : Int) (hx : F251 x) (hl : all251 l) (hn : l.length ≤ 1000000) : Ev (fun k => pianolaref09_value.f k l x) (ev l x) := by
  have key : ∀ (d n : Nat) (s p : Int), n + d = l.length → F251 s → F251 p → fk (ev l x) = fk s + fk p * eF ((l.drop n).map fk) (fk x) → Ev (fun k => pianolaref09_value.l0 k l x s p (n : Int)) (ev l x) := by
    intro d
    induction d with
    | zero =>
      intro n s p hd hs hp he
      refine Ev.step (fun k => by rw [pianolaref09_value.l0]) ?_
      refine Ev.neg (by omega) (Ev.have ?_)
      rw [List.drop_of_length_le (by omega)] at he
      simp only [List.map_nil, eF] at he
      rw [fk_inj (ev_in l x).1 (ev_in l x).2 hs.1 hs.2 (by rw [he]; grind)]
    | succ d ih =>
      intro n s p hd hs hp he
      have hlt : n < l.length := by omega
      have hc := hl _ (List.getElem_mem hlt)
      obtain ⟨m0, m1⟩ := mul_bd _ _ hc hp
      obtain ⟨q0, q1⟩ := mul_bd _ _ hp hx
      obtain ⟨s0, s1⟩ := hs
      refine Ev.step (fun k => by rw [pianolaref09_value.l0]) ?_
      refine Ev.pos (by omega) (Ev.pos (by omega) ?_)
      rw [rd_at l n hlt, show wrap64 (l[n] * p) = l[n] * p by unfold wrap64; omega, show wrap64 (s + l[n] * p) = s + l[n] * p by unfold wrap64; omega, show wrap64 (p * x) = p * x by unfold wrap64; omega]
      rw [mod_f _ (by omega) (by omega), mod_f _ (by omega) (by omega), w_nat n (by omega)]
      refine Ev.bind (Ev.now _) (Ev.bind (Ev.now _) ?_)
      refine ih (n + 1) _ _ (by omega) (mod_in _) (mod_in _) ?_
      rw [he, drop_at l n hlt, fk_mod, fk_mod, fk_add, fk_mul, fk_mul]
      simp only [List.map_cons, eF]
      grind
  refine key l.length 0 0 1 (by omega) ⟨by omega, by omega⟩ ⟨by omega, by omega⟩ ?_
  rw [fk_ev, fk_zero, fk_one, List.drop_zero]
  grind
def readE (l : List Int) : Int := if l.length = 0 then 4 else if 8 < l.length then 5 else if l.all (fun c => btw 0 c 250) then 0 else 3
theorem readE_ok {l : List Int} (h : readE l = 0) : l.length ≠ 0 ∧ l.length ≤ 8 ∧ all251 l := by
  unfold readE at h
  split at h
  · omega
  · split at h
    · omega
    · split at h
      · rename_i h1 h2 h3
        refine ⟨h1, by omega, fun c hc => ?_⟩
        have := List.all_eq_true.1 h3 c hc
        exact btw_iff.1 this
      · omega
theorem read_ev (l : List Int) : Ev (fun k => vault_read.f k l) (if readE l = 0 then l else [], readE l) := by
  unfold vault_read.f readE
  by_cases h0 : l.length = 0
  · refine Ev.pos (by omega) (Ev.have ?_)
    simp [h0]
  · refine Ev.neg (by omega) ?_
    by_cases h1 : 8 < l.length
    · refine Ev.pos (by omega) (Ev.have ?_)
      simp [h0, h1]
    · refine Ev.neg (by omega) ?_
      have key : ∀ (d n : Nat), n + d = l.length → (l.take n).all (fun c => btw 0 c 250) = true → Ev (fun k => vault_read.l0 k (l.take n) l (l.length : Int) (n : Int)) (if l.all (fun c => btw 0 c 250) then (l, 0) else ([], 3)) := by
        intro d
        induction d with
        | zero =>
          intro n hd ha
          refine Ev.step (fun k => by rw [vault_read.l0]) ?_
          refine Ev.neg (by omega) (Ev.have ?_)
          rw [List.take_of_length_le (by omega)] at ha ⊢
          simp [ha]
        | succ d ih =>
          intro n hd ha
          have hlt : n < l.length := by omega
          refine Ev.step (fun k => by rw [vault_read.l0]) ?_
          refine Ev.pos (by omega) (Ev.pos (by omega) (Ev.pos (by omega) ?_))
          rw [rd_at l n hlt, btw_f, w_nat n (by omega)]
          refine Ev.bind (Ev.now _) ?_
          by_cases c : btw 0 l[n] 250 = true
          · refine Ev.pos c (Ev.pos (by rw [List.length_take]; omega) ?_)
            rw [← take_at l n hlt]
            refine ih (n + 1) (by omega) ?_
            rw [take_at l n hlt, List.all_append, ha]
            simp [c]
          · refine Ev.neg c (Ev.have ?_)
            have : l.all (fun c => btw 0 c 250) = false := by
              rw [List.all_eq_false]
              exact ⟨l[n], List.getElem_mem hlt, c⟩
            simp [this]
      have := key l.length 0 (by omega) rfl
      rw [List.take_zero] at this
      simp only [h0, h1, if_false]
      by_cases c : (l.all fun c => btw 0 c 250) = true
      · simpa [c] using this
      · simpa [c] using this
theorem poly_ev (l : List Int) : Ev (fun k => pianolaref09_polynomial.f k l) (readE l) := by
  unfold pianolaref09_polynomial.f readE
  by_cases h0 : l.length = 0
  · refine Ev.pos (by omega) (Ev.have ?_)
    simp [h0]
  · refine Ev.neg (by omega) ?_
    by_cases h1 : 8 < l.length
    · refine Ev.pos (by omega) (Ev.have ?_)
      simp [h0, h1]
    · refine Ev.neg (by omega) ?_
      have key : ∀ (d n : Nat), n + d = l.length → (l.take n).all (fun c => btw 0 c 250) = true → Ev (fun k => pianolaref09_polynomial.l0 k l (n : Int)) (if l.all (fun c => btw 0 c 250) then 0 else 3) := by
        intro d
        induction d with
        | zero =>
          intro n hd ha
          refine Ev.step (fun k => by rw [pianolaref09_polynomial.l0]) ?_
          refine Ev.neg (by omega) (Ev.have ?_)
          rw [List.take_of_length_le (by omega)] at ha
          simp [ha]
        | succ d ih =>
          intro n hd ha
          have hlt : n < l.length := by omega
          refine Ev.step (fun k => by rw [pianolaref09_polynomial.l0]) ?_
          refine Ev.pos (by omega) (Ev.pos (by omega) ?_)
          rw [rd_at l n hlt, is_f, w_nat n (by omega)]
          refine Ev.bind (Ev.now _) ?_
          by_cases c : btw 0 l[n] 250 = true
          · refine Ev.pos c ?_
            refine ih (n + 1) (by omega) ?_
            rw [take_at l n hlt, List.all_append, ha]
            simp [c]
          · refine Ev.neg c (Ev.have ?_)
            have : l.all (fun c => btw 0 c 250) = false := by
              rw [List.all_eq_false]
              exact ⟨l[n], List.getElem_mem hlt, c⟩
            simp [this]
      have := key l.length 0 (by omega) rfl
      simp only [h0, h1, if_false]
      exact this
def valueR (l : List Int) (x : Int) : Int × Int := if readE l ≠ 0 then (0, readE l) else if btw 0 x 250 = true then (ev l x, 0) else (0, 3)
theorem Value_ev (l : List Int) (x : Int) : Ev (fun k => vault_Value.f k l x) (valueR l x) := by
  unfold vault_Value.f valueR
  refine Ev.bind (read_ev l) ?_
  by_cases h : readE l = 0
  · obtain ⟨h0, h1, h2⟩ := readE_ok h
    refine Ev.pos h ?_
    rw [btw_f]
    refine Ev.bind (Ev.now _) ?_
    by_cases c : btw 0 x 250 = true
    · refine Ev.pos c ?_
      simp only [h, if_true]
      exact Ev.bind (prog_at l x (btw_iff.1 c) h2 (by omega)) (Ev.have (by simp [h, c]))
    · exact Ev.neg c (Ev.have (by simp [h, c]))
  · refine Ev.neg h (Ev.have ?_)
    simp [h]
theorem refValue_ev (l : List Int) (x : Int) : Ev (fun k => pianolaref09_Value.f k l x) (valueR l x) := by
  unfold pianolaref09_Value.f valueR
  refine Ev.bind (poly_ev l) ?_
  by_cases h : readE l = 0
  · obtain ⟨h0, h1, h2⟩ := readE_ok h
    refine Ev.pos h ?_
    rw [is_f]
    refine Ev.bind (Ev.now _) ?_
    refine Ev.step (fun k => by rw [pianolaref09_Value.j0]) ?_
    by_cases c : btw 0 x 250 = true
    · refine Ev.neg (by simp [c]) (Ev.pos h ?_)
      exact Ev.bind (value_ev l x (btw_iff.1 c) h2 (by omega)) (Ev.have (by simp [h, c]))
    · refine Ev.pos (by simpa using c) (Ev.neg (by decide) (Ev.have (by simp [h, c])))
  · refine Ev.neg h ?_
    refine Ev.step (fun k => by rw [pianolaref09_Value.j0]) ?_
    exact Ev.neg (by simp) (Ev.neg h (Ev.have (by simp [h])))
def inverseR (x : Int) : Int × Int := if btw 0 x 250 = true then (if x = 0 then (0, 8) else (inv x, 0)) else (0, 3)
theorem Inverse_ev (x : Int) : Ev (fun k => vault_Inverse.f k x) (inverseR x) := by
  unfold vault_Inverse.f inverseR
  rw [btw_f]
  refine Ev.bind (Ev.now _) ?_
  by_cases c : btw 0 x 250 = true
  · refine Ev.pos c ?_
    by_cases z : x = 0
    · exact Ev.pos z (Ev.have (by simp [c, z]; decide))
    · exact Ev.neg z (Ev.bind (prog_inv x (btw_iff.1 c)) (Ev.have (by simp [c, z])))
  · exact Ev.neg c (Ev.have (by simp [c]))
theorem refInverse_ev (x : Int) : Ev (fun k => pianolaref09_Inverse.f k x) (inverseR x) := by
  unfold pianolaref09_Inverse.f inverseR
  rw [is_f]
  refine Ev.bind (Ev.now _) ?_
  by_cases c : btw 0 x 250 = true
  · refine Ev.pos c ?_
    by_cases z : x = 0
    · exact Ev.pos z (Ev.have (by simp [c, z]; decide))
    · exact Ev.neg z (Ev.bind (ref_inv x (btw_iff.1 c) z) (Ev.have (by simp [c, z])))
  · exact Ev.neg c (Ev.have (by simp [c]))
def dealt (l : List Int) (n : Nat) : List S61 := (List.range n).map fun k : Nat => ⟨((k + 1 : Nat) : Int), ev l ((k + 1 : Nat) : Int)⟩
theorem dealt_succ (l : List Int) (n : Nat) : dealt l (n + 1) = dealt l n ++ [⟨((n + 1 : Nat) : Int), ev l ((n + 1 : Nat) : Int)⟩] := by
  unfold dealt
  rw [List.range_succ, List.map_append]; rfl
theorem dealt_len (l : List Int) (n : Nat) : (dealt l n).length = n := by simp [dealt]
def dealR (l : List Int) (n : Int) : List S61 × Int := if readE l ≠ 0 then ([], readE l) else if btw 1 n 20 = true then (dealt l n.toNat, 0) else ([], 3)
theorem Deal_ev (l : List Int) (n : Int) : Ev (fun k => vault_Deal.f k l n) (dealR l n) := by
  unfold vault_Deal.f dealR
  refine Ev.bind (read_ev l) ?_
  by_cases h : readE l = 0
  · obtain ⟨h0, h1, h2⟩ := readE_ok h
    refine Ev.pos h ?_
    rw [btw_f]
    refine Ev.bind (Ev.now _) ?_
    by_cases c : btw 1 n 20 = true
    · obtain ⟨n0, n1⟩ := btw_iff.1 c
      refine Ev.pos c ?_
      simp only [h, c, if_true, ne_eq, not_true_eq_false, if_false]
      have key : ∀ (d m : Nat), m + d = n.toNat → Ev (fun k => vault_Deal.l0 k n l (dealt l m) ((m + 1 : Nat) : Int)) (dealt l n.toNat, 0) := by
        intro d
        induction d with
        | zero =>
          intro m hd
          refine Ev.step (fun k => by rw [vault_Deal.l0]) ?_
          refine Ev.neg (by omega) (Ev.have ?_)
          rw [show m = n.toNat by omega]
        | succ d ih =>
          intro m hd
          refine Ev.step (fun k => by rw [vault_Deal.l0]) ?_
          refine Ev.pos (by omega) (Ev.bind (prog_at l _ ⟨by omega, by omega⟩ h2 (by omega)) ?_)
          refine Ev.pos (by rw [dealt_len]; omega) ?_
          rw [← dealt_succ, w_nat _ (by omega)]
          exact ih (m + 1) (by omega)
      exact key n.toNat 0 (by omega)
    · exact Ev.neg c (Ev.have (by simp [h, c]))
  · exact Ev.neg h (Ev.have (by simp [h]))
theorem refDeal_ev (l : List Int) (n : Int) : Ev (fun k => pianolaref09_Deal.f k l n) ((dealR l n).1.map g91, (dealR l n).2) := by
  unfold pianolaref09_Deal.f dealR
  refine Ev.bind (poly_ev l) ?_
  by_cases h : readE l = 0
  · obtain ⟨h0, h1, h2⟩ := readE_ok h
    refine Ev.pos h ?_
    rw [is_f]
    refine Ev.bind (Ev.now _) ?_
    refine Ev.step (fun k => by rw [pianolaref09_Deal.j0]) ?_
    by_cases c : btw 1 n 20 = true
    · obtain ⟨n0, n1⟩ := btw_iff.1 c
      refine Ev.neg (by simp [c]) ?_
      refine Ev.step (fun k => by rw [pianolaref09_Deal.j1]) ?_
      refine Ev.pos h ?_
      simp only [h, c, if_true, ne_eq, not_true_eq_false, if_false]
      have key : ∀ (d m : Nat), m + d = n.toNat → Ev (fun k => pianolaref09_Deal.l0 k l n ((dealt l m).map g91) ((m + 1 : Nat) : Int)) ((dealt l n.toNat).map g91, 0) := by
        intro d
        induction d with
        | zero =>
          intro m hd
          refine Ev.step (fun k => by rw [pianolaref09_Deal.l0]) ?_
          refine Ev.neg (by omega) (Ev.have ?_)
          rw [show m = n.toNat by omega]
        | succ d ih =>
          intro m hd
          refine Ev.step (fun k => by rw [pianolaref09_Deal.l0]) ?_
          refine Ev.pos (by omega) (Ev.bind (value_ev l _ ⟨by omega, by omega⟩ h2 (by omega)) ?_)
          refine Ev.pos (by rw [List.length_map, dealt_len]; omega) ?_
          have := ih (m + 1) (by omega)
          rw [dealt_succ, List.map_append] at this
          rw [w_nat _ (by omega)]
          exact this
      exact key n.toNat 0 (by omega)
    · refine Ev.pos (by simpa using c) ?_
      refine Ev.step (fun k => by rw [pianolaref09_Deal.j1]) ?_
      exact Ev.neg (by decide) (Ev.have (by simp [h, c]))
  · refine Ev.neg h ?_
    refine Ev.step (fun k => by rw [pianolaref09_Deal.j0]) ?_
    refine Ev.neg (by simp) ?_
    refine Ev.step (fun k => by rw [pianolaref09_Deal.j1]) ?_
    exact Ev.neg h (Ev.have (by simp [h]))
theorem same_ev (l : List S61) (hn : l.length ≤ 1000000) : Ev (fun k => pianolalaw09_same.f k l (l.map g91)) true := by
  unfold pianolalaw09_same.f
  refine Ev.pos (by simp) ?_
  have key : ∀ (d n : Nat), n + d = l.length → Ev (fun k => pianolalaw09_same.l0 k l (l.map g91) (n : Int)) true := by
    intro d
    induction d with
    | zero =>
      intro n hd
      refine Ev.step (fun k => by rw [pianolalaw09_same.l0]) ?_
      exact Ev.neg (by omega) (Ev.now _)
    | succ d ih =>
      intro n hd
      have hlt : n < l.length := by omega
      refine Ev.step (fun k => by rw [pianolalaw09_same.l0]) ?_
      refine Ev.pos (by omega) (Ev.pos (by omega) (Ev.pos (by rw [List.length_map]; omega) ?_))
      rw [rd61_at l n hlt, rd91_g l n hlt, w_nat n (by omega)]
      refine Ev.neg (by simp [g91]) ?_
      exact ih (n + 1) (by omega)
  exact key l.length 0 (by omega)
end Go.Proofs.Ytpfkfbbekfkcgaa.P
end
section
namespace Go.Proofs.Ytpfkfbbekfkcgaa.Pure
open Go.RowKit Go.Proofs.Ytpfkfbbekfkcgaa.P Go.Proofs.YtpfkfbbekfkcgaaW.PrintWords Go.Proofs.YtpfkfbbekfkcgaaW.PrintLast
theorem VaultDeals : pianolalaw09_VaultDeals.Pure := by
  intro l a1 a2 _ _ _ _ _
  refine Ev.rounds ?_
  unfold pianolalaw09_VaultDeals.f
  by_cases h : (l.length : Int) > 40
  · exact Ev.pos h (Ev.have rfl)
  · refine Ev.neg h ?_
    refine Ev.bind (Value_ev l a1) (Ev.bind (refValue_ev l a1) (Ev.bind (Inverse_ev a1) (Ev.bind (refInverse_ev a1) (Ev.bind (Deal_ev l a2) (Ev.bind (refDeal_ev l a2) ?_)))))
    refine Ev.pos rfl (Ev.pos rfl (Ev.pos rfl (Ev.pos rfl (Ev.bind (same_ev _ ?_) (Ev.pos rfl (Ev.pos rfl ?_))))))
    · unfold dealR
      split
      · simp
      · split
        · rename_i h1 h2
          have := P.btw_iff.1 h2
          rw [dealt_len]; omega
        · simp
    · exact Ev.have rfl
end Go.Proofs.Ytpfkfbbekfkcgaa.Pure
end
