/- Words and contracts for a claim. -/
import Derived.Test.YtpfkfbbekfkcgaaVaultAdds3
import Derived.StillTailTactics
section
namespace Go.Proofs.Ytpfkfbbekfkcgaa.P
open Go.RowKit Go.Proofs.YtpfkfbbekfkcgaaW.PrintWords Go.Proofs.YtpfkfbbekfkcgaaW.PrintLast Go.Proofs.YtpfkfbbekfkcgaaW.PrintMore
attribute [local go_sem] max2_int min2_int max_two min_two max_three min_three max_four min_four
set_option linter.unusedVariables false
set_option linter.unusedSimpArgs false
attribute [local go_sem high] eqA61
set_option maxHeartbeats 8000000 in
set_option maxRecDepth 100000 in
theorem pianolalaw09_same.calls (k : Nat) (A0 : Option Addr) (c0 : Nat) (l0 : List (S61)) (A1 : Option Addr) (c1 : Nat) (l1 : List (S91)) (r : Bool) (w : World) (hr0 : Kd.C k61 w A0 l0.length l0) (hc0 : l0.length ≤ c0) (hr1 : Kd.C k91 w A1 l1.length l1) (hc1 : l1.length ≤ c1) (h : pianolalaw09_same.f k l0 l1 = some r) :
    Calls Try.prog 24 #[.slice A0 l0.length c0, .slice A1 l1.length c1] w fun e w' => e = .returned (.bool r) ∧ Drawn0 w w' := by
  have hu61 := Try.underlying61
  have hu91 := Try.underlying91
  have HR0 := Aside0.mk hr0
  have HC0 := Aside0.mk hc0
  clear hr0 hc0
  have HR1 := Aside0.mk hr1
  have HC1 := Aside0.mk hc1
  clear hr1 hc1
  have H : (if (l0.length : Int) = (l1.length : Int) then (pianolalaw09_same.l0 k l0 l1 0) else (some false)) = some r := h
  clear h
  by_cases c3 : (l0.length : Int) = (l1.length : Int)
  · rw [if_pos c3] at H
    have c3b0 : ((l0.length : Int) == (l1.length : Int)) = true := beq_iff_eq.mpr c3
    have c3b1 : ((l0.length : Int) != (l1.length : Int)) = false := bne_eq_false_iff_eq.mpr c3
    have c3b2 : (l0.length == l1.length) = true := by first | simpa using c3 | (simp at c3 ⊢; omega)
    clear c3
    have H' := Aside0.mk H
    clear H
    go_enter Try.func24, Try.ntmps24
    go_wp2
    (first | (refine wp_region_still_tail 8 (by kernel_rfl) (by kernel_rfl) ?_; simp only [List.take_succ_cons, List.take_zero, List.drop_succ_cons, List.drop_zero]; change wpStill _ _ (World.drew _) (fun a' => wpList _ _ _ _ a' (World.drew _)) _ _; (repeat still_step); refine wpStill_nil ?_; go_wp2) | skip)
    go_loopg [5] k (fun kq v5 w' => ∃ (x5_1 : Int), v5 = .int .i64 x5_1 ∧ Aside0 (pianolalaw09_same.l0 kq l0 l1 x5_1 = some r) ∧ Aside0 (kq ≤ k) ∧ Drawn0 w w')
    case atStart => exact ⟨(0), (by first | rfl | (simp; done) | (simp [*]; done)), H', ⟨Nat.le_refl _⟩, by repeat (first | exact Drawn0.refl _ | apply Drawn0.step)⟩
    case round =>
      clear H'
      try clear c1
      try clear c2
      try clear p2
      try clear c3
      try clear c3b0
      try clear c3b1
      try clear c3b2
      obtain ⟨x5_1, rfl, HA, HK1, ⟨m1, rfl⟩⟩ := hrel
      cases gk with
      | zero => exact absurd HA.out (by simp [pianolalaw09_same.l0])
      | succ k1 =>
        have H := HA.out
        clear HA
        simp only [pianolalaw09_same.l0] at H
        by_cases c4 : x5_1 < (l0.length : Int)
        · rw [if_pos c4] at H
          have c4b0 : decide (x5_1 < (l0.length : Int)) = true := decide_eq_true c4
          clear c4
          by_cases c5 : 0 ≤ x5_1
          · rw [if_pos c5] at H
            have c5b0 : decide (0 ≤ x5_1) = true := decide_eq_true c5
            clear c5
            by_cases c6 : x5_1 < (l1.length : Int)
            · rw [if_pos c6] at H
              have c6b0 : decide (x5_1 < (l1.length : Int)) = true := decide_eq_true c6
              clear c6
              by_cases c7 : (!(((rd_T61 l0 x5_1).f0) == ((rd_T91 l1 x5_1).f0)) || (!(((rd_T61 l0 x5_1).f1) == ((rd_T91 l1 x5_1).f1)))) = true
              · rw [if_pos c7] at H
                have c7b0 : (!(((rd_T61 l0 x5_1).f0) == ((rd_T91 l1 x5_1).f0)) || (!(((rd_T61 l0 x5_1).f1) == ((rd_T91 l1 x5_1).f1)))) = true := c7
                clear c7
                obtain rfl := Option.some.inj H
                have p150 : 0 ≤ (x5_1 : Int) := of_decide_eq_true (by first | (with_reducible assumption) | assumption)
                have q150 : x5_1 < (l0.length : Int) := of_decide_eq_true (by first | (with_reducible assumption) | assumption)
                obtain ⟨ad150, e150, hx150_0, hx150_1⟩ := at_T61 HR0.out x5_1 p150 q150
                cases e150
                replace p150 := eq_true p150
                replace q150 := eq_true q150
                have p151 : 0 ≤ (x5_1 : Int) := of_decide_eq_true (by first | (with_reducible assumption) | assumption)
                have q151 : x5_1 < (l1.length : Int) := of_decide_eq_true (by first | (with_reducible assumption) | assumption)
                obtain ⟨ad151, e151, hx151_0, hx151_1⟩ := at_T91 HR1.out x5_1 p151 q151
                cases e151
                replace p151 := eq_true p151
                replace q151 := eq_true q151
                by_cases hq8 : ((rd_T61 l0 x5_1).f0) = ((rd_T91 l1 x5_1).f0)
                all_goals (have hq9 : ¬ (((rd_T61 l0 x5_1).f0) = ((rd_T91 l1 x5_1).f0) ∧ ((rd_T61 l0 x5_1).f1) = ((rd_T91 l1 x5_1).f1)) := (fun hh => by simp [hh.1, hh.2] at c7b0); (try (have hq10 : ¬ (((rd_T61 l0 x5_1).f1) = ((rd_T91 l1 x5_1).f1)) := fun e => hq9 ⟨hq8, e⟩)); clear hq9 c7b0; go_wp2)
                all_goals (first | (refine wp_region_still_tail 8 (by kernel_rfl) (by kernel_rfl) ?_; simp only [List.take_succ_cons, List.take_zero, List.drop_succ_cons, List.drop_zero]; change wpStill _ _ (World.drew _) (fun a' => wpList _ _ _ _ a' (World.drew _)) _ _; (repeat still_step); refine wpStill_nil ?_; go_wp2) | skip)
                all_goals go_ret
                all_goals exact ⟨by first | rfl | (simp; done) | (simp [*]; done), by repeat (first | exact Drawn0.refl _ | apply Drawn0.step)⟩
              · rw [if_neg c7] at H
                have c7b0 : (!(((rd_T61 l0 x5_1).f0) == ((rd_T91 l1 x5_1).f0)) || (!(((rd_T61 l0 x5_1).f1) == ((rd_T91 l1 x5_1).f1)))) = false := by simpa using c7
                have hq7 := c7b0
                simp only [Bool.or_eq_false_iff, Bool.not_eq_false', beq_iff_eq] at hq7
                clear c7
                have H' := Aside0.mk H
                clear H
                have p150 : 0 ≤ (x5_1 : Int) := of_decide_eq_true (by first | (with_reducible assumption) | assumption)
                have q150 : x5_1 < (l0.length : Int) := of_decide_eq_true (by first | (with_reducible assumption) | assumption)
                obtain ⟨ad150, e150, hx150_0, hx150_1⟩ := at_T61 HR0.out x5_1 p150 q150
                cases e150
                replace p150 := eq_true p150
                replace q150 := eq_true q150
                have p151 : 0 ≤ (x5_1 : Int) := of_decide_eq_true (by first | (with_reducible assumption) | assumption)
                have q151 : x5_1 < (l1.length : Int) := of_decide_eq_true (by first | (with_reducible assumption) | assumption)
                obtain ⟨ad151, e151, hx151_0, hx151_1⟩ := at_T91 HR1.out x5_1 p151 q151
                cases e151
                replace p151 := eq_true p151
                replace q151 := eq_true q151
                rw [hq7.1] at hx150_0
                rw [hq7.2] at hx150_1
                go_wp2
                (first | (refine wp_region_still_tail 8 (by kernel_rfl) (by kernel_rfl) ?_; simp only [List.take_succ_cons, List.take_zero, List.drop_succ_cons, List.drop_zero]; change wpStill _ _ (World.drew _) (fun a' => wpList _ _ _ _ a' (World.drew _)) _ _; (repeat still_step); refine wpStill_nil ?_; go_wp2) | skip)
                go_roundg k1
                case measure => have := HK1.out; omega
                case rel => exact ⟨(wrap64 (x5_1 + 1)), (by first | rfl | (simp; done) | (simp [*]; done)), H', ⟨by have := HK1.out; omega⟩, by repeat (first | exact Drawn0.refl _ | apply Drawn0.step)⟩
            · rw [if_neg c6] at H
              exact absurd H (by simp)
          · rw [if_neg c5] at H
            exact absurd H (by simp)
        · rw [if_neg c4] at H
          have c4b0 : decide (x5_1 < (l0.length : Int)) = false := decide_eq_false c4
          clear c4
          obtain rfl := Option.some.inj H
          go_wp2
          (first | (refine wp_region_still_tail 8 (by kernel_rfl) (by kernel_rfl) ?_; simp only [List.take_succ_cons, List.take_zero, List.drop_succ_cons, List.drop_zero]; change wpStill _ _ (World.drew _) (fun a' => wpList _ _ _ _ a' (World.drew _)) _ _; (repeat still_step); refine wpStill_nil ?_; go_wp2) | skip)
          all_goals go_ret
          all_goals exact ⟨by first | rfl | (simp; done) | (simp [*]; done), by repeat (first | exact Drawn0.refl _ | apply Drawn0.step)⟩
  · rw [if_neg c3] at H
    have c3b0 : ((l0.length : Int) == (l1.length : Int)) = false := beq_eq_false_iff_ne.mpr c3
    have c3b1 : ((l0.length : Int) != (l1.length : Int)) = true := bne_iff_ne.mpr c3
    have c3b2 : (l0.length == l1.length) = false := by first | simpa using c3 | (simp at c3 ⊢; omega)
    obtain rfl := Option.some.inj H
    go_enter Try.func24, Try.ntmps24
    go_wp2
    (first | (refine wp_region_still_tail 8 (by kernel_rfl) (by kernel_rfl) ?_; simp only [List.take_succ_cons, List.take_zero, List.drop_succ_cons, List.drop_zero]; change wpStill _ _ (World.drew _) (fun a' => wpList _ _ _ _ a' (World.drew _)) _ _; (repeat still_step); refine wpStill_nil ?_; go_wp2) | skip)
    all_goals go_ret
    all_goals exact ⟨by first | rfl | (simp; done) | (simp [*]; done), by repeat (first | exact Drawn0.refl _ | apply Drawn0.step)⟩
end Go.Proofs.Ytpfkfbbekfkcgaa.P
end
section
namespace Go.Proofs.Ytpfkfbbekfkcgaa.P
open Go.RowKit Go.Proofs.YtpfkfbbekfkcgaaW.PrintWords Go.Proofs.YtpfkfbbekfkcgaaW.PrintLast Go.Proofs.YtpfkfbbekfkcgaaW.PrintMore
attribute [local go_sem] max2_int min2_int max_two min_two max_three min_three max_four min_four
set_option linter.unusedVariables false
set_option linter.unusedSimpArgs false
set_option maxHeartbeats 8000000 in
set_option maxRecDepth 100000 in
theorem pianolalaw09_given.calls (k : Nat) (A0 : Option Addr) (c0 : Nat) (l0 : List (S61)) (r : List (S91)) (w : World) (hr0 : Kd.C k61 w A0 l0.length l0) (hc0 : l0.length ≤ c0) (h : pianolalaw09_given.f k l0 = some r) :
    Calls Try.prog 27 #[.slice A0 l0.length c0] w fun e w' => ∃ v0_ : Value, e = .returned (v0_) ∧ Kd.R k91 91 w' w.heap.size (fun _ => True) v0_ r ∧ Below w.heap.size w w' := by
  have hu61 := Try.underlying61
  have HR0 := Aside0.mk hr0
  have HC0 := Aside0.mk hc0
  clear hr0 hc0
  have HB := Aside0.mk (Below.refl w.heap.size w)
  have H : (pianolalaw09_given.l0 k l0 ([] : List (S91)) 0) = some r := h
  clear h
  have H' := Aside0.mk H
  clear H
  go_enter Try.func27, Try.ntmps27
  go_wp2
  go_loopg [3, 4] k (fun kq v3 v4 w' => ∃ (x3_1 : List (S91)) (x4_1 : Int), v4 = .int .i64 x4_1 ∧ Aside0 (pianolalaw09_given.l0 kq l0 x3_1 x4_1 = some r) ∧ Aside0 (kq ≤ k) ∧ Aside0 (Kd.R k91 91 w' w.heap.size (fun _ => True) v3 x3_1) ∧ Aside0 (Below w.heap.size w w'))
  case atStart => exact ⟨(([] : List (S91))), (0), (by first | rfl | (simp; done) | (simp [*]; done)), H', ⟨Nat.le_refl _⟩, ⟨by first | exact Kd.R_nil _ _ _ _ _ | exact Kd.N_nil _ _ _ _ _ | exact Kd.V_nil _ _ _ _ _ | exact Kd.Q_nil _ _ _ _ _ | exact Kd.S_nil _ _ _ _ _⟩, ⟨by repeat (first | (with_reducible first | exact HB.out | apply below_alloc | apply pw_below_drewN | apply below_drew1) | exact HB.out)⟩⟩
  case round =>
    clear H'
    obtain ⟨x3_1, x4_1, rfl, HA, HK1, HO_3, HB⟩ := hrel
    cases gk with
    | zero => exact absurd HA.out (by simp [pianolalaw09_given.l0])
    | succ k1 =>
      have H := HA.out
      clear HA
      simp only [pianolalaw09_given.l0] at H
      by_cases c2 : x4_1 < (l0.length : Int)
      · rw [if_pos c2] at H
        have c2b0 : decide (x4_1 < (l0.length : Int)) = true := decide_eq_true c2
        clear c2
        by_cases c3 : 0 ≤ x4_1
        · rw [if_pos c3] at H
          have c3b0 : decide (0 ≤ x4_1) = true := decide_eq_true c3
          clear c3
          by_cases c4 : x3_1.length < 8796093022208
          · rw [if_pos c4] at H
            have LMc4 := Aside0.mk c4
            clear c4
            obtain ⟨y222, hy222⟩ : ∃ y_ : List (S91), y_ = (x3_1 ++ [(⟨(rd_T61 l0 x4_1).f0, (rd_T61 l0 x4_1).f1⟩ : S91)]) := ⟨_, rfl⟩
            replace H : (pianolalaw09_given.l0 k1 l0 y222 (wrap64 (x4_1 + 1))) = some r := by first | (rw [hy222]; with_reducible exact H) | (have H2_ := (Option.bind_some _ _).symm.trans H; rw [hy222]; with_reducible exact H2_) | (have H2_ := (Option.bind_some _ _).symm.trans H; with_reducible exact H2_) | with_reducible exact H | (rw [hy222]; exact H) | exact H
            have Ny222 := Aside0.mk hy222
            clear hy222
            have H' := Aside0.mk H
            clear H
            have p221 : 0 ≤ (x4_1 : Int) := of_decide_eq_true (by first | (with_reducible assumption) | assumption)
            have q221 : x4_1 < (l0.length : Int) := of_decide_eq_true (by first | (with_reducible assumption) | assumption)
            obtain ⟨ad221, e221, hx221_0, hx221_1⟩ := at_T61 HR0.out x4_1 p221 q221
            cases e221
            replace hx221_0 := (HB.out.cell (World.block_lt_of_cell? w _ hx221_0)).trans hx221_0
            replace hx221_1 := (HB.out.cell (World.block_lt_of_cell? w _ hx221_1)).trans hx221_1
            replace p221 := eq_true p221
            replace q221 := eq_true q221
            go_wp2_with (first | ((with_reducible refine gate_builtin (b := .append) (xs := #[.tmp 11, .tmp 16]) rfl ?_); at_builtin; refine Kd.R_append k91 (w0 := w) w.heap.size rfl (.tmp 11) (.tmp 16) 31 91 (.agg #[(.int .i64 0), (.int .i64 0)]) 16 rfl Try.underlying31 info91 rfl (by decide) (by omega) u3 x3_1 (⟨(rd_T61 l0 x4_1).f0, (rd_T61 l0 x4_1).f1⟩ : S91) [.int .i64 ((rd_T61 l0 x4_1).f0), .int .i64 ((rd_T61 l0 x4_1).f1)] (fun _ => True) (fun _ => False) rfl rfl ?aP (fun _ hk => hk.elim) ?aF ?aO ?aB ?aS ?aL ?_; (case aP => exact k91_mkM _ _ _ (⟨(rd_T61 l0 x4_1).f0, (rd_T61 l0 x4_1).f1⟩ : S91)); (case aB => exact (by repeat (first | (with_reducible first | exact HB.out | apply below_alloc | apply pw_below_drewN | apply below_drew1) | exact HB.out))); (case aF => exact (fun _ _ => trivial)); (case aO => exact (by (with_reducible repeat (first | apply Kd.R_alloc | apply Kd.R_drewN | apply Kd.R_drew)); exact HO_3.out)); (case aS => exact (below_size (by repeat (first | (with_reducible first | exact HB.out | apply below_alloc | apply pw_below_drewN | apply below_drew1) | exact HB.out)))); (case aL => have := LMc4.out; omega); intro v223 w5 ho hb hg hat; rw [← Ny222.out] at ho; have n0_ := Aside0.mk (hb); have n1_ := Aside0.mk (ho); clear HB; clear HO_3; have HB := n0_; have HO224 := n1_; clear n0_ n1_; clear ho hb hg hat))
            go_roundg k1
            case measure => have := HK1.out; omega
            case rel => exact ⟨(y222), (wrap64 (x4_1 + 1)), (by first | rfl | (simp; done) | (simp [*]; done)), H', ⟨by have := HK1.out; omega⟩, ⟨by (with_reducible repeat (first | apply Kd.R_alloc | apply Kd.R_drewN | apply Kd.R_drew)); exact HO224.out⟩, ⟨by repeat (first | (with_reducible first | exact HB.out | apply below_alloc | apply pw_below_drewN | apply below_drew1) | exact HB.out)⟩⟩
          · rw [if_neg c4] at H
            exact absurd H (by simp)
        · rw [if_neg c3] at H
          exact absurd H (by simp)
      · rw [if_neg c2] at H
        have c2b0 : decide (x4_1 < (l0.length : Int)) = false := decide_eq_false c2
        clear c2
        obtain rfl := Option.some.inj H
        go_wp2
        go_ret
        exact ⟨_, by first | rfl | (simp [errW_none, errW_some] <;> rfl) | (simp [*, errW_none, errW_some] <;> rfl), by (with_reducible repeat (first | apply Kd.R_alloc | apply Kd.R_drewN | apply Kd.R_drew)); exact HO_3.out, by repeat (first | (with_reducible first | exact HB.out | apply below_alloc | apply pw_below_drewN | apply below_drew1) | exact HB.out)⟩
end Go.Proofs.Ytpfkfbbekfkcgaa.P
end
section
namespace Go.Proofs.Ytpfkfbbekfkcgaa.P
open Go.RowKit Go.Proofs.YtpfkfbbekfkcgaaW.PrintWords Go.Proofs.YtpfkfbbekfkcgaaW.PrintLast Go.Proofs.YtpfkfbbekfkcgaaW.PrintMore
attribute [local go_sem] max2_int min2_int max_two min_two max_three min_three max_four min_four
set_option linter.unusedVariables false
set_option linter.unusedSimpArgs false
def pianolalaw09_VaultAdds.j0 : Nat → List (S61) → List (S61) → Bool → Option (Bool)
  | 0, _, _, _ => none
  | k + 1, x0, x1, x16 => if x16 = true then ((pianolalaw09_works.f).bind fun t392 => (some t392)) else ((vault_Add.f k x0 x1).bind fun bt393 => ((pianolalaw09_given.f k x0).bind fun t397 => ((pianolalaw09_given.f k x1).bind fun t400 => ((pianolaref09_Add.f k t397 t400).bind fun bt403 => ((pianolalaw09_same.f k bt393.1 bt403.1).bind fun t407 => (if t407 = true then (if bt393.2 = bt403.2 then ((pianolalaw09_works.f).bind fun t408 => (some t408)) else (some false)) else (some false)))))))
def pianolalaw09_VaultAdds.f (k : Nat) (l0 : List (S61)) (l1 : List (S61)) : Option (Bool) := if (l0.length : Int) > 60 then (pianolalaw09_VaultAdds.j0 k l0 l1 true) else (pianolalaw09_VaultAdds.j0 k l0 l1 (decide ((l1.length : Int) > 60)))
theorem pianolalaw09_VaultAdds.mono_l : ∀ k, (∀ y0 y1 y2, LeO (pianolalaw09_VaultAdds.j0 k y0 y1 y2) (pianolalaw09_VaultAdds.j0 (k + 1) y0 y1 y2))
  | 0 => fun _ _ _ r h => by simp [pianolalaw09_VaultAdds.j0] at h
  | k + 1 => by
    have ih0 := pianolalaw09_VaultAdds.mono_l k
    · intro y0 y1 y2
      unfold pianolalaw09_VaultAdds.j0
      repeat' first
      | (with_reducible exact ih0 _ _ _)
      | (with_reducible exact pianolalaw09_given.mono _ _)
      | (with_reducible exact pianolalaw09_same.mono _ _ _)
      | (with_reducible exact pianolaref09_Add.mono _ _ _)
      | (with_reducible exact vault_Add.mono _ _ _)
      | (with_reducible exact LeO.refl _)
      | (with_reducible exact LeO.none _)
      | (with_reducible refine LeO.ite ?_ ?_)
      | (with_reducible refine LeO.bind ?_ (fun _ => ?_))
      | exact ih0 _ _ _
      | exact pianolalaw09_given.mono _ _
      | exact pianolalaw09_same.mono _ _ _
      | exact pianolaref09_Add.mono _ _ _
      | exact vault_Add.mono _ _ _
      | exact LeO.none _
      | refine LeO.ite ?_ ?_
      | refine LeO.bind ?_ (fun _ => ?_)
theorem pianolalaw09_VaultAdds.mono : ∀ a0 a1 k, LeO (pianolalaw09_VaultAdds.f k a0 a1) (pianolalaw09_VaultAdds.f (k + 1) a0 a1) := by
  intro a0 a1 k
  have ih0 := pianolalaw09_VaultAdds.mono_l k
  unfold pianolalaw09_VaultAdds.f
  repeat' first
      | (with_reducible exact ih0 _ _ _)
      | (with_reducible exact pianolalaw09_given.mono _ _)
      | (with_reducible exact pianolalaw09_same.mono _ _ _)
      | (with_reducible exact pianolaref09_Add.mono _ _ _)
      | (with_reducible exact vault_Add.mono _ _ _)
      | (with_reducible exact LeO.refl _)
      | (with_reducible exact LeO.none _)
      | (with_reducible refine LeO.ite ?_ ?_)
      | (with_reducible refine LeO.bind ?_ (fun _ => ?_))
      | exact ih0 _ _ _
      | exact pianolalaw09_given.mono _ _
      | exact pianolalaw09_same.mono _ _ _
      | exact pianolaref09_Add.mono _ _ _
      | exact vault_Add.mono _ _ _
      | exact LeO.none _
      | refine LeO.ite ?_ ?_
      | refine LeO.bind ?_ (fun _ => ?_)
set_option maxHeartbeats 8000000 in
set_option maxRecDepth 100000 in
theorem pianolalaw09_VaultAdds.calls (k : Nat) (A0 : Option Addr) (c0 : Nat) (l0 : List (S61)) (A1 : Option Addr) (c1 : Nat) (l1 : List (S61)) (r : Bool) (w : World) (hr0 : Kd.C k61 w A0 l0.length l0) (hc0 : l0.length ≤ c0) (hr1 : Kd.C k61 w A1 l1.length l1) (hc1 : l1.length ≤ c1) (h : pianolalaw09_VaultAdds.f k l0 l1 = some r) :
    Calls Try.prog 7 #[.slice A0 l0.length c0, .slice A1 l1.length c1] w fun e w' => e = .returned (.bool r) ∧ Below w.heap.size w w' := by
  have HR0 := Aside0.mk hr0
  have HC0 := Aside0.mk hc0
  clear hr0 hc0
  have HR1 := Aside0.mk hr1
  have HC1 := Aside0.mk hc1
  clear hr1 hc1
  have HB := Aside0.mk (Below.refl w.heap.size w)
  have H : (if (l0.length : Int) > 60 then (pianolalaw09_VaultAdds.j0 k l0 l1 true) else (pianolalaw09_VaultAdds.j0 k l0 l1 (decide ((l1.length : Int) > 60)))) = some r := h
  clear h
  have HC3 := Aside0.mk H
  clear H
  go_enter Try.func7, Try.ntmps7
  go_upto_region 1 with (fail)
  go_cut [16] (fun v16 wc => ∃ (kq : Nat) (x16_2 : Bool), v16 = .bool x16_2 ∧ Aside0 (pianolalaw09_VaultAdds.j0 kq l0 l1 x16_2 = some r) ∧ Aside0 (kq ≤ k) ∧ Aside0 (Below w.heap.size w wc))
  case first =>
    have H := HC3.out
    clear HC3
    by_cases c4 : (l0.length : Int) > 60
    · rw [if_pos c4] at H
      have c4b0 : decide (60 < (l0.length : Int)) = true := decide_eq_true c4
      have c4b1 : decide (60 < l0.length) = true := decide_eq_true (by omega)
      clear c4
      (first | rw [c4b0] | (simp only [i64_w, i32_w]; rw [c4b0]) | skip)
      have H' := Aside0.mk H
      clear H
      go_wp2
      go_meet
      case rel => exact ⟨_, (true), (by first | rfl | (simp; done) | (simp [*]; done)), H', ⟨by first | omega | exact Nat.le_refl _⟩, ⟨by repeat (first | (with_reducible first | exact HB.out | apply below_alloc | apply pw_below_drewN | apply below_drew1) | exact HB.out)⟩⟩
    · rw [if_neg c4] at H
      have c4b0 : decide (60 < (l0.length : Int)) = false := decide_eq_false c4
      have c4b1 : decide (60 < l0.length) = false := decide_eq_false (by omega)
      clear c4
      (first | rw [c4b0] | (simp only [i64_w, i32_w]; rw [c4b0]) | skip)
      have H' := Aside0.mk H
      clear H
      go_wp2
      go_meet
      case rel => exact ⟨_, (decide ((l1.length : Int) > 60)), (by first | rfl | (simp; done) | (simp [*]; done)), H', ⟨by first | omega | exact Nat.le_refl _⟩, ⟨by repeat (first | (with_reducible first | exact HB.out | apply below_alloc | apply pw_below_drewN | apply below_drew1) | exact HB.out)⟩⟩
  case rest =>
    clear HC3
    try clear c1
    try clear p2
    try clear c4
    try clear c4b0
    try clear c4b1
    obtain ⟨kq, x16_2, rfl, HA, HJ2, HB⟩ := hcut
    cases kq with
    | zero => exact absurd HA.out (by simp [pianolalaw09_VaultAdds.j0])
    | succ kj2 =>
      have H := HA.out
      clear HA
      simp only [pianolalaw09_VaultAdds.j0] at H
      by_cases c5 : x16_2 = true
      · subst c5
        have H1 : ((pianolalaw09_works.f).bind fun t392 => (some t392)) = some r := by rw [if_pos rfl] at H; exact H
        clear H
        have H := H1
        clear H1
        replace H := Option.bind_eq_some_iff.mp H
        obtain ⟨t392, A60, H⟩ := H
        replace H : (some t392) = some r := H
        have A6 := Aside0.mk A60
        clear A60
        obtain rfl := Option.some.inj H
        go_wp2_with (first | ((with_reducible refine gate_callee (f := 17) rfl ?_); refine goesL_ (some 17) rfl rfl Try.func17 (by kernel_rfl) rfl #[] rfl (by (try simp only [List.map_toArray, List.map_cons, List.map_nil]); first | done | rfl | (simp only [List.length_drop, List.length_take]; rfl)) ?_; (with_reducible refine (pianolalaw09_works.calls  t392 _ A6.out).mono ?_); rintro e w7 ⟨rfl, hb⟩; refine ⟨_, rfl, ?_⟩; have n0_ := Aside0.mk (below_step (by repeat (first | (with_reducible first | exact HB.out | apply below_alloc | apply pw_below_drewN | apply below_drew1) | exact HB.out)) hb); clear HB; have HB := n0_; clear n0_; (try clear hb); (try clear hb2); (try clear hk); (try clear hi)))
        go_ret
        exact ⟨by first | rfl | (simp [errW_none, errW_some] <;> rfl) | (simp [*, errW_none, errW_some] <;> rfl), by repeat (first | (with_reducible first | exact HB.out | apply below_alloc | apply pw_below_drewN | apply below_drew1) | exact HB.out)⟩
      · replace c5 := Bool.eq_false_iff.mpr c5
        subst c5
        have H1 : ((vault_Add.f kj2 l0 l1).bind fun bt393 => ((pianolalaw09_given.f kj2 l0).bind fun t397 => ((pianolalaw09_given.f kj2 l1).bind fun t400 => ((pianolaref09_Add.f kj2 t397 t400).bind fun bt403 => ((pianolalaw09_same.f kj2 bt393.1 bt403.1).bind fun t407 => (if t407 = true then (if bt393.2 = bt403.2 then ((pianolalaw09_works.f).bind fun t408 => (some t408)) else (some false)) else (some false))))))) = some r := by rw [if_neg (show ¬ (false = true) by decide)] at H; exact H
        clear H
        have H := H1
        clear H1
        replace H := Option.bind_eq_some_iff.mp H
        obtain ⟨⟨t393, t396⟩, A80, H⟩ := H
        replace H : ((pianolalaw09_given.f kj2 l0).bind fun t397 => ((pianolalaw09_given.f kj2 l1).bind fun t400 => ((pianolaref09_Add.f kj2 t397 t400).bind fun bt403 => ((pianolalaw09_same.f kj2 t393 bt403.1).bind fun t407 => (if t407 = true then (if t396 = bt403.2 then ((pianolalaw09_works.f).bind fun t408 => (some t408)) else (some false)) else (some false)))))) = some r := H
        have A8 := Aside0.mk A80
        clear A80
        replace H := Option.bind_eq_some_iff.mp H
        obtain ⟨t397, A90, H⟩ := H
        replace H : ((pianolalaw09_given.f kj2 l1).bind fun t400 => ((pianolaref09_Add.f kj2 t397 t400).bind fun bt403 => ((pianolalaw09_same.f kj2 t393 bt403.1).bind fun t407 => (if t407 = true then (if t396 = bt403.2 then ((pianolalaw09_works.f).bind fun t408 => (some t408)) else (some false)) else (some false))))) = some r := H
        have A9 := Aside0.mk A90
        clear A90
        replace H := Option.bind_eq_some_iff.mp H
        obtain ⟨t400, A100, H⟩ := H
        replace H : ((pianolaref09_Add.f kj2 t397 t400).bind fun bt403 => ((pianolalaw09_same.f kj2 t393 bt403.1).bind fun t407 => (if t407 = true then (if t396 = bt403.2 then ((pianolalaw09_works.f).bind fun t408 => (some t408)) else (some false)) else (some false)))) = some r := H
        have A10 := Aside0.mk A100
        clear A100
        replace H := Option.bind_eq_some_iff.mp H
        obtain ⟨⟨t403, t404⟩, A110, H⟩ := H
        replace H : ((pianolalaw09_same.f kj2 t393 t403).bind fun t407 => (if t407 = true then (if t396 = t404 then ((pianolalaw09_works.f).bind fun t408 => (some t408)) else (some false)) else (some false))) = some r := H
        have A11 := Aside0.mk A110
        clear A110
        replace H := Option.bind_eq_some_iff.mp H
        obtain ⟨t407, A120, H⟩ := H
        replace H : (if t407 = true then (if t396 = t404 then ((pianolalaw09_works.f).bind fun t408 => (some t408)) else (some false)) else (some false)) = some r := H
        have A12 := Aside0.mk A120
        clear A120
        by_cases c13 : t407 = true
        · subst c13
          have H1 : (if t396 = t404 then ((pianolalaw09_works.f).bind fun t408 => (some t408)) else (some false)) = some r := by rw [if_pos rfl] at H; exact H
          clear H
          have H := H1
          clear H1
          by_cases c14 : t396 = t404
          · rw [if_pos c14] at H
            have c14b0 : (t396 == t404) = true := beq_iff_eq.mpr c14
            have c14b1 : (t396 != t404) = false := bne_eq_false_iff_eq.mpr c14
            clear c14
            replace H := Option.bind_eq_some_iff.mp H
            obtain ⟨t408, A150, H⟩ := H
            replace H : (some t408) = some r := H
            have A15 := Aside0.mk A150
            clear A150
            obtain rfl := Option.some.inj H
            go_wp2_with (first | ((with_reducible refine gate_callee (f := 39) rfl ?_); refine goesL_ (some 21) rfl rfl Try.func39 (by kernel_rfl) rfl #[.slice A0 l0.length c0, .slice A1 l1.length c1] rfl (by (try simp only [List.map_toArray, List.map_cons, List.map_nil]); first | done | rfl | (simp only [List.length_drop, List.length_take]; rfl)) ?_; (with_reducible refine (vault_Add.calls kj2 (fun k_ => k_ < w.heap.size) _ _ l0 (fun k_ => k_ < w.heap.size) _ _ l1 t393 t396 _ ?side1 ?side2 A8.out).mono ?_); (case side1 => exact Kd.V_mk HC0.out (Kd.F_below (Kd.C_F k61_heap HR0.out) (by repeat (first | (with_reducible first | exact HB.out | apply below_alloc | apply pw_below_drewN | apply below_drew1) | exact HB.out)))); (case side2 => exact Kd.V_mk HC1.out (Kd.F_below (Kd.C_F k61_heap HR1.out) (by repeat (first | (with_reducible first | exact HB.out | apply below_alloc | apply pw_below_drewN | apply below_drew1) | exact HB.out)))); rintro e w16 ⟨v394, rfl, ho0, hb⟩; refine ⟨_, rfl, ?_⟩; have n0_ := Aside0.mk (Kd.R_lower (Kd.R_mono (ok' := fun k_ => True) ho0 (fun _ hk_ => trivial)) (below_size (by repeat (first | (with_reducible first | exact HB.out | apply below_alloc | apply pw_below_drewN | apply below_drew1) | exact HB.out)))); have n1_ := Aside0.mk (below_step (by repeat (first | (with_reducible first | exact HB.out | apply below_alloc | apply pw_below_drewN | apply below_drew1) | exact HB.out)) hb); clear HB; have HO395 := n0_; have HB := n1_; clear n0_ n1_; (try clear hb); (try clear hb2); (try clear hk); (try clear hi); (try clear ho0)) | ((with_reducible refine gate_callee (f := 27) rfl ?_); refine goesL_ (some 26) rfl rfl Try.func27 (by kernel_rfl) rfl #[.slice A0 l0.length c0] rfl (by (try simp only [List.map_toArray, List.map_cons, List.map_nil]); first | done | rfl | (simp only [List.length_drop, List.length_take]; rfl)) ?_; (with_reducible refine (pianolalaw09_given.calls kj2 _ _ l0 t397 _ ?side1 ?side2 A9.out).mono ?_); (case side1 => repeat (first | exact (Kd.C_below HR0.out HB.out) | (with_reducible refine Kd.C_alloc ?_ _) | (with_reducible refine Kd.C_drewN ?_ _) | (with_reducible refine Kd.C_drew ?_))); (case side2 => exact HC0.out); rintro e w17 ⟨v398, rfl, ho0, hb⟩; refine ⟨_, rfl, ?_⟩; have n0_ := Aside0.mk (Kd.R_below (by (with_reducible repeat (first | apply Kd.R_alloc | apply Kd.R_drewN | apply Kd.R_drew)); exact HO395.out) hb); have n1_ := Aside0.mk (Kd.R_lower ho0 (below_size (by repeat (first | (with_reducible first | exact HB.out | apply below_alloc | apply pw_below_drewN | apply below_drew1) | exact HB.out)))); have n2_ := Aside0.mk (below_step (by repeat (first | (with_reducible first | exact HB.out | apply below_alloc | apply pw_below_drewN | apply below_drew1) | exact HB.out)) hb); clear HO395; clear HB; have HO395 := n0_; have HO399 := n1_; have HB := n2_; clear n0_ n1_ n2_; (try clear hb); (try clear hb2); (try clear hk); (try clear hi); (try clear ho0)) | ((with_reducible refine gate_callee (f := 27) rfl ?_); refine goesL_ (some 28) rfl rfl Try.func27 (by kernel_rfl) rfl #[.slice A1 l1.length c1] rfl (by (try simp only [List.map_toArray, List.map_cons, List.map_nil]); first | done | rfl | (simp only [List.length_drop, List.length_take]; rfl)) ?_; (with_reducible refine (pianolalaw09_given.calls kj2 _ _ l1 t400 _ ?side1 ?side2 A10.out).mono ?_); (case side1 => repeat (first | exact (Kd.C_below HR1.out HB.out) | (with_reducible refine Kd.C_alloc ?_ _) | (with_reducible refine Kd.C_drewN ?_ _) | (with_reducible refine Kd.C_drew ?_))); (case side2 => exact HC1.out); rintro e w18 ⟨v401, rfl, ho0, hb⟩; refine ⟨_, rfl, ?_⟩; have n0_ := Aside0.mk (Kd.R_below (by (with_reducible repeat (first | apply Kd.R_alloc | apply Kd.R_drewN | apply Kd.R_drew)); exact HO395.out) hb); have n1_ := Aside0.mk (Kd.R_elder' (by (with_reducible repeat (first | apply Kd.R_alloc | apply Kd.R_drewN | apply Kd.R_drew)); exact HO399.out) (Kd.R_base ho0) hb); have n2_ := Aside0.mk (Kd.R_lower (Kd.R_new' ho0 (Kd.R_lt (by (with_reducible repeat (first | apply Kd.R_alloc | apply Kd.R_drewN | apply Kd.R_drew)); exact HO399.out))) (below_size (by repeat (first | (with_reducible first | exact HB.out | apply below_alloc | apply pw_below_drewN | apply below_drew1) | exact HB.out)))); have n3_ := Aside0.mk (below_step (by repeat (first | (with_reducible first | exact HB.out | apply below_alloc | apply pw_below_drewN | apply below_drew1) | exact HB.out)) hb); clear HO395; clear HO399; clear HB; have HO395 := n0_; have HO399 := n1_; have HO402 := n2_; have HB := n3_; clear n0_ n1_ n2_ n3_; (try clear hb); (try clear hb2); (try clear hk); (try clear hi); (try clear ho0); obtain ⟨Ao19, co19, eo19⟩ := Kd.R_slice HO399.out; subst eo19; obtain ⟨Ao20, co20, eo20⟩ := Kd.R_slice HO402.out; subst eo20) | ((with_reducible refine gate_callee (f := 40) rfl ?_); refine goesL_ (some 29) rfl rfl Try.func40 (by kernel_rfl) rfl #[.slice Ao19 t397.length co19, .slice Ao20 t400.length co20] rfl (by (try simp only [List.map_toArray, List.map_cons, List.map_nil]); first | done | rfl | (simp only [List.length_drop, List.length_take]; rfl)) ?_; (with_reducible refine (pianolaref09_Add.calls kj2 _ _ t397 _ _ t400 t403 t404 _ ?side1 ?side2 ?side3 ?side4 A11.out).mono ?_); (case side1 => repeat (first | exact (Kd.R_reads' HO399.out).2.2 | (with_reducible refine Kd.C_alloc ?_ _) | (with_reducible refine Kd.C_drewN ?_ _) | (with_reducible refine Kd.C_drew ?_))); (case side2 => exact (Kd.R_reads' HO399.out).2.1); (case side3 => repeat (first | exact (Kd.R_reads' HO402.out).2.2 | (with_reducible refine Kd.C_alloc ?_ _) | (with_reducible refine Kd.C_drewN ?_ _) | (with_reducible refine Kd.C_drew ?_))); (case side4 => exact (Kd.R_reads' HO402.out).2.1); rintro e w21 ⟨v405, rfl, ho0, hb⟩; refine ⟨_, rfl, ?_⟩; have n0_ := Aside0.mk (Kd.R_below (by (with_reducible repeat (first | apply Kd.R_alloc | apply Kd.R_drewN | apply Kd.R_drew)); exact HO395.out) hb); have n1_ := Aside0.mk (Kd.R_elder' (by (with_reducible repeat (first | apply Kd.R_alloc | apply Kd.R_drewN | apply Kd.R_drew)); exact HO399.out) (Kd.R_base ho0) hb); have n2_ := Aside0.mk (Kd.R_elder' (by (with_reducible repeat (first | apply Kd.R_alloc | apply Kd.R_drewN | apply Kd.R_drew)); exact HO402.out) (Kd.R_base ho0) hb); have n3_ := Aside0.mk (Kd.R_lower (Kd.R_new' (Kd.R_new' ho0 (Kd.R_lt (by (with_reducible repeat (first | apply Kd.R_alloc | apply Kd.R_drewN | apply Kd.R_drew)); exact HO399.out))) (Kd.R_lt (by (with_reducible repeat (first | apply Kd.R_alloc | apply Kd.R_drewN | apply Kd.R_drew)); exact HO402.out))) (below_size (by repeat (first | (with_reducible first | exact HB.out | apply below_alloc | apply pw_below_drewN | apply below_drew1) | exact HB.out)))); have n4_ := Aside0.mk (below_step (by repeat (first | (with_reducible first | exact HB.out | apply below_alloc | apply pw_below_drewN | apply below_drew1) | exact HB.out)) hb); clear HO395; clear HO399; clear HO402; clear HB; have HO395 := n0_; have HO399 := n1_; have HO402 := n2_; have HO406 := n3_; have HB := n4_; clear n0_ n1_ n2_ n3_ n4_; (try clear hb); (try clear hb2); (try clear hk); (try clear hi); (try clear ho0); obtain ⟨Ao22, co22, eo22⟩ := Kd.R_slice HO395.out; subst eo22; obtain ⟨Ao23, co23, eo23⟩ := Kd.R_slice HO406.out; subst eo23) | ((with_reducible refine gate_callee (f := 24) rfl ?_); refine goesL_ (some 34) rfl rfl Try.func24 (by kernel_rfl) rfl #[.slice Ao22 t393.length co22, .slice Ao23 t403.length co23] rfl (by (try simp only [List.map_toArray, List.map_cons, List.map_nil]); first | done | rfl | (simp only [List.length_drop, List.length_take]; rfl)) ?_; (with_reducible refine (pianolalaw09_same.calls kj2 _ _ t393 _ _ t403 true _ ?side1 ?side2 ?side3 ?side4 A12.out).mono ?_); (case side1 => repeat (first | exact (Kd.R_reads' HO395.out).2.2 | (with_reducible refine Kd.C_alloc ?_ _) | (with_reducible refine Kd.C_drewN ?_ _) | (with_reducible refine Kd.C_drew ?_))); (case side2 => exact (Kd.R_reads' HO395.out).2.1); (case side3 => repeat (first | exact (Kd.R_reads' HO406.out).2.2 | (with_reducible refine Kd.C_alloc ?_ _) | (with_reducible refine Kd.C_drewN ?_ _) | (with_reducible refine Kd.C_drew ?_))); (case side4 => exact (Kd.R_reads' HO406.out).2.1); rintro e w' ⟨rfl, ⟨nd, rfl⟩⟩; refine ⟨_, rfl, ?_⟩) | (go_at_call 17; (with_reducible refine (pianolalaw09_works.calls  t408 _ A15.out).mono ?_); rintro e w24 ⟨rfl, hb⟩; have n0_ := Aside0.mk (Kd.R_below (by (with_reducible repeat (first | apply Kd.R_alloc | apply Kd.R_drewN | apply Kd.R_drew)); exact HO395.out) hb); have n1_ := Aside0.mk (Kd.R_below (by (with_reducible repeat (first | apply Kd.R_alloc | apply Kd.R_drewN | apply Kd.R_drew)); exact HO399.out) hb); have n2_ := Aside0.mk (Kd.R_below (by (with_reducible repeat (first | apply Kd.R_alloc | apply Kd.R_drewN | apply Kd.R_drew)); exact HO402.out) hb); have n3_ := Aside0.mk (Kd.R_below (by (with_reducible repeat (first | apply Kd.R_alloc | apply Kd.R_drewN | apply Kd.R_drew)); exact HO406.out) hb); have n4_ := Aside0.mk (below_step (by repeat (first | (with_reducible first | exact HB.out | apply below_alloc | apply pw_below_drewN | apply below_drew1) | exact HB.out)) hb); clear HO395; clear HO399; clear HO402; clear HO406; clear HB; have HO395 := n0_; have HO399 := n1_; have HO402 := n2_; have HO406 := n3_; have HB := n4_; clear n0_ n1_ n2_ n3_ n4_; (try clear hb); (try clear hb2); (try clear hk); (try clear hi)))
            go_ret
            exact ⟨by first | rfl | (simp [errW_none, errW_some] <;> rfl) | (simp [*, errW_none, errW_some] <;> rfl), by repeat (first | (with_reducible first | exact HB.out | apply below_alloc | apply pw_below_drewN | apply below_drew1) | exact HB.out)⟩
          · rw [if_neg c14] at H
            have c14b0 : (t396 == t404) = false := beq_eq_false_iff_ne.mpr c14
            have c14b1 : (t396 != t404) = true := bne_iff_ne.mpr c14
            obtain rfl := Option.some.inj H
            go_wp2_with (first | ((with_reducible refine gate_callee (f := 39) rfl ?_); refine goesL_ (some 21) rfl rfl Try.func39 (by kernel_rfl) rfl #[.slice A0 l0.length c0, .slice A1 l1.length c1] rfl (by (try simp only [List.map_toArray, List.map_cons, List.map_nil]); first | done | rfl | (simp only [List.length_drop, List.length_take]; rfl)) ?_; (with_reducible refine (vault_Add.calls kj2 (fun k_ => k_ < w.heap.size) _ _ l0 (fun k_ => k_ < w.heap.size) _ _ l1 t393 t396 _ ?side1 ?side2 A8.out).mono ?_); (case side1 => exact Kd.V_mk HC0.out (Kd.F_below (Kd.C_F k61_heap HR0.out) (by repeat (first | (with_reducible first | exact HB.out | apply below_alloc | apply pw_below_drewN | apply below_drew1) | exact HB.out)))); (case side2 => exact Kd.V_mk HC1.out (Kd.F_below (Kd.C_F k61_heap HR1.out) (by repeat (first | (with_reducible first | exact HB.out | apply below_alloc | apply pw_below_drewN | apply below_drew1) | exact HB.out)))); rintro e w25 ⟨v394, rfl, ho0, hb⟩; refine ⟨_, rfl, ?_⟩; have n0_ := Aside0.mk (Kd.R_lower (Kd.R_mono (ok' := fun k_ => True) ho0 (fun _ hk_ => trivial)) (below_size (by repeat (first | (with_reducible first | exact HB.out | apply below_alloc | apply pw_below_drewN | apply below_drew1) | exact HB.out)))); have n1_ := Aside0.mk (below_step (by repeat (first | (with_reducible first | exact HB.out | apply below_alloc | apply pw_below_drewN | apply below_drew1) | exact HB.out)) hb); clear HB; have HO395 := n0_; have HB := n1_; clear n0_ n1_; (try clear hb); (try clear hb2); (try clear hk); (try clear hi); (try clear ho0)) | ((with_reducible refine gate_callee (f := 27) rfl ?_); refine goesL_ (some 26) rfl rfl Try.func27 (by kernel_rfl) rfl #[.slice A0 l0.length c0] rfl (by (try simp only [List.map_toArray, List.map_cons, List.map_nil]); first | done | rfl | (simp only [List.length_drop, List.length_take]; rfl)) ?_; (with_reducible refine (pianolalaw09_given.calls kj2 _ _ l0 t397 _ ?side1 ?side2 A9.out).mono ?_); (case side1 => repeat (first | exact (Kd.C_below HR0.out HB.out) | (with_reducible refine Kd.C_alloc ?_ _) | (with_reducible refine Kd.C_drewN ?_ _) | (with_reducible refine Kd.C_drew ?_))); (case side2 => exact HC0.out); rintro e w26 ⟨v398, rfl, ho0, hb⟩; refine ⟨_, rfl, ?_⟩; have n0_ := Aside0.mk (Kd.R_below (by (with_reducible repeat (first | apply Kd.R_alloc | apply Kd.R_drewN | apply Kd.R_drew)); exact HO395.out) hb); have n1_ := Aside0.mk (Kd.R_lower ho0 (below_size (by repeat (first | (with_reducible first | exact HB.out | apply below_alloc | apply pw_below_drewN | apply below_drew1) | exact HB.out)))); have n2_ := Aside0.mk (below_step (by repeat (first | (with_reducible first | exact HB.out | apply below_alloc | apply pw_below_drewN | apply below_drew1) | exact HB.out)) hb); clear HO395; clear HB; have HO395 := n0_; have HO399 := n1_; have HB := n2_; clear n0_ n1_ n2_; (try clear hb); (try clear hb2); (try clear hk); (try clear hi); (try clear ho0)) | ((with_reducible refine gate_callee (f := 27) rfl ?_); refine goesL_ (some 28) rfl rfl Try.func27 (by kernel_rfl) rfl #[.slice A1 l1.length c1] rfl (by (try simp only [List.map_toArray, List.map_cons, List.map_nil]); first | done | rfl | (simp only [List.length_drop, List.length_take]; rfl)) ?_; (with_reducible refine (pianolalaw09_given.calls kj2 _ _ l1 t400 _ ?side1 ?side2 A10.out).mono ?_); (case side1 => repeat (first | exact (Kd.C_below HR1.out HB.out) | (with_reducible refine Kd.C_alloc ?_ _) | (with_reducible refine Kd.C_drewN ?_ _) | (with_reducible refine Kd.C_drew ?_))); (case side2 => exact HC1.out); rintro e w27 ⟨v401, rfl, ho0, hb⟩; refine ⟨_, rfl, ?_⟩; have n0_ := Aside0.mk (Kd.R_below (by (with_reducible repeat (first | apply Kd.R_alloc | apply Kd.R_drewN | apply Kd.R_drew)); exact HO395.out) hb); have n1_ := Aside0.mk (Kd.R_elder' (by (with_reducible repeat (first | apply Kd.R_alloc | apply Kd.R_drewN | apply Kd.R_drew)); exact HO399.out) (Kd.R_base ho0) hb); have n2_ := Aside0.mk (Kd.R_lower (Kd.R_new' ho0 (Kd.R_lt (by (with_reducible repeat (first | apply Kd.R_alloc | apply Kd.R_drewN | apply Kd.R_drew)); exact HO399.out))) (below_size (by repeat (first | (with_reducible first | exact HB.out | apply below_alloc | apply pw_below_drewN | apply below_drew1) | exact HB.out)))); have n3_ := Aside0.mk (below_step (by repeat (first | (with_reducible first | exact HB.out | apply below_alloc | apply pw_below_drewN | apply below_drew1) | exact HB.out)) hb); clear HO395; clear HO399; clear HB; have HO395 := n0_; have HO399 := n1_; have HO402 := n2_; have HB := n3_; clear n0_ n1_ n2_ n3_; (try clear hb); (try clear hb2); (try clear hk); (try clear hi); (try clear ho0); obtain ⟨Ao28, co28, eo28⟩ := Kd.R_slice HO399.out; subst eo28; obtain ⟨Ao29, co29, eo29⟩ := Kd.R_slice HO402.out; subst eo29) | ((with_reducible refine gate_callee (f := 40) rfl ?_); refine goesL_ (some 29) rfl rfl Try.func40 (by kernel_rfl) rfl #[.slice Ao28 t397.length co28, .slice Ao29 t400.length co29] rfl (by (try simp only [List.map_toArray, List.map_cons, List.map_nil]); first | done | rfl | (simp only [List.length_drop, List.length_take]; rfl)) ?_; (with_reducible refine (pianolaref09_Add.calls kj2 _ _ t397 _ _ t400 t403 t404 _ ?side1 ?side2 ?side3 ?side4 A11.out).mono ?_); (case side1 => repeat (first | exact (Kd.R_reads' HO399.out).2.2 | (with_reducible refine Kd.C_alloc ?_ _) | (with_reducible refine Kd.C_drewN ?_ _) | (with_reducible refine Kd.C_drew ?_))); (case side2 => exact (Kd.R_reads' HO399.out).2.1); (case side3 => repeat (first | exact (Kd.R_reads' HO402.out).2.2 | (with_reducible refine Kd.C_alloc ?_ _) | (with_reducible refine Kd.C_drewN ?_ _) | (with_reducible refine Kd.C_drew ?_))); (case side4 => exact (Kd.R_reads' HO402.out).2.1); rintro e w30 ⟨v405, rfl, ho0, hb⟩; refine ⟨_, rfl, ?_⟩; have n0_ := Aside0.mk (Kd.R_below (by (with_reducible repeat (first | apply Kd.R_alloc | apply Kd.R_drewN | apply Kd.R_drew)); exact HO395.out) hb); have n1_ := Aside0.mk (Kd.R_elder' (by (with_reducible repeat (first | apply Kd.R_alloc | apply Kd.R_drewN | apply Kd.R_drew)); exact HO399.out) (Kd.R_base ho0) hb); have n2_ := Aside0.mk (Kd.R_elder' (by (with_reducible repeat (first | apply Kd.R_alloc | apply Kd.R_drewN | apply Kd.R_drew)); exact HO402.out) (Kd.R_base ho0) hb); have n3_ := Aside0.mk (Kd.R_lower (Kd.R_new' (Kd.R_new' ho0 (Kd.R_lt (by (with_reducible repeat (first | apply Kd.R_alloc | apply Kd.R_drewN | apply Kd.R_drew)); exact HO399.out))) (Kd.R_lt (by (with_reducible repeat (first | apply Kd.R_alloc | apply Kd.R_drewN | apply Kd.R_drew)); exact HO402.out))) (below_size (by repeat (first | (with_reducible first | exact HB.out | apply below_alloc | apply pw_below_drewN | apply below_drew1) | exact HB.out)))); have n4_ := Aside0.mk (below_step (by repeat (first | (with_reducible first | exact HB.out | apply below_alloc | apply pw_below_drewN | apply below_drew1) | exact HB.out)) hb); clear HO395; clear HO399; clear HO402; clear HB; have HO395 := n0_; have HO399 := n1_; have HO402 := n2_; have HO406 := n3_; have HB := n4_; clear n0_ n1_ n2_ n3_ n4_; (try clear hb); (try clear hb2); (try clear hk); (try clear hi); (try clear ho0); obtain ⟨Ao31, co31, eo31⟩ := Kd.R_slice HO395.out; subst eo31; obtain ⟨Ao32, co32, eo32⟩ := Kd.R_slice HO406.out; subst eo32) | ((with_reducible refine gate_callee (f := 24) rfl ?_); refine goesL_ (some 34) rfl rfl Try.func24 (by kernel_rfl) rfl #[.slice Ao31 t393.length co31, .slice Ao32 t403.length co32] rfl (by (try simp only [List.map_toArray, List.map_cons, List.map_nil]); first | done | rfl | (simp only [List.length_drop, List.length_take]; rfl)) ?_; (with_reducible refine (pianolalaw09_same.calls kj2 _ _ t393 _ _ t403 true _ ?side1 ?side2 ?side3 ?side4 A12.out).mono ?_); (case side1 => repeat (first | exact (Kd.R_reads' HO395.out).2.2 | (with_reducible refine Kd.C_alloc ?_ _) | (with_reducible refine Kd.C_drewN ?_ _) | (with_reducible refine Kd.C_drew ?_))); (case side2 => exact (Kd.R_reads' HO395.out).2.1); (case side3 => repeat (first | exact (Kd.R_reads' HO406.out).2.2 | (with_reducible refine Kd.C_alloc ?_ _) | (with_reducible refine Kd.C_drewN ?_ _) | (with_reducible refine Kd.C_drew ?_))); (case side4 => exact (Kd.R_reads' HO406.out).2.1); rintro e w' ⟨rfl, ⟨nd, rfl⟩⟩; refine ⟨_, rfl, ?_⟩))
            go_ret
            exact ⟨by first | rfl | (simp [errW_none, errW_some] <;> rfl) | (simp [*, errW_none, errW_some] <;> rfl), by repeat (first | (with_reducible first | exact HB.out | apply below_alloc | apply pw_below_drewN | apply below_drew1) | exact HB.out)⟩
        · replace c13 := Bool.eq_false_iff.mpr c13
          subst c13
          have H1 : (some false) = some r := by rw [if_neg (show ¬ (false = true) by decide)] at H; exact H
          clear H
          have H := H1
          clear H1
          obtain rfl := Option.some.inj H
          go_wp2_with (first | ((with_reducible refine gate_callee (f := 39) rfl ?_); refine goesL_ (some 21) rfl rfl Try.func39 (by kernel_rfl) rfl #[.slice A0 l0.length c0, .slice A1 l1.length c1] rfl (by (try simp only [List.map_toArray, List.map_cons, List.map_nil]); first | done | rfl | (simp only [List.length_drop, List.length_take]; rfl)) ?_; (with_reducible refine (vault_Add.calls kj2 (fun k_ => k_ < w.heap.size) _ _ l0 (fun k_ => k_ < w.heap.size) _ _ l1 t393 t396 _ ?side1 ?side2 A8.out).mono ?_); (case side1 => exact Kd.V_mk HC0.out (Kd.F_below (Kd.C_F k61_heap HR0.out) (by repeat (first | (with_reducible first | exact HB.out | apply below_alloc | apply pw_below_drewN | apply below_drew1) | exact HB.out)))); (case side2 => exact Kd.V_mk HC1.out (Kd.F_below (Kd.C_F k61_heap HR1.out) (by repeat (first | (with_reducible first | exact HB.out | apply below_alloc | apply pw_below_drewN | apply below_drew1) | exact HB.out)))); rintro e w33 ⟨v394, rfl, ho0, hb⟩; refine ⟨_, rfl, ?_⟩; have n0_ := Aside0.mk (Kd.R_lower (Kd.R_mono (ok' := fun k_ => True) ho0 (fun _ hk_ => trivial)) (below_size (by repeat (first | (with_reducible first | exact HB.out | apply below_alloc | apply pw_below_drewN | apply below_drew1) | exact HB.out)))); have n1_ := Aside0.mk (below_step (by repeat (first | (with_reducible first | exact HB.out | apply below_alloc | apply pw_below_drewN | apply below_drew1) | exact HB.out)) hb); clear HB; have HO395 := n0_; have HB := n1_; clear n0_ n1_; (try clear hb); (try clear hb2); (try clear hk); (try clear hi); (try clear ho0)) | ((with_reducible refine gate_callee (f := 27) rfl ?_); refine goesL_ (some 26) rfl rfl Try.func27 (by kernel_rfl) rfl #[.slice A0 l0.length c0] rfl (by (try simp only [List.map_toArray, List.map_cons, List.map_nil]); first | done | rfl | (simp only [List.length_drop, List.length_take]; rfl)) ?_; (with_reducible refine (pianolalaw09_given.calls kj2 _ _ l0 t397 _ ?side1 ?side2 A9.out).mono ?_); (case side1 => repeat (first | exact (Kd.C_below HR0.out HB.out) | (with_reducible refine Kd.C_alloc ?_ _) | (with_reducible refine Kd.C_drewN ?_ _) | (with_reducible refine Kd.C_drew ?_))); (case side2 => exact HC0.out); rintro e w34 ⟨v398, rfl, ho0, hb⟩; refine ⟨_, rfl, ?_⟩; have n0_ := Aside0.mk (Kd.R_below (by (with_reducible repeat (first | apply Kd.R_alloc | apply Kd.R_drewN | apply Kd.R_drew)); exact HO395.out) hb); have n1_ := Aside0.mk (Kd.R_lower ho0 (below_size (by repeat (first | (with_reducible first | exact HB.out | apply below_alloc | apply pw_below_drewN | apply below_drew1) | exact HB.out)))); have n2_ := Aside0.mk (below_step (by repeat (first | (with_reducible first | exact HB.out | apply below_alloc | apply pw_below_drewN | apply below_drew1) | exact HB.out)) hb); clear HO395; clear HB; have HO395 := n0_; have HO399 := n1_; have HB := n2_; clear n0_ n1_ n2_; (try clear hb); (try clear hb2); (try clear hk); (try clear hi); (try clear ho0)) | ((with_reducible refine gate_callee (f := 27) rfl ?_); refine goesL_ (some 28) rfl rfl Try.func27 (by kernel_rfl) rfl #[.slice A1 l1.length c1] rfl (by (try simp only [List.map_toArray, List.map_cons, List.map_nil]); first | done | rfl | (simp only [List.length_drop, List.length_take]; rfl)) ?_; (with_reducible refine (pianolalaw09_given.calls kj2 _ _ l1 t400 _ ?side1 ?side2 A10.out).mono ?_); (case side1 => repeat (first | exact (Kd.C_below HR1.out HB.out) | (with_reducible refine Kd.C_alloc ?_ _) | (with_reducible refine Kd.C_drewN ?_ _) | (with_reducible refine Kd.C_drew ?_))); (case side2 => exact HC1.out); rintro e w35 ⟨v401, rfl, ho0, hb⟩; refine ⟨_, rfl, ?_⟩; have n0_ := Aside0.mk (Kd.R_below (by (with_reducible repeat (first | apply Kd.R_alloc | apply Kd.R_drewN | apply Kd.R_drew)); exact HO395.out) hb); have n1_ := Aside0.mk (Kd.R_elder' (by (with_reducible repeat (first | apply Kd.R_alloc | apply Kd.R_drewN | apply Kd.R_drew)); exact HO399.out) (Kd.R_base ho0) hb); have n2_ := Aside0.mk (Kd.R_lower (Kd.R_new' ho0 (Kd.R_lt (by (with_reducible repeat (first | apply Kd.R_alloc | apply Kd.R_drewN | apply Kd.R_drew)); exact HO399.out))) (below_size (by repeat (first | (with_reducible first | exact HB.out | apply below_alloc | apply pw_below_drewN | apply below_drew1) | exact HB.out)))); have n3_ := Aside0.mk (below_step (by repeat (first | (with_reducible first | exact HB.out | apply below_alloc | apply pw_below_drewN | apply below_drew1) | exact HB.out)) hb); clear HO395; clear HO399; clear HB; have HO395 := n0_; have HO399 := n1_; have HO402 := n2_; have HB := n3_; clear n0_ n1_ n2_ n3_; (try clear hb); (try clear hb2); (try clear hk); (try clear hi); (try clear ho0); obtain ⟨Ao36, co36, eo36⟩ := Kd.R_slice HO399.out; subst eo36; obtain ⟨Ao37, co37, eo37⟩ := Kd.R_slice HO402.out; subst eo37) | ((with_reducible refine gate_callee (f := 40) rfl ?_); refine goesL_ (some 29) rfl rfl Try.func40 (by kernel_rfl) rfl #[.slice Ao36 t397.length co36, .slice Ao37 t400.length co37] rfl (by (try simp only [List.map_toArray, List.map_cons, List.map_nil]); first | done | rfl | (simp only [List.length_drop, List.length_take]; rfl)) ?_; (with_reducible refine (pianolaref09_Add.calls kj2 _ _ t397 _ _ t400 t403 t404 _ ?side1 ?side2 ?side3 ?side4 A11.out).mono ?_); (case side1 => repeat (first | exact (Kd.R_reads' HO399.out).2.2 | (with_reducible refine Kd.C_alloc ?_ _) | (with_reducible refine Kd.C_drewN ?_ _) | (with_reducible refine Kd.C_drew ?_))); (case side2 => exact (Kd.R_reads' HO399.out).2.1); (case side3 => repeat (first | exact (Kd.R_reads' HO402.out).2.2 | (with_reducible refine Kd.C_alloc ?_ _) | (with_reducible refine Kd.C_drewN ?_ _) | (with_reducible refine Kd.C_drew ?_))); (case side4 => exact (Kd.R_reads' HO402.out).2.1); rintro e w38 ⟨v405, rfl, ho0, hb⟩; refine ⟨_, rfl, ?_⟩; have n0_ := Aside0.mk (Kd.R_below (by (with_reducible repeat (first | apply Kd.R_alloc | apply Kd.R_drewN | apply Kd.R_drew)); exact HO395.out) hb); have n1_ := Aside0.mk (Kd.R_elder' (by (with_reducible repeat (first | apply Kd.R_alloc | apply Kd.R_drewN | apply Kd.R_drew)); exact HO399.out) (Kd.R_base ho0) hb); have n2_ := Aside0.mk (Kd.R_elder' (by (with_reducible repeat (first | apply Kd.R_alloc | apply Kd.R_drewN | apply Kd.R_drew)); exact HO402.out) (Kd.R_base ho0) hb); have n3_ := Aside0.mk (Kd.R_lower (Kd.R_new' (Kd.R_new' ho0 (Kd.R_lt (by (with_reducible repeat (first | apply Kd.R_alloc | apply Kd.R_drewN | apply Kd.R_drew)); exact HO399.out))) (Kd.R_lt (by (with_reducible repeat (first | apply Kd.R_alloc | apply Kd.R_drewN | apply Kd.R_drew)); exact HO402.out))) (below_size (by repeat (first | (with_reducible first | exact HB.out | apply below_alloc | apply pw_below_drewN | apply below_drew1) | exact HB.out)))); have n4_ := Aside0.mk (below_step (by repeat (first | (with_reducible first | exact HB.out | apply below_alloc | apply pw_below_drewN | apply below_drew1) | exact HB.out)) hb); clear HO395; clear HO399; clear HO402; clear HB; have HO395 := n0_; have HO399 := n1_; have HO402 := n2_; have HO406 := n3_; have HB := n4_; clear n0_ n1_ n2_ n3_ n4_; (try clear hb); (try clear hb2); (try clear hk); (try clear hi); (try clear ho0); obtain ⟨Ao39, co39, eo39⟩ := Kd.R_slice HO395.out; subst eo39; obtain ⟨Ao40, co40, eo40⟩ := Kd.R_slice HO406.out; subst eo40) | ((with_reducible refine gate_callee (f := 24) rfl ?_); refine goesL_ (some 34) rfl rfl Try.func24 (by kernel_rfl) rfl #[.slice Ao39 t393.length co39, .slice Ao40 t403.length co40] rfl (by (try simp only [List.map_toArray, List.map_cons, List.map_nil]); first | done | rfl | (simp only [List.length_drop, List.length_take]; rfl)) ?_; (with_reducible refine (pianolalaw09_same.calls kj2 _ _ t393 _ _ t403 false _ ?side1 ?side2 ?side3 ?side4 A12.out).mono ?_); (case side1 => repeat (first | exact (Kd.R_reads' HO395.out).2.2 | (with_reducible refine Kd.C_alloc ?_ _) | (with_reducible refine Kd.C_drewN ?_ _) | (with_reducible refine Kd.C_drew ?_))); (case side2 => exact (Kd.R_reads' HO395.out).2.1); (case side3 => repeat (first | exact (Kd.R_reads' HO406.out).2.2 | (with_reducible refine Kd.C_alloc ?_ _) | (with_reducible refine Kd.C_drewN ?_ _) | (with_reducible refine Kd.C_drew ?_))); (case side4 => exact (Kd.R_reads' HO406.out).2.1); rintro e w' ⟨rfl, ⟨nd, rfl⟩⟩; refine ⟨_, rfl, ?_⟩))
          go_ret
          exact ⟨by first | rfl | (simp [errW_none, errW_some] <;> rfl) | (simp [*, errW_none, errW_some] <;> rfl), by repeat (first | (with_reducible first | exact HB.out | apply below_alloc | apply pw_below_drewN | apply below_drew1) | exact HB.out)⟩
end Go.Proofs.Ytpfkfbbekfkcgaa.P
end
section
namespace Go.Proofs.Ytpfkfbbekfkcgaa.P
set_option linter.unusedVariables false
set_option linter.unusedSimpArgs false
abbrev K251 := Fin 251
def fk (a : Int) : K251 := ⟨(a % 251).toNat, by omega⟩
def iF (a : K251) : K251 := a ^ 249
def eF : List K251 → K251 → K251
  | [], _ => 0
  | a :: l, x => a + x * eF l x
end Go.Proofs.Ytpfkfbbekfkcgaa.P
end
section
namespace Go.Proofs.Ytpfkfbbekfkcgaa.P
open Go.RowKit Go.Proofs.YtpfkfbbekfkcgaaW.PrintWords Go.Proofs.YtpfkfbbekfkcgaaW.PrintLast Go.Proofs.YtpfkfbbekfkcgaaW.PrintMore
set_option linter.unusedVariables false
set_option linter.unusedSimpArgs false
structure KD (l : List S61) : Prop where
  nd : (l.map S61.f0).Nodup
  k : ∀ s ∈ l, F251 s.f0
  v : ∀ s ∈ l, F251 s.f1
end Go.Proofs.Ytpfkfbbekfkcgaa.P
end
section
namespace Go.Proofs.Ytpfkfbbekfkcgaa.P
open Go.RowKit Go.Proofs.YtpfkfbbekfkcgaaW.PrintWords Go.Proofs.YtpfkfbbekfkcgaaW.PrintLast Go.Proofs.YtpfkfbbekfkcgaaW.PrintMore
set_option linter.unusedVariables false
set_option linter.unusedSimpArgs false
def Fit (n : Nat) (l : List S61) : Prop := ∃ p : List K251, p.length = n ∧ ∀ a ∈ l, eF p (fk a.f0) = fk a.f1
theorem Fit.mono {n : Nat} {l m : List S61} (h : Fit n l) (hm : ∀ a ∈ m, a ∈ l) : Fit n m :=
  let ⟨p, hp, ha⟩ := h
  ⟨p, hp, fun a h => ha a (hm a h)⟩
end Go.Proofs.Ytpfkfbbekfkcgaa.P
end
section
namespace Go.Proofs.Ytpfkfbbekfkcgaa.P
open Go.RowKit Go.Proofs.YtpfkfbbekfkcgaaW.PrintWords Go.Proofs.YtpfkfbbekfkcgaaW.PrintLast Go.Proofs.YtpfkfbbekfkcgaaW.PrintMore
set_option linter.unusedVariables false
set_option linter.unusedSimpArgs false
theorem Ev.pos {α : Type} {c : Prop} [Decidable c] {f g : Nat → Option α} {r : α} (h : c) (H : Ev f r) : Ev (fun k => if c then f k else g k) r := by
  simpa only [if_pos h] using H
theorem Ev.neg {α : Type} {c : Prop} [Decidable c] {f g : Nat → Option α} {r : α} (h : ¬ c) (H : Ev g r) : Ev (fun k => if c then f k else g k) r := by
  simpa only [if_neg h] using H
theorem Ev.have {α : Type} {x : Option α} {r : α} (h : x = some r) : Ev (fun _ => x) r := ⟨0, fun _ _ => h⟩
theorem w_nat (n : Nat) (h : n ≤ 4611686018427387904) : wrap64 ((n : Int) + 1) = ((n + 1 : Nat) : Int) := by unfold wrap64; omega
theorem drop_at {α : Type} (l : List α) (n : Nat) (h : n < l.length) : l.drop n = l[n] :: l.drop (n + 1) := List.drop_eq_getElem_cons h
theorem take_at {α : Type} (l : List α) (n : Nat) (h : n < l.length) : l.take (n + 1) = l.take n ++ [l[n]] := by rw [List.take_succ_eq_append_getElem h]
theorem rd61_at (l : List S61) (n : Nat) (h : n < l.length) : rd_T61 l (n : Int) = l[n] := by
  unfold rd_T61
  rw [Int.toNat_natCast, List.getD_eq_getElem?_getD, List.getElem?_eq_getElem h]; rfl
theorem rd91_at (l : List S91) (n : Nat) (h : n < l.length) : rd_T91 l (n : Int) = l[n] := by
  unfold rd_T91
  rw [Int.toNat_natCast, List.getD_eq_getElem?_getD, List.getElem?_eq_getElem h]; rfl
def g91 (s : S61) : S91 := ⟨s.f0, s.f1⟩
theorem rd91_g (l : List S61) (n : Nat) (h : n < l.length) : rd_T91 (l.map g91) (n : Int) = g91 l[n] := by
  rw [rd91_at _ _ (by simpa using h), List.getElem_map]
theorem is_f (a b c : Int) : pianolaref09_is.f a b c = some (btw b a c) := by
  unfold pianolaref09_is.f pianolaref01_Is.f btw
  by_cases h : b ≤ a
  · have : a ≥ b := h
    simp [h, this]
  · have : ¬ a ≥ b := h
    simp [h, this]
theorem mod_f (a : Int) (h0 : -1000000000000000 ≤ a) (h1 : a ≤ 1000000000000000) : pianolaref09_mod.f a = some (a % 251) := of_f a h0 h1
theorem same_ev (l : List S61) (hn : l.length ≤ 1000000) : Ev (fun k => pianolalaw09_same.f k l (l.map g91)) true := by
  unfold pianolalaw09_same.f
  refine Ev.pos (by simp) ?_
  have key : ∀ (d n : Nat), n + d = l.length → Ev (fun k => pianolalaw09_same.l0 k l (l.map g91) (n : Int)) true := by
    intro d
    induction d with
    | zero =>
      intro n hd
      refine Ev.step (fun k => by rw [pianolalaw09_same.l0]) ?_
      exact Ev.neg (by omega) (Ev.now _)
    | succ d ih =>
      intro n hd
      have hlt : n < l.length := by omega
      refine Ev.step (fun k => by rw [pianolalaw09_same.l0]) ?_
      refine Ev.pos (by omega) (Ev.pos (by omega) (Ev.pos (by rw [List.length_map]; omega) ?_))
      rw [rd61_at l n hlt, rd91_g l n hlt, w_nat n (by omega)]
      refine Ev.neg (by simp [g91]) ?_
      exact ih (n + 1) (by omega)
  exact key l.length 0 (by omega)
end Go.Proofs.Ytpfkfbbekfkcgaa.P
end
section
namespace Go.Proofs.Ytpfkfbbekfkcgaa.P
open Go.RowKit Go.Proofs.YtpfkfbbekfkcgaaW.PrintWords Go.Proofs.YtpfkfbbekfkcgaaW.PrintLast Go.Proofs.YtpfkfbbekfkcgaaW.PrintMore
set_option linter.unusedVariables false
set_option linter.unusedSimpArgs false
theorem any_at (l : List S61) (n : Nat) (h : n < l.length) (P : S61 → Bool) : (l.take (n + 1)).any P = ((l.take n).any P || P l[n]) := by
  rw [take_at l n h, List.any_append]; simp
theorem refcheck_inner (l : List S61) (hl : l.length ≤ 20) (n : Nat) (hn : n < l.length) (R : Int)
    (H : (l.take n).any (fun t => t.f0 == l[n].f0) = false → Ev (fun k => pianolaref09_check.l0 k (l.map g91) ((n + 1 : Nat) : Int)) R)
    (H' : (l.take n).any (fun t => t.f0 == l[n].f0) = true → R = 9) :
    ∀ (d m : Nat), m + d = n → (l.take m).any (fun t => t.f0 == l[n].f0) = false → Ev (fun k => pianolaref09_check.l1 k (l.map g91) (n : Int) (m : Int)) R := by
  intro d
  induction d with
  | zero =>
    intro m hm ha
    refine Ev.step (fun k => by rw [pianolaref09_check.l1]) ?_
    refine Ev.neg (by omega) ?_
    obtain rfl : m = n := by omega
    rw [w_nat m (by omega)]
    exact H ha
  | succ d ih =>
    intro m hm ha
    have hlt : m < l.length := by omega
    refine Ev.step (fun k => by rw [pianolaref09_check.l1]) ?_
    refine Ev.pos (by omega) (Ev.pos (by omega) (Ev.pos (by simp; omega) (Ev.pos (by omega) (Ev.pos (by simp; omega) ?_))))
    rw [rd91_g l m hlt, rd91_g l n hn, w_nat m (by omega)]
    by_cases c : l[m].f0 = l[n].f0
    · refine Ev.pos c (Ev.have ?_)
      rw [H']
      rw [List.any_eq_true]
      exact ⟨l[m], by rw [List.mem_take_iff_getElem]; exact ⟨m, by omega, rfl⟩, by simpa using c⟩
    · refine Ev.neg c (ih (m + 1) (by omega) ?_)
      rw [any_at l m hlt, ha]
      simpa using c
theorem refcheck_ev (need : Int) (l : List S61) : Ev (fun k => pianolaref09_check.f k need (l.map g91)) (checkE need l) := by
  unfold pianolaref09_check.f checkE
  rw [is_f]
  refine Ev.bind (Ev.now _) ?_
  by_cases b : btw 1 need 8 = true
  · refine Ev.pos b ?_
    simp only [b, Bool.true_eq_false, if_false]
    by_cases hl : l.length > 20
    · refine Ev.pos (by simp; omega) (Ev.have ?_)
      rw [if_pos hl]
    · refine Ev.neg (by simp; omega) ?_
      rw [if_neg hl]
      have key : ∀ (d n : Nat), n + d = l.length → Ev (fun k => pianolaref09_check.l0 k (l.map g91) (n : Int)) (scan (l.take n) (l.drop n)) := by
        intro d
        induction d with
        | zero =>
          intro n hd
          refine Ev.step (fun k => by rw [pianolaref09_check.l0]) ?_
          refine Ev.neg (by simp; omega) (Ev.have ?_)
          rw [List.drop_of_length_le (by omega)]; rfl
        | succ d ih =>
          intro n hd
          have hlt : n < l.length := by omega
          refine Ev.step (fun k => by rw [pianolaref09_check.l0]) ?_
          refine Ev.pos (by simp; omega) (Ev.pos (by omega) ?_)
          rw [rd91_g l n hlt, is_f, is_f, drop_at l n hlt]
          refine Ev.bind (Ev.now _) ?_
          have hi : Ev (fun k => pianolaref09_check.j1 k (l.map g91) (n : Int) (!(btw 1 l[n].f0 20 && btw 0 l[n].f1 250))) (scan (l.take n) (l[n] :: l.drop (n + 1))) := by
            refine Ev.step (fun k => by rw [pianolaref09_check.j1]) ?_
            unfold scan
            by_cases c : (btw 1 l[n].f0 20 && btw 0 l[n].f1 250) = true
            · refine Ev.neg (by simp [c]) ?_
              rw [if_neg (by simp [c])]
              refine refcheck_inner l (by omega) n hlt _ (fun ha => ?_) (fun ha => ?_) n 0 (by omega) rfl
              · rw [if_neg (by rw [ha]; simp), ← take_at l n hlt]
                exact ih (n + 1) (by omega)
              · rw [if_pos ha]
            · rw [Bool.not_eq_true] at c
              refine Ev.pos (by rw [c]; rfl) (Ev.have ?_)
              rw [if_pos c]
          by_cases c1 : btw 1 l[n].f0 20 = true
          · refine Ev.pos c1 (Ev.bind (Ev.now _) ?_)
            have := hi
            rw [c1, Bool.true_and] at this
            exact this
          · refine Ev.neg c1 ?_
            have := hi
            rw [Bool.not_eq_true] at c1
            rw [c1, Bool.false_and] at this
            exact this
      have := key l.length 0 (by omega)
      exact this
  · refine Ev.neg b (Ev.have ?_)
    simp [b]
theorem scan_nd : ∀ (l b : List S61), scan b l = 0 → (b.map S61.f0).Nodup → ((b ++ l).map S61.f0).Nodup
  | [], b, _, hb => by rwa [List.append_nil]
  | s :: r, b, h, hb => by
    unfold scan at h
    by_cases c1 : (btw 1 s.f0 20 && btw 0 s.f1 250) = false
    · rw [if_pos c1] at h; omega
    · rw [if_neg c1] at h
      by_cases c2 : (b.any fun t => t.f0 == s.f0) = true
      · rw [if_pos c2] at h; omega
      · rw [if_neg c2] at h
        have := scan_nd r (b ++ [s]) h (by
          rw [List.map_append, List.nodup_append]
          refine ⟨hb, by simp, fun x hx y hy e => c2 ?_⟩
          obtain ⟨t, ht, rfl⟩ := List.mem_map.1 hx
          simp only [List.map_cons, List.map_nil, List.mem_singleton] at hy
          exact List.any_eq_true.2 ⟨t, ht, by simp [e, hy]⟩)
        rwa [List.append_assoc, List.singleton_append] at this
structure Fine (need : Int) (l : List S61) : Prop where
  n0 : 1 ≤ need
  n1 : need ≤ 8
  len : l.length ≤ 20
  good : ∀ s ∈ l, Good s
  kd : KD l
theorem checkE_fine {need : Int} {l : List S61} (h : checkE need l = 0) : Fine need l := by
  obtain ⟨a, b, c, d, e⟩ := checkE_ok h
  refine ⟨a, b, c, d, ?_, fun s hs => ?_, fun s hs => ?_⟩
  · have := scan_nd l [] e List.nodup_nil
    simpa using this
  · have := d s hs
    exact ⟨by have := this.1; omega, by have := this.2.1; omega⟩
  · have := d s hs
    exact ⟨this.2.2.1, this.2.2.2⟩
theorem vcheck_f (need : Int) (l : List S61) : vault_check.f need l = some (checkE need l) := rfl
theorem given_ev (l : List S61) (h : l.length ≤ 1000000) : Ev (fun k => pianolalaw09_given.f k l) (l.map g91) := by
  unfold pianolalaw09_given.f
  have key : ∀ (d n : Nat), n + d = l.length → Ev (fun k => pianolalaw09_given.l0 k l ((l.take n).map g91) (n : Int)) (l.map g91) := by
    intro d
    induction d with
    | zero =>
      intro n hd
      refine Ev.step (fun k => by rw [pianolalaw09_given.l0]) ?_
      refine Ev.neg (by omega) (Ev.have ?_)
      rw [List.take_of_length_le (by omega)]
    | succ d ih =>
      intro n hd
      have hlt : n < l.length := by omega
      refine Ev.step (fun k => by rw [pianolalaw09_given.l0]) ?_
      refine Ev.pos (by omega) (Ev.pos (by omega) (Ev.pos (by simp; omega) ?_))
      rw [rd61_at l n hlt, w_nat n (by omega)]
      have := ih (n + 1) (by omega)
      rw [take_at l n hlt, List.map_append] at this
      exact this
  exact key l.length 0 (by omega)
end Go.Proofs.Ytpfkfbbekfkcgaa.P
end
section
namespace Go.Proofs.Ytpfkfbbekfkcgaa.P
open Go.RowKit Go.Proofs.YtpfkfbbekfkcgaaW.PrintWords Go.Proofs.YtpfkfbbekfkcgaaW.PrintLast Go.Proofs.YtpfkfbbekfkcgaaW.PrintMore
set_option linter.unusedVariables false
set_option linter.unusedSimpArgs false
def addS (a b : List S61) : List S61 := List.zipWith (fun s t => (⟨s.f0, (s.f1 + t.f1) % 251⟩ : S61)) a b
theorem addS_len {a b : List S61} (h : a.length = b.length) : (addS a b).length = a.length := by simp [addS, h]
theorem addS_take {a b : List S61} (h : a.length = b.length) (n : Nat) (hn : n < a.length) : (addS a b).take (n + 1) = (addS a b).take n ++ [⟨a[n].f0, (a[n].f1 + (b[n]'(by omega)).f1) % 251⟩] := by
  rw [take_at _ n (by rw [addS_len h]; exact hn)]
  simp [addS]
def addR (a b : List S61) : List S61 × Int :=
  if checkE 1 a ≠ 0 then ([], checkE 1 a) else if checkE 1 b ≠ 0 then ([], checkE 1 b) else if eqK a b = true then (addS a b, 0) else ([], 14)
theorem Add_ev (a b : List S61) : Ev (fun k => vault_Add.f k a b) (addR a b) := by
  unfold vault_Add.f addR
  refine Ev.bind (Ev.now _) ?_
  refine Ev.step (fun k => by rw [vault_Add.l0]) ?_
  refine Ev.pos (by simp) (Ev.pos (by omega) (Ev.pos (by simp) ?_))
  rw [show rd_L4 [a, b] 0 = a from rfl, vcheck_f]
  refine Ev.bind (Ev.now _) ?_
  by_cases h1 : checkE 1 a = 0
  · refine Ev.pos h1 ?_
    rw [if_neg (by simpa using h1), show wrap64 (0 + 1) = 1 by unfold wrap64; omega]
    refine Ev.step (fun k => by rw [vault_Add.l0]) ?_
    refine Ev.pos (by simp) (Ev.pos (by omega) (Ev.pos (by simp) ?_))
    rw [show rd_L4 [a, b] 1 = b from rfl, vcheck_f]
    refine Ev.bind (Ev.now _) ?_
    by_cases h2 : checkE 1 b = 0
    · refine Ev.pos h2 ?_
      rw [if_neg (by simpa using h2), show wrap64 (1 + 1) = 2 by unfold wrap64; omega]
      refine Ev.step (fun k => by rw [vault_Add.l0]) ?_
      refine Ev.neg (by simp) ?_
      have fa := checkE_fine h1
      have fb := checkE_fine h2
      have la := fa.len
      rw [show equal_keepers.f a b = some (eqK a b) by unfold equal_keepers.f; rw [if_pos (by omega)]]
      refine Ev.bind (Ev.now _) ?_
      by_cases e : eqK a b = true
      · refine Ev.pos e ?_
        rw [if_pos e]
        have hl := eqK_len e
        have key : ∀ (d n : Nat), n + d = a.length → Ev (fun k => vault_Add.l1 k b ((addS a b).take n) a (a.length : Int) (n : Int)) (addS a b, 0) := by
          intro d
          induction d with
          | zero =>
            intro n hd
            refine Ev.step (fun k => by rw [vault_Add.l1]) ?_
            refine Ev.neg (by omega) (Ev.have ?_)
            rw [List.take_of_length_le (by rw [addS_len hl]; omega)]
          | succ d ih =>
            intro n hd
            have hn : n < a.length := by omega
            have hb : n < b.length := by omega
            refine Ev.step (fun k => by rw [vault_Add.l1]) ?_
            refine Ev.pos (by omega) (Ev.pos (by omega) (Ev.pos (by omega) (Ev.pos (by omega) ?_)))
            rw [rd61_at a n hn, rd61_at b n hb, plus_f _ _ (fa.kd.v _ (List.getElem_mem hn)) (fb.kd.v _ (List.getElem_mem hb))]
            refine Ev.bind (Ev.now _) (Ev.pos (by rw [List.length_take]; omega) ?_)
            rw [w_nat n (by omega), ← addS_take hl n hn]
            exact ih (n + 1) (by omega)
        have := key a.length 0 (by omega)
        exact this
      · refine Ev.neg e (Ev.have ?_)
        rw [if_neg e]
    · refine Ev.neg h2 (Ev.have ?_)
      rw [if_pos h2]
  · refine Ev.neg h1 (Ev.have ?_)
    rw [if_pos h1]
theorem eqK_at : ∀ {a b : List S61}, a.length = b.length → (∀ i (h : i < a.length) (h' : i < b.length), a[i].f0 = b[i].f0) → eqK a b = true
  | [], [], _, _ => rfl
  | s :: a, t :: b, h, he => by
    have h0 := he 0 (by simp) (by simp)
    simp only [eqK, Bool.and_eq_true]
    exact ⟨by simpa using h0, eqK_at (by simpa using h) (fun i h h' => he (i + 1) (by simpa using h) (by simpa using h'))⟩
  | [], _ :: _, h, _ => by simp at h
  | _ :: _, [], h, _ => by simp at h
theorem eqK_get : ∀ {a b : List S61}, eqK a b = true → ∀ i (h : i < a.length) (h' : i < b.length), a[i].f0 = b[i].f0
  | [], [], _, _, h, _ => by simp at h
  | s :: a, t :: b, he, 0, _, _ => by
    simp only [eqK, Bool.and_eq_true] at he
    simpa using he.1
  | s :: a, t :: b, he, i + 1, h, h' => by
    simp only [eqK, Bool.and_eq_true] at he
    simpa using eqK_get he.2 i (by simpa using h) (by simpa using h')
  | [], _ :: _, he, _, _, _ => by simp [eqK] at he
  | _ :: _, [], he, _, _, _ => by simp [eqK] at he
theorem refAdd_ev (a b : List S61) : Ev (fun k => pianolaref09_Add.f k (a.map g91) (b.map g91)) ((addR a b).1.map g91, (addR a b).2) := by
  unfold pianolaref09_Add.f addR
  refine Ev.bind (refcheck_ev 1 a) ?_
  by_cases h1 : checkE 1 a = 0
  · refine Ev.pos h1 (Ev.bind (refcheck_ev 1 b) ?_)
    rw [if_neg (by simpa using h1)]
    refine Ev.step (fun k => by rw [pianolaref09_Add.j0]) ?_
    by_cases h2 : checkE 1 b = 0
    · refine Ev.pos h2 ?_
      rw [if_neg (by simpa using h2)]
      refine Ev.step (fun k => by rw [pianolaref09_Add.j1]) ?_
      have fa := checkE_fine h1
      have fb := checkE_fine h2
      have la := fa.len
      have lb := fb.len
      by_cases hl : a.length = b.length
      · refine Ev.neg (by simp [hl]) ?_
        refine Ev.step (fun k => by rw [pianolaref09_Add.j2]) ?_
        refine Ev.pos h2 ?_
        have key : ∀ (d n : Nat), n + d = a.length → (∀ i (h : i < a.length) (h' : i < b.length), i < n → a[i].f0 = b[i].f0) → Ev (fun k => pianolaref09_Add.l0 k (a.map g91) (b.map g91) (((addS a b).take n).map g91) (n : Int)) ((if eqK a b = true then (addS a b, (0 : Int)) else ([], 14)).1.map g91, (if eqK a b = true then (addS a b, (0 : Int)) else ([], 14)).2) := by
          intro d
          induction d with
          | zero =>
            intro n hd he
            refine Ev.step (fun k => by rw [pianolaref09_Add.l0]) ?_
            refine Ev.neg (by simp; omega) (Ev.have ?_)
            rw [if_pos (eqK_at hl (fun i h h' => he i h h' (by omega))), List.take_of_length_le (by rw [addS_len hl]; omega)]
          | succ d ih =>
            intro n hd he
            have hn : n < a.length := by omega
            have hb : n < b.length := by omega
            obtain ⟨p0, p1⟩ := fa.kd.v _ (List.getElem_mem hn)
            obtain ⟨q0, q1⟩ := fb.kd.v _ (List.getElem_mem hb)
            refine Ev.step (fun k => by rw [pianolaref09_Add.l0]) ?_
            refine Ev.pos (by simp; omega) (Ev.pos (by omega) (Ev.pos (by simp; omega) ?_))
            rw [rd91_g a n hn, rd91_g b n hb]
            simp only [g91]
            by_cases c : a[n].f0 = b[n].f0
            · refine Ev.pos c ?_
              rw [show wrap64 (a[n].f1 + b[n].f1) = a[n].f1 + b[n].f1 by unfold wrap64; omega, mod_f _ (by omega) (by omega)]
              refine Ev.bind (Ev.now _) (Ev.pos (by simp; omega) ?_)
              have := ih (n + 1) (by omega) (fun i h h' hi => by
                by_cases hh : i = n
                · subst hh; exact c
                · exact he i h h' (by omega))
              rw [addS_take hl n hn, List.map_append] at this
              rw [w_nat n (by omega)]
              exact this
            · refine Ev.neg c (Ev.have ?_)
              rw [if_neg (fun e => c (eqK_get e n hn hb))]
              rfl
        exact key a.length 0 (by omega) (fun i _ _ h => absurd h (by omega))
      · refine Ev.pos (by simp; omega) ?_
        refine Ev.step (fun k => by rw [pianolaref09_Add.j2]) ?_
        refine Ev.neg (by decide) (Ev.have ?_)
        rw [if_neg (fun e => hl (eqK_len e))]
        rfl
    · refine Ev.neg h2 ?_
      rw [if_pos h2]
      refine Ev.step (fun k => by rw [pianolaref09_Add.j1]) ?_
      refine Ev.neg (by simp) ?_
      refine Ev.step (fun k => by rw [pianolaref09_Add.j2]) ?_
      exact Ev.neg h2 (Ev.have rfl)
  · refine Ev.neg h1 ?_
    rw [if_pos h1]
    refine Ev.step (fun k => by rw [pianolaref09_Add.j0]) ?_
    refine Ev.neg h1 ?_
    refine Ev.step (fun k => by rw [pianolaref09_Add.j1]) ?_
    refine Ev.neg (by simp) ?_
    refine Ev.step (fun k => by rw [pianolaref09_Add.j2]) ?_
    exact Ev.neg h1 (Ev.have rfl)
theorem nodup_len {α : Type} [DecidableEq α] : ∀ {l m : List α}, l.Nodup → (∀ x ∈ l, x ∈ m) → l.length ≤ m.length
  | [], _, _, _ => Nat.zero_le _
  | a :: l, m, h, hm => by
    rw [List.nodup_cons] at h
    have h1 := nodup_len (m := m.erase a) h.2 (fun x hx => (List.mem_erase_of_ne (fun e : x = a => h.1 (by rw [← e]; exact hx))).2 (hm x (List.mem_cons_of_mem _ hx)))
    have ha := hm a (List.mem_cons_self ..)
    have := List.length_pos_of_mem ha
    rw [List.length_erase_of_mem ha] at h1
    rw [List.length_cons]
    omega
structure Kp (kp : List Int) (least : Int) : Prop where
  nd : kp.Nodup
  r : ∀ k ∈ kp, 1 ≤ k ∧ k ≤ 20
  le : least ≤ kp.length
theorem Kp.len {kp : List Int} {least : Int} (h : Kp kp least) : kp.length ≤ 20 := by
  have := nodup_len (m := (List.range 20).map fun j : Nat => ((j + 1 : Nat) : Int)) h.nd (fun x hx => by
    have := h.r x hx
    exact List.mem_map.2 ⟨(x - 1).toNat, List.mem_range.2 (by omega), by omega⟩)
  simpa using this
end Go.Proofs.Ytpfkfbbekfkcgaa.P
end
section
namespace Go.Proofs.Ytpfkfbbekfkcgaa.Pure
open Go.RowKit Go.Proofs.Ytpfkfbbekfkcgaa.P Go.Proofs.YtpfkfbbekfkcgaaW.PrintWords Go.Proofs.YtpfkfbbekfkcgaaW.PrintLast
theorem VaultAdds (a b : List S61) (_ : ∀ s ∈ a, (Lit.int .i64 s.f0).wf = true ∧ (Lit.int .i64 s.f1).wf = true) (_ : ∀ s ∈ b, (Lit.int .i64 s.f0).wf = true ∧ (Lit.int .i64 s.f1).wf = true) :
    ∃ k, pianolalaw09_VaultAdds.f k a b = some true := by
  refine Ev.rounds ?_
  unfold pianolalaw09_VaultAdds.f
  have go : ∀ q : Bool, (q = false → a.length ≤ 60 ∧ b.length ≤ 60) → Ev (fun k => pianolalaw09_VaultAdds.j0 k a b q) true := by
    intro q hq
    refine Ev.step (fun k => by rw [pianolalaw09_VaultAdds.j0]) ?_
    by_cases c : q = true
    · exact Ev.pos c (Ev.have rfl)
    · refine Ev.neg c ?_
      obtain ⟨ha, hb⟩ := hq (by simpa using c)
      refine Ev.bind (Add_ev a b) (Ev.bind (given_ev a (by omega)) (Ev.bind (given_ev b (by omega)) (Ev.bind (refAdd_ev a b) (Ev.bind (same_ev _ ?_) (Ev.pos rfl (Ev.pos rfl (Ev.have rfl)))))))
      unfold addR
      split
      · simp
      · split
        · simp
        · split
          · rename_i e
            show (addS a b).length ≤ _
            rw [addS_len (eqK_len e)]
            omega
          · simp
  by_cases h : (a.length : Int) > 60
  · exact Ev.pos h (go true (fun h => by cases h))
  · refine Ev.neg h (go _ (fun hq => ?_))
    have : ¬ (b.length : Int) > 60 := of_decide_eq_false hq
    omega
end Go.Proofs.Ytpfkfbbekfkcgaa.Pure
end
