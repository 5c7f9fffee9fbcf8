/- Words and contracts for a claim. -/
import Derived.Test.YtpfkfbbekfkcgaaVaultHidden2
import Derived.StillTailTactics
section
namespace Go.Proofs.Ytpfkfbbekfkcgaa.P
open Go.RowKit Go.Proofs.YtpfkfbbekfkcgaaW.PrintWords Go.Proofs.YtpfkfbbekfkcgaaW.PrintLast Go.Proofs.YtpfkfbbekfkcgaaW.PrintMore
attribute [local go_sem] max2_int min2_int max_two min_two max_three min_three max_four min_four
set_option linter.unusedVariables false
set_option linter.unusedSimpArgs false
attribute [local go_sem high] eqA61
theorem vault_read.mono_l : ∀ k, (∀ y0 y1 y2 y3, LeO (vault_read.l0 k y0 y1 y2 y3) (vault_read.l0 (k + 1) y0 y1 y2 y3))
  | 0 => fun _ _ _ _ r h => by simp [vault_read.l0] at h
  | k + 1 => by
    have ih0 := vault_read.mono_l k
    · intro y0 y1 y2 y3
      unfold vault_read.l0
      repeat' first
      | (with_reducible exact ih0 _ _ _ _)
      | (with_reducible exact LeO.refl _)
      | (with_reducible exact LeO.none _)
      | (with_reducible refine LeO.ite ?_ ?_)
      | (with_reducible refine LeO.bind ?_ (fun _ => ?_))
      | exact ih0 _ _ _ _
      | exact LeO.none _
      | refine LeO.ite ?_ ?_
      | refine LeO.bind ?_ (fun _ => ?_)
theorem pianolaref09_inverse.mono_l : ∀ k, (∀ y0 y1, LeO (pianolaref09_inverse.l0 k y0 y1) (pianolaref09_inverse.l0 (k + 1) y0 y1))
  | 0 => fun _ _ r h => by simp [pianolaref09_inverse.l0] at h
  | k + 1 => by
    have ih0 := pianolaref09_inverse.mono_l k
    · intro y0 y1
      unfold pianolaref09_inverse.l0
      repeat' first
      | (with_reducible exact ih0 _ _)
      | (with_reducible exact LeO.refl _)
      | (with_reducible exact LeO.none _)
      | (with_reducible refine LeO.ite ?_ ?_)
      | (with_reducible refine LeO.bind ?_ (fun _ => ?_))
      | exact ih0 _ _
      | exact LeO.none _
      | refine LeO.ite ?_ ?_
      | refine LeO.bind ?_ (fun _ => ?_)
theorem pianolaref09_inverse.mono : ∀ a0 k, LeO (pianolaref09_inverse.f k a0) (pianolaref09_inverse.f (k + 1) a0) := by
  intro a0 k
  have ih0 := pianolaref09_inverse.mono_l k
  unfold pianolaref09_inverse.f
  repeat' first
      | (with_reducible exact ih0 _ _)
      | (with_reducible exact LeO.refl _)
      | (with_reducible exact LeO.none _)
      | (with_reducible refine LeO.ite ?_ ?_)
      | (with_reducible refine LeO.bind ?_ (fun _ => ?_))
      | exact ih0 _ _
      | exact LeO.none _
      | refine LeO.ite ?_ ?_
      | refine LeO.bind ?_ (fun _ => ?_)
end Go.Proofs.Ytpfkfbbekfkcgaa.P
end
section
namespace Go.Proofs.Ytpfkfbbekfkcgaa.P
open Go.RowKit Go.Proofs.YtpfkfbbekfkcgaaW.PrintWords Go.Proofs.YtpfkfbbekfkcgaaW.PrintLast Go.Proofs.YtpfkfbbekfkcgaaW.PrintMore
attribute [local go_sem] max2_int min2_int max_two min_two max_three min_three max_four min_four
set_option linter.unusedVariables false
set_option linter.unusedSimpArgs false
def pianolaref09_agree.f (k : Nat) (a0 : Int) (l1 : List (S91)) : Option (Bool) := if (l1.length : Int) ≤ a0 then (some true) else (if 0 ≤ a0 then (if a0 ≤ (l1.length : Int) then ((pianolaref09_through.f k (l1.take (a0 : Int).toNat)).bind fun t215 => ((pianolaref09_lie.f k t215 l1).bind fun t218 => (some t218))) else (none)) else (none))
end Go.Proofs.Ytpfkfbbekfkcgaa.P
end
section
namespace Go.Proofs.Ytpfkfbbekfkcgaa.P
open Go.RowKit Go.Proofs.YtpfkfbbekfkcgaaW.PrintWords Go.Proofs.YtpfkfbbekfkcgaaW.PrintLast Go.Proofs.YtpfkfbbekfkcgaaW.PrintMore
attribute [local go_sem] max2_int min2_int max_two min_two max_three min_three max_four min_four
set_option linter.unusedVariables false
set_option linter.unusedSimpArgs false
attribute [local go_sem high] eqA61
def pianolalaw09_Lock_made.l0 : Nat → List Int → List Int → Int → Option (List Int)
  | 0, _, _, _ => none
  | k + 1, x0, x3, x4 => if x4 < (x0.length : Int) then (if x4 < 8 then (if 0 ≤ x4 then (if x3.length < 17592186044416 then (pianolalaw09_Lock_made.l0 k x0 (x3 ++ [Int.tmod (wrap64 (rd x0 x4)) 251]) (wrap64 (x4 + 1))) else (none)) else (none)) else (if (x3.length : Int) = 0 then (some (([0] : List Int))) else (some x3))) else (if (x3.length : Int) = 0 then (some (([0] : List Int))) else (some x3))
def pianolalaw09_Lock_made.f (k : Nat) (l0 : List Int) : Option (List Int) := pianolalaw09_Lock_made.l0 k l0 ([] : List Int) 0
set_option maxHeartbeats 8000000 in
set_option maxRecDepth 100000 in
theorem pianolalaw09_Lock_made.calls (k : Nat) (A0 : Option Addr) (c0 : Nat) (l0 : List Int) (r : List Int) (w : World) (hr0 : Kd.C (Kd.int .u8) w A0 l0.length l0) (hc0 : l0.length ≤ c0) (h : pianolalaw09_Lock_made.f k l0 = some r) :
    Calls Try.prog 41 #[.slice A0 l0.length c0] w fun e w' => ∃ v0_ : Value, e = .returned (v0_) ∧ Kd.R (Kd.int .i64) 3 w' w.heap.size (fun _ => True) v0_ r ∧ Below w.heap.size w w' := by
  have HR0 := Aside0.mk hr0
  have HC0 := Aside0.mk hc0
  clear hr0 hc0
  have HB := Aside0.mk (Below.refl w.heap.size w)
  have H : (pianolalaw09_Lock_made.l0 k l0 ([] : List Int) 0) = some r := h
  clear h
  have H' := Aside0.mk H
  clear H
  go_enter Try.func41, Try.ntmps41
  go_wp2
  go_loopg [3, 4] k (fun kq v3 v4 w' => ∃ (x3_1 : List Int) (x4_1 : Int), v4 = .int .i64 x4_1 ∧ Aside0 (pianolalaw09_Lock_made.l0 kq l0 x3_1 x4_1 = some r) ∧ Aside0 (kq ≤ k) ∧ Aside0 (Kd.R (Kd.int .i64) 3 w' w.heap.size (fun _ => True) v3 x3_1) ∧ Aside0 (Below w.heap.size w w'))
  case atStart => exact ⟨(([] : List Int)), (0), (by first | rfl | (simp; done) | (simp [*]; done)), H', ⟨Nat.le_refl _⟩, ⟨by first | exact Kd.R_nil _ _ _ _ _ | exact Kd.N_nil _ _ _ _ _ | exact Kd.V_nil _ _ _ _ _ | exact Kd.Q_nil _ _ _ _ _ | exact Kd.S_nil _ _ _ _ _⟩, ⟨by repeat (first | (with_reducible first | exact HB.out | apply below_alloc | apply pw_below_drewN | apply below_drew1) | exact HB.out)⟩⟩
  case round =>
    clear H'
    obtain ⟨x3_1, x4_1, rfl, HA, HK1, HO_3, HB⟩ := hrel
    cases gk with
    | zero => exact absurd HA.out (by simp [pianolalaw09_Lock_made.l0])
    | succ k1 =>
      have H := HA.out
      clear HA
      simp only [pianolalaw09_Lock_made.l0] at H
      by_cases c2 : x4_1 < (l0.length : Int)
      · rw [if_pos c2] at H
        have c2b0 : decide (x4_1 < (l0.length : Int)) = true := decide_eq_true c2
        clear c2
        by_cases c3 : x4_1 < 8
        · rw [if_pos c3] at H
          have c3b0 : decide (x4_1 < 8) = true := decide_eq_true c3
          clear c3
          by_cases c4 : 0 ≤ x4_1
          · rw [if_pos c4] at H
            have c4b0 : decide (0 ≤ x4_1) = true := decide_eq_true c4
            clear c4
            by_cases c5 : x3_1.length < 17592186044416
            · rw [if_pos c5] at H
              have LMc5 := Aside0.mk c5
              clear c5
              obtain ⟨y410, hy410⟩ : ∃ y_ : List Int, y_ = (x3_1 ++ [Int.tmod (wrap64 (rd l0 x4_1)) 251]) := ⟨_, rfl⟩
              replace H : (pianolalaw09_Lock_made.l0 k1 l0 y410 (wrap64 (x4_1 + 1))) = some r := by first | (rw [hy410]; with_reducible exact H) | (have H2_ := (Option.bind_some _ _).symm.trans H; rw [hy410]; with_reducible exact H2_) | (have H2_ := (Option.bind_some _ _).symm.trans H; with_reducible exact H2_) | with_reducible exact H | (rw [hy410]; exact H) | exact H
              have Ny410 := Aside0.mk hy410
              clear hy410
              have H' := Aside0.mk H
              clear H
              have p409 : 0 ≤ (x4_1 : Int) := of_decide_eq_true (by first | (with_reducible assumption) | assumption)
              have q409 : x4_1 < (l0.length : Int) := of_decide_eq_true (by first | (with_reducible assumption) | assumption)
              obtain ⟨ad409, e409, hx409_0⟩ := Kd.at_int HR0.out x4_1 p409 q409
              cases e409
              replace hx409_0 := (HB.out.cell (World.block_lt_of_cell? w _ hx409_0)).trans hx409_0
              replace p409 := eq_true p409
              replace q409 := eq_true q409
              go_wp2_with (first | ((with_reducible refine gate_builtin (b := .append) (xs := #[.tmp 15, .tmp 22]) rfl ?_); at_builtin; refine Kd.R_append (Kd.int .i64) (w0 := w) w.heap.size rfl (.tmp 15) (.tmp 22) 22 3 (.int .i64 0) 8 rfl Try.underlying22 info3 rfl (by decide) (by omega) u3 x3_1 (Int.tmod (wrap64 (rd l0 x4_1)) 251) [.int .i64 (Int.tmod (wrap64 (rd l0 x4_1)) 251)] (fun _ => True) (fun _ => False) rfl rfl ?aP (fun _ hk => hk.elim) ?aF ?aO ?aB ?aS ?aL ?_; (case aP => exact rfl); (case aB => exact (by repeat (first | (with_reducible first | exact HB.out | apply below_alloc | apply pw_below_drewN | apply below_drew1) | exact HB.out))); (case aF => exact (fun _ _ => trivial)); (case aO => exact (by (with_reducible repeat (first | apply Kd.R_alloc | apply Kd.R_drewN | apply Kd.R_drew)); exact HO_3.out)); (case aS => exact (below_size (by repeat (first | (with_reducible first | exact HB.out | apply below_alloc | apply pw_below_drewN | apply below_drew1) | exact HB.out)))); (case aL => have := LMc5.out; omega); intro v411 w6 ho hb hg hat; rw [← Ny410.out] at ho; have n0_ := Aside0.mk (hb); have n1_ := Aside0.mk (ho); clear HB; clear HO_3; have HB := n0_; have HO412 := n1_; clear n0_ n1_; clear ho hb hg hat))
              go_roundg k1
              case measure => have := HK1.out; omega
              case rel => exact ⟨(y410), (wrap64 (x4_1 + 1)), (by first | rfl | (simp; done) | (simp [*]; done)), H', ⟨by have := HK1.out; omega⟩, ⟨by (with_reducible repeat (first | apply Kd.R_alloc | apply Kd.R_drewN | apply Kd.R_drew)); exact HO412.out⟩, ⟨by repeat (first | (with_reducible first | exact HB.out | apply below_alloc | apply pw_below_drewN | apply below_drew1) | exact HB.out)⟩⟩
            · rw [if_neg c5] at H
              exact absurd H (by simp)
          · rw [if_neg c4] at H
            exact absurd H (by simp)
        · rw [if_neg c3] at H
          have c3b0 : decide (x4_1 < 8) = false := decide_eq_false c3
          clear c3
          by_cases c7 : (x3_1.length : Int) = 0
          · rw [if_pos c7] at H
            have c7b0 : ((x3_1.length : Int) == 0) = true := beq_iff_eq.mpr c7
            have c7b1 : ((x3_1.length : Int) != 0) = false := bne_eq_false_iff_eq.mpr c7
            clear c7
            obtain ⟨y413, hy413⟩ : ∃ y_ : List Int, y_ = (([0] : List Int)) := ⟨_, rfl⟩
            replace H : (some y413) = some r := by first | (rw [hy413]; with_reducible exact H) | (have H2_ := (Option.bind_some _ _).symm.trans H; rw [hy413]; with_reducible exact H2_) | (have H2_ := (Option.bind_some _ _).symm.trans H; with_reducible exact H2_) | with_reducible exact H | (rw [hy413]; exact H) | exact H
            have Ny413 := Aside0.mk hy413
            clear hy413
            obtain rfl := Option.some.inj H
            obtain ⟨Ao8, co8, eo8⟩ := Kd.R_slice HO_3.out
            subst eo8
            go_wp2_with (first | ((with_reducible refine gate_dst (N := 27) rfl ?_); refine Kd.R_lit (Kd.int .i64) _ 3 ?hg (N := 27) ?hd (xs := ([0] : List Int)) (inner := [.int .i64 0]) (ok := fun _ => True) (okp := fun _ => True) ?hr ?hp (fun _ hk => hk) trivial (Below.refl _ _) (Nat.le_refl _) (by simp) ?_; (case hd => rfl); (case hg => rfl); (case hr => first | (go_simp; done) | (go_simp; rfl)); (case hp => exact (Reps.one (show Kd.M (Kd.int .i64) _ _ _ 0 [.int .i64 0] from rfl) (Reps.none _ _))); intro v414 w9 ho10 hb hg_ hnew_; clear hg_ hnew_; (first | rw [← Ny413.out] at ho10 | (simp only [Int.reduceToNat] at ho10; rw [← Ny413.out] at ho10)); have n0_ := Aside0.mk (Kd.R_elder' (by (with_reducible repeat (first | apply Kd.R_alloc | apply Kd.R_drewN | apply Kd.R_drew)); exact HO_3.out) (Kd.R_base ho10) hb); have n1_ := Aside0.mk (Kd.R_lower (Kd.R_new' ho10 (Kd.R_lt (by (with_reducible repeat (first | apply Kd.R_alloc | apply Kd.R_drewN | apply Kd.R_drew)); exact HO_3.out))) (below_size (by repeat (first | (with_reducible first | exact HB.out | apply below_alloc | apply pw_below_drewN | apply below_drew1) | exact HB.out)))); have n2_ := Aside0.mk (below_step (by repeat (first | (with_reducible first | exact HB.out | apply below_alloc | apply pw_below_drewN | apply below_drew1) | exact HB.out)) hb); clear HO_3; clear HB; have HO_3 := n0_; have HO415 := n1_; have HB := n2_; clear n0_ n1_ n2_; clear hb ho10))
            go_ret
            exact ⟨_, by first | rfl | (simp [errW_none, errW_some] <;> rfl) | (simp [*, errW_none, errW_some] <;> rfl), by (with_reducible repeat (first | apply Kd.R_alloc | apply Kd.R_drewN | apply Kd.R_drew)); exact Kd.R_mono HO415.out (fun _ hk => trivial), by repeat (first | (with_reducible first | exact HB.out | apply below_alloc | apply pw_below_drewN | apply below_drew1) | exact HB.out)⟩
          · rw [if_neg c7] at H
            have c7b0 : ((x3_1.length : Int) == 0) = false := beq_eq_false_iff_ne.mpr c7
            have c7b1 : ((x3_1.length : Int) != 0) = true := bne_iff_ne.mpr c7
            have c7b2 : ¬ (x3_1 = []) := fun h_ => c7 (by rw [h_]; rfl)
            obtain rfl := Option.some.inj H
            obtain ⟨Ao11, co11, eo11⟩ := Kd.R_slice HO_3.out
            subst eo11
            go_wp2
            go_ret
            exact ⟨_, by first | rfl | (simp [errW_none, errW_some] <;> rfl) | (simp [*, errW_none, errW_some] <;> rfl), by (with_reducible repeat (first | apply Kd.R_alloc | apply Kd.R_drewN | apply Kd.R_drew)); exact HO_3.out, by repeat (first | (with_reducible first | exact HB.out | apply below_alloc | apply pw_below_drewN | apply below_drew1) | exact HB.out)⟩
      · rw [if_neg c2] at H
        have c2b0 : decide (x4_1 < (l0.length : Int)) = false := decide_eq_false c2
        clear c2
        by_cases c12 : (x3_1.length : Int) = 0
        · rw [if_pos c12] at H
          have c12b0 : ((x3_1.length : Int) == 0) = true := beq_iff_eq.mpr c12
          have c12b1 : ((x3_1.length : Int) != 0) = false := bne_eq_false_iff_eq.mpr c12
          clear c12
          obtain ⟨y416, hy416⟩ : ∃ y_ : List Int, y_ = (([0] : List Int)) := ⟨_, rfl⟩
          replace H : (some y416) = some r := by first | (rw [hy416]; with_reducible exact H) | (have H2_ := (Option.bind_some _ _).symm.trans H; rw [hy416]; with_reducible exact H2_) | (have H2_ := (Option.bind_some _ _).symm.trans H; with_reducible exact H2_) | with_reducible exact H | (rw [hy416]; exact H) | exact H
          have Ny416 := Aside0.mk hy416
          clear hy416
          obtain rfl := Option.some.inj H
          obtain ⟨Ao13, co13, eo13⟩ := Kd.R_slice HO_3.out
          subst eo13
          go_wp2_with (first | ((with_reducible refine gate_dst (N := 27) rfl ?_); refine Kd.R_lit (Kd.int .i64) _ 3 ?hg (N := 27) ?hd (xs := ([0] : List Int)) (inner := [.int .i64 0]) (ok := fun _ => True) (okp := fun _ => True) ?hr ?hp (fun _ hk => hk) trivial (Below.refl _ _) (Nat.le_refl _) (by simp) ?_; (case hd => rfl); (case hg => rfl); (case hr => first | (go_simp; done) | (go_simp; rfl)); (case hp => exact (Reps.one (show Kd.M (Kd.int .i64) _ _ _ 0 [.int .i64 0] from rfl) (Reps.none _ _))); intro v417 w14 ho15 hb hg_ hnew_; clear hg_ hnew_; (first | rw [← Ny416.out] at ho15 | (simp only [Int.reduceToNat] at ho15; rw [← Ny416.out] at ho15)); have n0_ := Aside0.mk (Kd.R_elder' (by (with_reducible repeat (first | apply Kd.R_alloc | apply Kd.R_drewN | apply Kd.R_drew)); exact HO_3.out) (Kd.R_base ho15) hb); have n1_ := Aside0.mk (Kd.R_lower (Kd.R_new' ho15 (Kd.R_lt (by (with_reducible repeat (first | apply Kd.R_alloc | apply Kd.R_drewN | apply Kd.R_drew)); exact HO_3.out))) (below_size (by repeat (first | (with_reducible first | exact HB.out | apply below_alloc | apply pw_below_drewN | apply below_drew1) | exact HB.out)))); have n2_ := Aside0.mk (below_step (by repeat (first | (with_reducible first | exact HB.out | apply below_alloc | apply pw_below_drewN | apply below_drew1) | exact HB.out)) hb); clear HO_3; clear HB; have HO_3 := n0_; have HO418 := n1_; have HB := n2_; clear n0_ n1_ n2_; clear hb ho15))
          go_ret
          exact ⟨_, by first | rfl | (simp [errW_none, errW_some] <;> rfl) | (simp [*, errW_none, errW_some] <;> rfl), by (with_reducible repeat (first | apply Kd.R_alloc | apply Kd.R_drewN | apply Kd.R_drew)); exact Kd.R_mono HO418.out (fun _ hk => trivial), by repeat (first | (with_reducible first | exact HB.out | apply below_alloc | apply pw_below_drewN | apply below_drew1) | exact HB.out)⟩
        · rw [if_neg c12] at H
          have c12b0 : ((x3_1.length : Int) == 0) = false := beq_eq_false_iff_ne.mpr c12
          have c12b1 : ((x3_1.length : Int) != 0) = true := bne_iff_ne.mpr c12
          have c12b2 : ¬ (x3_1 = []) := fun h_ => c12 (by rw [h_]; rfl)
          obtain rfl := Option.some.inj H
          obtain ⟨Ao16, co16, eo16⟩ := Kd.R_slice HO_3.out
          subst eo16
          go_wp2
          go_ret
          exact ⟨_, by first | rfl | (simp [errW_none, errW_some] <;> rfl) | (simp [*, errW_none, errW_some] <;> rfl), by (with_reducible repeat (first | apply Kd.R_alloc | apply Kd.R_drewN | apply Kd.R_drew)); exact HO_3.out, by repeat (first | (with_reducible first | exact HB.out | apply below_alloc | apply pw_below_drewN | apply below_drew1) | exact HB.out)⟩
end Go.Proofs.Ytpfkfbbekfkcgaa.P
end
section
namespace Go.Proofs.Ytpfkfbbekfkcgaa.P
open Go.RowKit Go.Proofs.YtpfkfbbekfkcgaaW.PrintWords Go.Proofs.YtpfkfbbekfkcgaaW.PrintLast Go.Proofs.YtpfkfbbekfkcgaaW.PrintMore
attribute [local go_sem] max2_int min2_int max_two min_two max_three min_three max_four min_four
set_option linter.unusedVariables false
set_option linter.unusedSimpArgs false
attribute [local go_sem high] eqA61
mutual
def pianolalaw09_VaultHidden.j0 : Nat → List Int → List (S61) → List Int → Bool → Int → Int → Option (Bool)
  | 0, _, _, _, _, _, _ => none
  | k + 1, x7, x9, x10, x108, x145000, x145001 => if x108 = true then (some false) else (pianolalaw09_VaultHidden.l0 k x7 x9 x10 (x10.length : Int) 0 x145000 x145001)
def pianolalaw09_VaultHidden.l0 : Nat → List Int → List (S61) → List Int → Int → Int → Int → Int → Option (Bool)
  | 0, _, _, _, _, _, _, _ => none
  | k + 1, x7, x9, x109, x110, x111, x145000, x145001 => if x111 < x110 then (if 0 ≤ x111 then (if x111 < (x109.length : Int) then (if (rd x109 x111) = x111 then (pianolalaw09_VaultHidden.l0 k x7 x9 x109 x110 (wrap64 (x111 + 1)) x145000 x145001) else (some false)) else (none)) else (none)) else (if (x9.length : Int) = 0 then ((pianolalaw09_works.f).bind fun t179 => (some t179)) else (if 0 ≤ (wrap64 ((x9.length : Int) - 1)) then (if (wrap64 ((x9.length : Int) - 1)) ≤ (x9.length : Int) then ((vault_Count.f k (x7.length : Int) (x9.take ((wrap64 ((x9.length : Int) - 1)) : Int).toNat) (Int.tmod (wrap64 (x145000)) 251)).bind fun bt185 => (if bt185.2 = 0 then (if bt185.1 = 251 then ((pianolalaw09_works.f).bind fun t187 => (some t187)) else (some false)) else (some false))) else (none)) else (none)))
end
def pianolalaw09_VaultHidden.f (k : Nat) (l0 : List Int) (l1 : List Int) (a2_0 : Int) (a2_1 : Int) : Option (Bool) := (pianolalaw09_Lock_made.f k l0).bind fun t145 => ((pianolalaw09_some.f k t145 l1 (t145.length : Int)).bind fun t148 => (if 0 ≤ (t145.length : Int) then (if (t145.length : Int) ≤ (t148.length : Int) then ((some (t148.take ((t145.length : Int) : Int).toNat : List (S61))).bind fun y151 => (if 0 ≤ (wrap64 ((t145.length : Int) - 1)) then (if (wrap64 ((t145.length : Int) - 1)) ≤ (y151.length : Int) then ((some (y151.take ((wrap64 ((t145.length : Int) - 1)) : Int).toNat : List (S61))).bind fun y156 => ((vault_Possible.f k (t145.length : Int) y156).bind fun bt161 => ((vault_Possible.f k (t145.length : Int) y151).bind fun bt165 => ((vault_Count.f k (t145.length : Int) y156 (Int.tmod (wrap64 (a2_0)) 251)).bind fun bt169 => ((vault_Count.f k (t145.length : Int) y156 (Int.tmod (wrap64 (a2_1)) 251)).bind fun bt171 => (if bt161.2 = 0 then (if bt165.2 = 0 then (if bt169.2 = 0 then (if bt171.2 = 0 then (if (bt161.1.length : Int) = 251 then (if 0 < (t145.length : Int) then ((pianolalaw09_numbers.f k bt165.1 (([rd t145 0] : List Int))).bind fun t177 => (if t177 = true then (if bt169.1 = 1 then (pianolalaw09_VaultHidden.j0 k t145 y156 bt161.1 (bt171.1 != 1) a2_0 a2_1) else (pianolalaw09_VaultHidden.j0 k t145 y156 bt161.1 true a2_0 a2_1)) else (pianolalaw09_VaultHidden.j0 k t145 y156 bt161.1 true a2_0 a2_1))) else (none)) else (pianolalaw09_VaultHidden.j0 k t145 y156 bt161.1 true a2_0 a2_1)) else (pianolalaw09_VaultHidden.j0 k t145 y156 bt161.1 true a2_0 a2_1)) else (pianolalaw09_VaultHidden.j0 k t145 y156 bt161.1 true a2_0 a2_1)) else (pianolalaw09_VaultHidden.j0 k t145 y156 bt161.1 true a2_0 a2_1)) else (pianolalaw09_VaultHidden.j0 k t145 y156 bt161.1 true a2_0 a2_1))))))) else (none)) else (none))) else (none)) else (none)))
def pianolalaw09_VaultHidden.T19 : Bool × List (List Nat × List Nat) := (true, [([], []), ([0], [0]), ([], []), ([], []), ([3], [3]), ([2, 4], [2, 4]), ([], []), ([6], [6]), ([7], [7]), ([8], [8]), ([1, 5, 9], [1, 5, 9]), ([10], [10]), ([11], [11]), ([11], [11]), ([12, 10, 0, 1, 2, 3, 4, 5, 6, 7, 8, 9, 10, 11, 12], [12]), ([13, 14, 0, 1, 2, 3, 4, 5, 6, 7, 8, 9, 10, 11, 12, 13, 14], [13])])
def pianolalaw09_VaultHidden.B19 : List Nat := [0, 1, 0, 0, 8, 28, 0, 64, 192, 448, 1023, 2047, 4095, 4095, 8191, 32767]
theorem pianolalaw09_VaultHidden.tab19 : rtab .any (opsOf Try.f11 19) = pianolalaw09_VaultHidden.T19 := by kernel_rfl
theorem pianolalaw09_VaultHidden.bits19 : waitsOk pianolalaw09_VaultHidden.T19.2 pianolalaw09_VaultHidden.B19 = true := by kernel_rfl
set_option maxHeartbeats 8000000 in
set_option maxRecDepth 100000 in
theorem pianolalaw09_VaultHidden.calls (k : Nat) (A0 : Option Addr) (c0 : Nat) (l0 : List Int) (A1 : Option Addr) (c1 : Nat) (l1 : List Int) (a2_0 : Int) (a2_1 : Int) (r : Bool) (w : World) (hr0 : Kd.C (Kd.int .u8) w A0 l0.length l0) (hc0 : l0.length ≤ c0) (hr1 : Kd.C (Kd.int .u8) w A1 l1.length l1) (hc1 : l1.length ≤ c1) (h : pianolalaw09_VaultHidden.f k l0 l1 a2_0 a2_1 = some r) :
    Calls Try.prog 11 #[.slice A0 l0.length c0, .slice A1 l1.length c1, .agg #[.int .u8 a2_0, .int .u8 a2_1]] w fun e w' => e = .returned (.bool r) ∧ Below w.heap.size w w' := by
  have hu64 := Try.underlying64
  have HR0 := Aside0.mk hr0
  have HC0 := Aside0.mk hc0
  clear hr0 hc0
  have HR1 := Aside0.mk hr1
  have HC1 := Aside0.mk hc1
  clear hr1 hc1
  have HB := Aside0.mk (Below.refl w.heap.size w)
  have H : ((pianolalaw09_Lock_made.f k l0).bind fun t145 => ((pianolalaw09_some.f k t145 l1 (t145.length : Int)).bind fun t148 => (if 0 ≤ (t145.length : Int) then (if (t145.length : Int) ≤ (t148.length : Int) then ((some (t148.take ((t145.length : Int) : Int).toNat : List (S61))).bind fun y151 => (if 0 ≤ (wrap64 ((t145.length : Int) - 1)) then (if (wrap64 ((t145.length : Int) - 1)) ≤ (y151.length : Int) then ((some (y151.take ((wrap64 ((t145.length : Int) - 1)) : Int).toNat : List (S61))).bind fun y156 => ((vault_Possible.f k (t145.length : Int) y156).bind fun bt161 => ((vault_Possible.f k (t145.length : Int) y151).bind fun bt165 => ((vault_Count.f k (t145.length : Int) y156 (Int.tmod (wrap64 (a2_0)) 251)).bind fun bt169 => ((vault_Count.f k (t145.length : Int) y156 (Int.tmod (wrap64 (a2_1)) 251)).bind fun bt171 => (if bt161.2 = 0 then (if bt165.2 = 0 then (if bt169.2 = 0 then (if bt171.2 = 0 then (if (bt161.1.length : Int) = 251 then (if 0 < (t145.length : Int) then ((pianolalaw09_numbers.f k bt165.1 (([rd t145 0] : List Int))).bind fun t177 => (if t177 = true then (if bt169.1 = 1 then (pianolalaw09_VaultHidden.j0 k t145 y156 bt161.1 (bt171.1 != 1) a2_0 a2_1) else (pianolalaw09_VaultHidden.j0 k t145 y156 bt161.1 true a2_0 a2_1)) else (pianolalaw09_VaultHidden.j0 k t145 y156 bt161.1 true a2_0 a2_1))) else (none)) else (pianolalaw09_VaultHidden.j0 k t145 y156 bt161.1 true a2_0 a2_1)) else (pianolalaw09_VaultHidden.j0 k t145 y156 bt161.1 true a2_0 a2_1)) else (pianolalaw09_VaultHidden.j0 k t145 y156 bt161.1 true a2_0 a2_1)) else (pianolalaw09_VaultHidden.j0 k t145 y156 bt161.1 true a2_0 a2_1)) else (pianolalaw09_VaultHidden.j0 k t145 y156 bt161.1 true a2_0 a2_1))))))) else (none)) else (none))) else (none)) else (none)))) = some r := h
  clear h
  replace H := Option.bind_eq_some_iff.mp H
  obtain ⟨t145, A40, H⟩ := H
  replace H : ((pianolalaw09_some.f k t145 l1 (t145.length : Int)).bind fun t148 => (if 0 ≤ (t145.length : Int) then (if (t145.length : Int) ≤ (t148.length : Int) then ((some (t148.take ((t145.length : Int) : Int).toNat : List (S61))).bind fun y151 => (if 0 ≤ (wrap64 ((t145.length : Int) - 1)) then (if (wrap64 ((t145.length : Int) - 1)) ≤ (y151.length : Int) then ((some (y151.take ((wrap64 ((t145.length : Int) - 1)) : Int).toNat : List (S61))).bind fun y156 => ((vault_Possible.f k (t145.length : Int) y156).bind fun bt161 => ((vault_Possible.f k (t145.length : Int) y151).bind fun bt165 => ((vault_Count.f k (t145.length : Int) y156 (Int.tmod (wrap64 (a2_0)) 251)).bind fun bt169 => ((vault_Count.f k (t145.length : Int) y156 (Int.tmod (wrap64 (a2_1)) 251)).bind fun bt171 => (if bt161.2 = 0 then (if bt165.2 = 0 then (if bt169.2 = 0 then (if bt171.2 = 0 then (if (bt161.1.length : Int) = 251 then (if 0 < (t145.length : Int) then ((pianolalaw09_numbers.f k bt165.1 (([rd t145 0] : List Int))).bind fun t177 => (if t177 = true then (if bt169.1 = 1 then (pianolalaw09_VaultHidden.j0 k t145 y156 bt161.1 (bt171.1 != 1) a2_0 a2_1) else (pianolalaw09_VaultHidden.j0 k t145 y156 bt161.1 true a2_0 a2_1)) else (pianolalaw09_VaultHidden.j0 k t145 y156 bt161.1 true a2_0 a2_1))) else (none)) else (pianolalaw09_VaultHidden.j0 k t145 y156 bt161.1 true a2_0 a2_1)) else (pianolalaw09_VaultHidden.j0 k t145 y156 bt161.1 true a2_0 a2_1)) else (pianolalaw09_VaultHidden.j0 k t145 y156 bt161.1 true a2_0 a2_1)) else (pianolalaw09_VaultHidden.j0 k t145 y156 bt161.1 true a2_0 a2_1)) else (pianolalaw09_VaultHidden.j0 k t145 y156 bt161.1 true a2_0 a2_1))))))) else (none)) else (none))) else (none)) else (none))) = some r := H
  have A4 := Aside0.mk A40
  clear A40
  replace H := Option.bind_eq_some_iff.mp H
  obtain ⟨t148, A50, H⟩ := H
  replace H : (if 0 ≤ (t145.length : Int) then (if (t145.length : Int) ≤ (t148.length : Int) then ((some (t148.take ((t145.length : Int) : Int).toNat : List (S61))).bind fun y151 => (if 0 ≤ (wrap64 ((t145.length : Int) - 1)) then (if (wrap64 ((t145.length : Int) - 1)) ≤ (y151.length : Int) then ((some (y151.take ((wrap64 ((t145.length : Int) - 1)) : Int).toNat : List (S61))).bind fun y156 => ((vault_Possible.f k (t145.length : Int) y156).bind fun bt161 => ((vault_Possible.f k (t145.length : Int) y151).bind fun bt165 => ((vault_Count.f k (t145.length : Int) y156 (Int.tmod (wrap64 (a2_0)) 251)).bind fun bt169 => ((vault_Count.f k (t145.length : Int) y156 (Int.tmod (wrap64 (a2_1)) 251)).bind fun bt171 => (if bt161.2 = 0 then (if bt165.2 = 0 then (if bt169.2 = 0 then (if bt171.2 = 0 then (if (bt161.1.length : Int) = 251 then (if 0 < (t145.length : Int) then ((pianolalaw09_numbers.f k bt165.1 (([rd t145 0] : List Int))).bind fun t177 => (if t177 = true then (if bt169.1 = 1 then (pianolalaw09_VaultHidden.j0 k t145 y156 bt161.1 (bt171.1 != 1) a2_0 a2_1) else (pianolalaw09_VaultHidden.j0 k t145 y156 bt161.1 true a2_0 a2_1)) else (pianolalaw09_VaultHidden.j0 k t145 y156 bt161.1 true a2_0 a2_1))) else (none)) else (pianolalaw09_VaultHidden.j0 k t145 y156 bt161.1 true a2_0 a2_1)) else (pianolalaw09_VaultHidden.j0 k t145 y156 bt161.1 true a2_0 a2_1)) else (pianolalaw09_VaultHidden.j0 k t145 y156 bt161.1 true a2_0 a2_1)) else (pianolalaw09_VaultHidden.j0 k t145 y156 bt161.1 true a2_0 a2_1)) else (pianolalaw09_VaultHidden.j0 k t145 y156 bt161.1 true a2_0 a2_1))))))) else (none)) else (none))) else (none)) else (none)) = some r := H
  have A5 := Aside0.mk A50
  clear A50
  by_cases c6 : 0 ≤ (t145.length : Int)
  · rw [if_pos c6] at H
    have c6b0 := eq_true c6
    have c6b1 : decide (0 ≤ (t145.length : Int)) = true := decide_eq_true c6
    clear c6
    by_cases c7 : (t145.length : Int) ≤ (t148.length : Int)
    · rw [if_pos c7] at H
      have c7b0 := eq_true c7
      have c7b1 : decide ((t145.length : Int) ≤ (t148.length : Int)) = true := decide_eq_true c7
      clear c7
      obtain ⟨y151, hy151⟩ : ∃ y_ : List (S61), y_ = (t148.take ((t145.length : Int) : Int).toNat) := ⟨_, rfl⟩
      replace H : (if 0 ≤ (wrap64 ((t145.length : Int) - 1)) then (if (wrap64 ((t145.length : Int) - 1)) ≤ (y151.length : Int) then ((some (y151.take ((wrap64 ((t145.length : Int) - 1)) : Int).toNat : List (S61))).bind fun y156 => ((vault_Possible.f k (t145.length : Int) y156).bind fun bt161 => ((vault_Possible.f k (t145.length : Int) y151).bind fun bt165 => ((vault_Count.f k (t145.length : Int) y156 (Int.tmod (wrap64 (a2_0)) 251)).bind fun bt169 => ((vault_Count.f k (t145.length : Int) y156 (Int.tmod (wrap64 (a2_1)) 251)).bind fun bt171 => (if bt161.2 = 0 then (if bt165.2 = 0 then (if bt169.2 = 0 then (if bt171.2 = 0 then (if (bt161.1.length : Int) = 251 then (if 0 < (t145.length : Int) then ((pianolalaw09_numbers.f k bt165.1 (([rd t145 0] : List Int))).bind fun t177 => (if t177 = true then (if bt169.1 = 1 then (pianolalaw09_VaultHidden.j0 k t145 y156 bt161.1 (bt171.1 != 1) a2_0 a2_1) else (pianolalaw09_VaultHidden.j0 k t145 y156 bt161.1 true a2_0 a2_1)) else (pianolalaw09_VaultHidden.j0 k t145 y156 bt161.1 true a2_0 a2_1))) else (none)) else (pianolalaw09_VaultHidden.j0 k t145 y156 bt161.1 true a2_0 a2_1)) else (pianolalaw09_VaultHidden.j0 k t145 y156 bt161.1 true a2_0 a2_1)) else (pianolalaw09_VaultHidden.j0 k t145 y156 bt161.1 true a2_0 a2_1)) else (pianolalaw09_VaultHidden.j0 k t145 y156 bt161.1 true a2_0 a2_1)) else (pianolalaw09_VaultHidden.j0 k t145 y156 bt161.1 true a2_0 a2_1))))))) else (none)) else (none)) = some r := by first | (rw [hy151]; with_reducible exact H) | (have H2_ := (Option.bind_some _ _).symm.trans H; rw [hy151]; with_reducible exact H2_) | (have H2_ := (Option.bind_some _ _).symm.trans H; with_reducible exact H2_) | with_reducible exact H | (rw [hy151]; exact H) | exact H
      have Ny151 := Aside0.mk hy151
      clear hy151
      obtain ⟨ji8, hji8⟩ : ∃ j_ : Int, (wrap64 ((t145.length : Int) - 1)) = j_ := ⟨_, rfl⟩
      replace H : (if 0 ≤ (ji8) then (if (ji8) ≤ (y151.length : Int) then ((some (y151.take ((ji8) : Int).toNat : List (S61))).bind fun y156 => ((vault_Possible.f k (t145.length : Int) y156).bind fun bt161 => ((vault_Possible.f k (t145.length : Int) y151).bind fun bt165 => ((vault_Count.f k (t145.length : Int) y156 (Int.tmod (wrap64 (a2_0)) 251)).bind fun bt169 => ((vault_Count.f k (t145.length : Int) y156 (Int.tmod (wrap64 (a2_1)) 251)).bind fun bt171 => (if bt161.2 = 0 then (if bt165.2 = 0 then (if bt169.2 = 0 then (if bt171.2 = 0 then (if (bt161.1.length : Int) = 251 then (if 0 < (t145.length : Int) then ((pianolalaw09_numbers.f k bt165.1 (([rd t145 0] : List Int))).bind fun t177 => (if t177 = true then (if bt169.1 = 1 then (pianolalaw09_VaultHidden.j0 k t145 y156 bt161.1 (bt171.1 != 1) a2_0 a2_1) else (pianolalaw09_VaultHidden.j0 k t145 y156 bt161.1 true a2_0 a2_1)) else (pianolalaw09_VaultHidden.j0 k t145 y156 bt161.1 true a2_0 a2_1))) else (none)) else (pianolalaw09_VaultHidden.j0 k t145 y156 bt161.1 true a2_0 a2_1)) else (pianolalaw09_VaultHidden.j0 k t145 y156 bt161.1 true a2_0 a2_1)) else (pianolalaw09_VaultHidden.j0 k t145 y156 bt161.1 true a2_0 a2_1)) else (pianolalaw09_VaultHidden.j0 k t145 y156 bt161.1 true a2_0 a2_1)) else (pianolalaw09_VaultHidden.j0 k t145 y156 bt161.1 true a2_0 a2_1))))))) else (none)) else (none)) = some r := by first | (rw [hji8] at H; exact H) | (simp only [hji8] at H ⊢; exact H)
      (try rw [hji8] at A4)
      (try rw [hji8] at A5)
      have hji8w : (IntKind.i64.wrap ((t145.length : Int) - 1)) = ji8 := (i64_w _).trans hji8
      by_cases c9 : 0 ≤ (ji8)
      · rw [if_pos c9] at H
        have c9b0 := eq_true c9
        have c9b1 : decide (0 ≤ (ji8)) = true := decide_eq_true c9
        clear c9
        by_cases c10 : (ji8) ≤ (y151.length : Int)
        · rw [if_pos c10] at H
          have c10b0 := eq_true c10
          have c10b1 : decide ((ji8) ≤ (y151.length : Int)) = true := decide_eq_true c10
          clear c10
          obtain ⟨y156, hy156⟩ : ∃ y_ : List (S61), y_ = (y151.take ((ji8) : Int).toNat) := ⟨_, rfl⟩
          replace H : ((vault_Possible.f k (t145.length : Int) y156).bind fun bt161 => ((vault_Possible.f k (t145.length : Int) y151).bind fun bt165 => ((vault_Count.f k (t145.length : Int) y156 (Int.tmod (wrap64 (a2_0)) 251)).bind fun bt169 => ((vault_Count.f k (t145.length : Int) y156 (Int.tmod (wrap64 (a2_1)) 251)).bind fun bt171 => (if bt161.2 = 0 then (if bt165.2 = 0 then (if bt169.2 = 0 then (if bt171.2 = 0 then (if (bt161.1.length : Int) = 251 then (if 0 < (t145.length : Int) then ((pianolalaw09_numbers.f k bt165.1 (([rd t145 0] : List Int))).bind fun t177 => (if t177 = true then (if bt169.1 = 1 then (pianolalaw09_VaultHidden.j0 k t145 y156 bt161.1 (bt171.1 != 1) a2_0 a2_1) else (pianolalaw09_VaultHidden.j0 k t145 y156 bt161.1 true a2_0 a2_1)) else (pianolalaw09_VaultHidden.j0 k t145 y156 bt161.1 true a2_0 a2_1))) else (none)) else (pianolalaw09_VaultHidden.j0 k t145 y156 bt161.1 true a2_0 a2_1)) else (pianolalaw09_VaultHidden.j0 k t145 y156 bt161.1 true a2_0 a2_1)) else (pianolalaw09_VaultHidden.j0 k t145 y156 bt161.1 true a2_0 a2_1)) else (pianolalaw09_VaultHidden.j0 k t145 y156 bt161.1 true a2_0 a2_1)) else (pianolalaw09_VaultHidden.j0 k t145 y156 bt161.1 true a2_0 a2_1)))))) = some r := by first | (rw [hy156]; with_reducible exact H) | (have H2_ := (Option.bind_some _ _).symm.trans H; rw [hy156]; with_reducible exact H2_) | (have H2_ := (Option.bind_some _ _).symm.trans H; with_reducible exact H2_) | with_reducible exact H | (rw [hy156]; exact H) | exact H
          have Ny156 := Aside0.mk hy156
          clear hy156
          replace H := Option.bind_eq_some_iff.mp H
          obtain ⟨⟨t161, t162⟩, A110, H⟩ := H
          replace H : ((vault_Possible.f k (t145.length : Int) y151).bind fun bt165 => ((vault_Count.f k (t145.length : Int) y156 (Int.tmod (wrap64 (a2_0)) 251)).bind fun bt169 => ((vault_Count.f k (t145.length : Int) y156 (Int.tmod (wrap64 (a2_1)) 251)).bind fun bt171 => (if t162 = 0 then (if bt165.2 = 0 then (if bt169.2 = 0 then (if bt171.2 = 0 then (if (t161.length : Int) = 251 then (if 0 < (t145.length : Int) then ((pianolalaw09_numbers.f k bt165.1 (([rd t145 0] : List Int))).bind fun t177 => (if t177 = true then (if bt169.1 = 1 then (pianolalaw09_VaultHidden.j0 k t145 y156 t161 (bt171.1 != 1) a2_0 a2_1) else (pianolalaw09_VaultHidden.j0 k t145 y156 t161 true a2_0 a2_1)) else (pianolalaw09_VaultHidden.j0 k t145 y156 t161 true a2_0 a2_1))) else (none)) else (pianolalaw09_VaultHidden.j0 k t145 y156 t161 true a2_0 a2_1)) else (pianolalaw09_VaultHidden.j0 k t145 y156 t161 true a2_0 a2_1)) else (pianolalaw09_VaultHidden.j0 k t145 y156 t161 true a2_0 a2_1)) else (pianolalaw09_VaultHidden.j0 k t145 y156 t161 true a2_0 a2_1)) else (pianolalaw09_VaultHidden.j0 k t145 y156 t161 true a2_0 a2_1))))) = some r := H
          have A11 := Aside0.mk A110
          clear A110
          replace H := Option.bind_eq_some_iff.mp H
          obtain ⟨⟨t165, t166⟩, A120, H⟩ := H
          replace H : ((vault_Count.f k (t145.length : Int) y156 (Int.tmod (wrap64 (a2_0)) 251)).bind fun bt169 => ((vault_Count.f k (t145.length : Int) y156 (Int.tmod (wrap64 (a2_1)) 251)).bind fun bt171 => (if t162 = 0 then (if t166 = 0 then (if bt169.2 = 0 then (if bt171.2 = 0 then (if (t161.length : Int) = 251 then (if 0 < (t145.length : Int) then ((pianolalaw09_numbers.f k t165 (([rd t145 0] : List Int))).bind fun t177 => (if t177 = true then (if bt169.1 = 1 then (pianolalaw09_VaultHidden.j0 k t145 y156 t161 (bt171.1 != 1) a2_0 a2_1) else (pianolalaw09_VaultHidden.j0 k t145 y156 t161 true a2_0 a2_1)) else (pianolalaw09_VaultHidden.j0 k t145 y156 t161 true a2_0 a2_1))) else (none)) else (pianolalaw09_VaultHidden.j0 k t145 y156 t161 true a2_0 a2_1)) else (pianolalaw09_VaultHidden.j0 k t145 y156 t161 true a2_0 a2_1)) else (pianolalaw09_VaultHidden.j0 k t145 y156 t161 true a2_0 a2_1)) else (pianolalaw09_VaultHidden.j0 k t145 y156 t161 true a2_0 a2_1)) else (pianolalaw09_VaultHidden.j0 k t145 y156 t161 true a2_0 a2_1)))) = some r := H
          have A12 := Aside0.mk A120
          clear A120
          replace H := Option.bind_eq_some_iff.mp H
          obtain ⟨⟨t169, t170⟩, A130, H⟩ := H
          replace H : ((vault_Count.f k (t145.length : Int) y156 (Int.tmod (wrap64 (a2_1)) 251)).bind fun bt171 => (if t162 = 0 then (if t166 = 0 then (if t170 = 0 then (if bt171.2 = 0 then (if (t161.length : Int) = 251 then (if 0 < (t145.length : Int) then ((pianolalaw09_numbers.f k t165 (([rd t145 0] : List Int))).bind fun t177 => (if t177 = true then (if t169 = 1 then (pianolalaw09_VaultHidden.j0 k t145 y156 t161 (bt171.1 != 1) a2_0 a2_1) else (pianolalaw09_VaultHidden.j0 k t145 y156 t161 true a2_0 a2_1)) else (pianolalaw09_VaultHidden.j0 k t145 y156 t161 true a2_0 a2_1))) else (none)) else (pianolalaw09_VaultHidden.j0 k t145 y156 t161 true a2_0 a2_1)) else (pianolalaw09_VaultHidden.j0 k t145 y156 t161 true a2_0 a2_1)) else (pianolalaw09_VaultHidden.j0 k t145 y156 t161 true a2_0 a2_1)) else (pianolalaw09_VaultHidden.j0 k t145 y156 t161 true a2_0 a2_1)) else (pianolalaw09_VaultHidden.j0 k t145 y156 t161 true a2_0 a2_1))) = some r := H
          have A13 := Aside0.mk A130
          clear A130
          replace H := Option.bind_eq_some_iff.mp H
          obtain ⟨⟨t171, t172⟩, A140, H⟩ := H
          replace H : (if t162 = 0 then (if t166 = 0 then (if t170 = 0 then (if t172 = 0 then (if (t161.length : Int) = 251 then (if 0 < (t145.length : Int) then ((pianolalaw09_numbers.f k t165 (([rd t145 0] : List Int))).bind fun t177 => (if t177 = true then (if t169 = 1 then (pianolalaw09_VaultHidden.j0 k t145 y156 t161 (t171 != 1) a2_0 a2_1) else (pianolalaw09_VaultHidden.j0 k t145 y156 t161 true a2_0 a2_1)) else (pianolalaw09_VaultHidden.j0 k t145 y156 t161 true a2_0 a2_1))) else (none)) else (pianolalaw09_VaultHidden.j0 k t145 y156 t161 true a2_0 a2_1)) else (pianolalaw09_VaultHidden.j0 k t145 y156 t161 true a2_0 a2_1)) else (pianolalaw09_VaultHidden.j0 k t145 y156 t161 true a2_0 a2_1)) else (pianolalaw09_VaultHidden.j0 k t145 y156 t161 true a2_0 a2_1)) else (pianolalaw09_VaultHidden.j0 k t145 y156 t161 true a2_0 a2_1)) = some r := H
          have A14 := Aside0.mk A140
          clear A140
          have HC15 := Aside0.mk H
          clear H
          go_enter Try.func11, Try.ntmps11
          go_upto_region 8 with (first | ((with_reducible refine gate_dst (N := 5) rfl ?_); (try (refine gate_guard (by rfl) ?_; dsimp only)); refine box_event ?hg (N := 5) ?hd (cs := #[.int .u8 a2_0, .int .u8 a2_1]) (t := 64) ?hr ?_; (case hd => rfl); (case hg => rfl); (case hr => first | (go_simp; done) | (go_simp; rfl)); intro gb144 hg w16 hbox hb; have n0_ := Aside0.mk (below_step (by repeat (first | (with_reducible first | exact HB.out | apply below_alloc | apply pw_below_drewN | apply below_drew1) | exact HB.out)) hb); have n1_ := Aside0.mk (hbox); have n2_ := Aside0.mk ((by rw [hg]; exact (below_size (by repeat (first | (with_reducible first | exact HB.out | apply below_alloc | apply pw_below_drewN | apply below_drew1) | exact HB.out))) : w.heap.size ≤ gb144)); have n3_ := Aside0.mk ((by rw [hg]; exact (below_size (by repeat (first | (with_reducible first | exact HB.out | apply below_alloc | apply pw_below_drewN | apply below_drew1) | exact HB.out))) : w.heap.size ≤ gb144)); clear HB; have HB := n0_; have BK144 := n1_; have GW144 := n2_; have GE144 := n3_; clear n0_ n1_ n2_ n3_; clear hb hbox hg) | ((with_reducible refine gate_callee (f := 41) rfl ?_); refine goesL_ (some 23) rfl rfl Try.func41 (by kernel_rfl) rfl #[.slice A0 l0.length c0] rfl (by (try simp only [List.map_toArray, List.map_cons, List.map_nil]); first | done | rfl | (simp only [List.length_drop, List.length_take]; rfl)) ?_; (with_reducible refine (pianolalaw09_Lock_made.calls k _ _ l0 t145 _ ?side1 ?side2 A4.out).mono ?_); (case side1 => repeat (first | exact (Kd.C_below HR0.out HB.out) | (with_reducible refine Kd.C_alloc ?_ _) | (with_reducible refine Kd.C_drewN ?_ _) | (with_reducible refine Kd.C_drew ?_))); (case side2 => exact HC0.out); rintro e w17 ⟨v146, rfl, ho0, hb⟩; refine ⟨_, rfl, ?_⟩; have n0_ := Aside0.mk (Kd.R_lower ho0 (below_size (by repeat (first | (with_reducible first | exact HB.out | apply below_alloc | apply pw_below_drewN | apply below_drew1 | refine below_set ?_ GE144.out) | exact HB.out)))); have n1_ := Aside0.mk (blk_below (g := gb144) (o := .cells #[.int .u8 a2_0, .int .u8 a2_1] 64 (0, 0)) (by (with_reducible repeat (first | refine blk_drewN ?_ _ | refine blk_drew ?_ | refine blk_alloc ?_ _)); exact BK144.out) hb); have n2_ := Aside0.mk (below_step (by repeat (first | (with_reducible first | exact HB.out | apply below_alloc | apply pw_below_drewN | apply below_drew1 | refine below_set ?_ GE144.out) | exact HB.out)) hb); clear BK144; clear HB; have HO147 := n0_; have BK144 := n1_; have HB := n2_; clear n0_ n1_ n2_; (try clear hb); (try clear hb2); (try clear hk); (try clear hi); (try clear ho0); obtain ⟨Ao18, co18, eo18⟩ := Kd.R_slice HO147.out; subst eo18) | ((with_reducible refine gate_callee (f := 42) rfl ?_); refine goesL_ (some 28) rfl rfl Try.func42 (by kernel_rfl) rfl #[.slice Ao18 t145.length co18, .slice A1 l1.length c1, .int .i64 (t145.length : Int)] rfl (by (try simp only [List.map_toArray, List.map_cons, List.map_nil]); first | done | rfl | (simp only [List.length_drop, List.length_take]; rfl)) ?_; (with_reducible refine (pianolalaw09_some.calls k _ _ t145 _ _ l1 (t145.length : Int) t148 _ ?side1 ?side2 ?side3 ?side4 A5.out).mono ?_); (case side1 => repeat (first | exact (Kd.R_reads' HO147.out).2.2 | (with_reducible refine Kd.C_alloc ?_ _) | (with_reducible refine Kd.C_drewN ?_ _) | (with_reducible refine Kd.C_drew ?_))); (case side2 => exact (Kd.R_reads' HO147.out).2.1); (case side3 => repeat (first | exact (Kd.C_below HR1.out HB.out) | (with_reducible refine Kd.C_alloc ?_ _) | (with_reducible refine Kd.C_drewN ?_ _) | (with_reducible refine Kd.C_drew ?_))); (case side4 => exact HC1.out); rintro e w19 ⟨v149, rfl, ho0, hb⟩; refine ⟨_, rfl, ?_⟩; have n0_ := Aside0.mk (Kd.R_below (by (with_reducible repeat (first | apply Kd.R_alloc | apply Kd.R_drewN | apply Kd.R_drew)); exact HO147.out) hb); have n1_ := Aside0.mk (Kd.R_lower ho0 (below_size (by repeat (first | (with_reducible first | exact HB.out | apply below_alloc | apply pw_below_drewN | apply below_drew1 | refine below_set ?_ GE144.out) | exact HB.out)))); have n2_ := Aside0.mk (blk_below (g := gb144) (o := .cells #[.int .u8 a2_0, .int .u8 a2_1] 64 (0, 0)) (by (with_reducible repeat (first | refine blk_drewN ?_ _ | refine blk_drew ?_ | refine blk_alloc ?_ _)); exact BK144.out) hb); have n3_ := Aside0.mk (below_step (by repeat (first | (with_reducible first | exact HB.out | apply below_alloc | apply pw_below_drewN | apply below_drew1 | refine below_set ?_ GE144.out) | exact HB.out)) hb); clear HO147; clear BK144; clear HB; have HO147 := n0_; have HO150 := n1_; have BK144 := n2_; have HB := n3_; clear n0_ n1_ n2_ n3_; (try clear hb); (try clear hb2); (try clear hk); (try clear hi); (try clear ho0); obtain ⟨Ao21, co21, eo21⟩ := Kd.R_slice HO150.out; subst eo21; have q20 : ((t145.length : Int) : Int) ≤ ((t148.length : Int) : Int) := of_decide_eq_true (by first | (with_reducible assumption) | assumption); obtain ⟨i020, hi020, _, hsz20, _⟩ := info_parts info61; have hroom20 : t148.length ≤ co21 := (Kd.R_reads' HO150.out).2.1; have hC20 : Kd.F k61 _ _ Ao21 t148.length t148 := (Kd.V_at (base := w.heap.size) (Kd.R_V (Kd.R_types (Kd.R_apart' (HO150.out) (Kd.R_typed HO147.out) (by decide)) BK144.out (by decide)))).2.2; have hcut20 := cut_to (P := Try.prog) 28 61 .i64 Try.underlying28 hi020 Ao21 t148.length co21 (t145.length : Int) (of_decide_eq_true (by first | (with_reducible assumption) | assumption)) q20 hroom20; have hr20 := Kd.F_take (m := ((t145.length : Int) : Int).toNat) hC20 (by omega); have hy20 : y151.length = ((t145.length : Int) : Int).toNat := (by rw [Ny151.out, List.length_take]; omega); rw [← Ny151.out] at hr20; rw [← hy20] at hcut20; have HO155 := Aside0.mk (show Kd.V k61 61 _ w.heap.size _ (.slice Ao21 y151.length co21) y151 from Kd.V_mk (by omega) hr20); have HC155 := Aside0.mk (show y151.length ≤ co21 from by omega); clear hr20 hC20 hroom20 hi020 hsz20; have KY20 := Aside0.mk hy20; clear hy20; replace q20 := eq_true q20; have q22 : ((ji8) : Int) ≤ ((y151.length : Int) : Int) := of_decide_eq_true (by first | (with_reducible assumption) | assumption); obtain ⟨i022, hi022, _, hsz22, _⟩ := info_parts info61; have hroom22 : y151.length ≤ co21 := (Kd.V_reads' HO155.out).2.1; have hC22 : Kd.F k61 _ _ Ao21 y151.length y151 := (Kd.V_at (base := w.heap.size) HO155.out).2.2; have hcut22 := cut_to (P := Try.prog) 28 61 .i64 Try.underlying28 hi022 Ao21 y151.length co21 (ji8) (of_decide_eq_true (by first | (with_reducible assumption) | assumption)) q22 hroom22; have hr22 := Kd.F_take (m := ((ji8) : Int).toNat) hC22 (by omega); have hy22 : y156.length = ((ji8) : Int).toNat := (by rw [Ny156.out, List.length_take]; omega); rw [← Ny156.out] at hr22; rw [← hy22] at hcut22; have HO160 := Aside0.mk (show Kd.V k61 61 _ w.heap.size _ (.slice Ao21 y156.length co21) y156 from Kd.V_mk (by omega) hr22); have HC160 := Aside0.mk (show y156.length ≤ co21 from by omega); clear hr22 hC22 hroom22 hi022 hsz22; have KY22 := Aside0.mk hy22; clear hy22; replace q22 := eq_true q22) | ((with_reducible refine gate_callee (f := 33) rfl ?_); refine goesL_ (some 41) rfl rfl Try.func33 (by kernel_rfl) rfl #[.int .i64 (t145.length : Int), .slice Ao21 y156.length co21] rfl (by (try simp only [List.map_toArray, List.map_cons, List.map_nil]); first | done | rfl | (simp only [List.length_drop, List.length_take]; rfl)) ?_; (with_reducible refine (vault_Possible.calls k (t145.length : Int) _ _ y156 t161 t162 _ ?side1 ?side2 A11.out).mono ?_); (case side1 => repeat (first | exact (Kd.V_reads' HO160.out).2.2 | (with_reducible refine Kd.C_alloc ?_ _) | (with_reducible refine Kd.C_drewN ?_ _) | (with_reducible refine Kd.C_drew ?_))); (case side2 => exact (Kd.V_reads' HO160.out).2.1); rintro e w23 ⟨v163, rfl, ho0, hb⟩; refine ⟨_, rfl, ?_⟩; have n0_ := Aside0.mk (Kd.R_elder' (by (with_reducible repeat (first | apply Kd.R_alloc | apply Kd.R_drewN | apply Kd.R_drew)); exact HO147.out) (Kd.R_base ho0) hb); have n1_ := Aside0.mk (Kd.R_below (by (with_reducible repeat (first | apply Kd.R_alloc | apply Kd.R_drewN | apply Kd.R_drew)); exact HO150.out) hb); have n2_ := Aside0.mk (Kd.V_elder' (by (with_reducible repeat (first | apply Kd.V_alloc | apply Kd.V_drewN | apply Kd.V_drew)); exact HO155.out) (Kd.R_base ho0) hb); have n3_ := Aside0.mk (Kd.V_elder' (by (with_reducible repeat (first | apply Kd.V_alloc | apply Kd.V_drewN | apply Kd.V_drew)); exact HO160.out) (Kd.R_base ho0) hb); have n4_ := Aside0.mk (Kd.R_lower (Kd.R_new' ho0 (Kd.R_lt (by (with_reducible repeat (first | apply Kd.R_alloc | apply Kd.R_drewN | apply Kd.R_drew)); exact HO147.out))) (below_size (by repeat (first | (with_reducible first | exact HB.out | apply below_alloc | apply pw_below_drewN | apply below_drew1 | refine below_set ?_ GE144.out) | exact HB.out)))); have n5_ := Aside0.mk (blk_below (g := gb144) (o := .cells #[.int .u8 a2_0, .int .u8 a2_1] 64 (0, 0)) (by (with_reducible repeat (first | refine blk_drewN ?_ _ | refine blk_drew ?_ | refine blk_alloc ?_ _)); exact BK144.out) hb); have n6_ := Aside0.mk (below_step (by repeat (first | (with_reducible first | exact HB.out | apply below_alloc | apply pw_below_drewN | apply below_drew1 | refine below_set ?_ GE144.out) | exact HB.out)) hb); clear HO147; clear HO150; clear HO155; clear HO160; clear BK144; clear HB; have HO147 := n0_; have HO150 := n1_; have HO155 := n2_; have HO160 := n3_; have HO164 := n4_; have BK144 := n5_; have HB := n6_; clear n0_ n1_ n2_ n3_ n4_ n5_ n6_; (try clear hb); (try clear hb2); (try clear hk); (try clear hi); (try clear ho0)) | ((with_reducible refine gate_callee (f := 33) rfl ?_); refine goesL_ (some 48) rfl rfl Try.func33 (by kernel_rfl) rfl #[.int .i64 (t145.length : Int), .slice Ao21 y151.length co21] rfl (by (try simp only [List.map_toArray, List.map_cons, List.map_nil]); first | done | rfl | (simp only [List.length_drop, List.length_take]; rfl)) ?_; (with_reducible refine (vault_Possible.calls k (t145.length : Int) _ _ y151 t165 t166 _ ?side1 ?side2 A12.out).mono ?_); (case side1 => repeat (first | exact (Kd.V_reads' HO155.out).2.2 | (with_reducible refine Kd.C_alloc ?_ _) | (with_reducible refine Kd.C_drewN ?_ _) | (with_reducible refine Kd.C_drew ?_))); (case side2 => exact (Kd.V_reads' HO155.out).2.1); rintro e w24 ⟨v167, rfl, ho0, hb⟩; refine ⟨_, rfl, ?_⟩; have n0_ := Aside0.mk (Kd.R_elder' (by (with_reducible repeat (first | apply Kd.R_alloc | apply Kd.R_drewN | apply Kd.R_drew)); exact HO147.out) (Kd.R_base ho0) hb); have n1_ := Aside0.mk (Kd.R_below (by (with_reducible repeat (first | apply Kd.R_alloc | apply Kd.R_drewN | apply Kd.R_drew)); exact HO150.out) hb); have n2_ := Aside0.mk (Kd.V_elder' (by (with_reducible repeat (first | apply Kd.V_alloc | apply Kd.V_drewN | apply Kd.V_drew)); exact HO155.out) (Kd.R_base ho0) hb); have n3_ := Aside0.mk (Kd.V_elder' (by (with_reducible repeat (first | apply Kd.V_alloc | apply Kd.V_drewN | apply Kd.V_drew)); exact HO160.out) (Kd.R_base ho0) hb); have n4_ := Aside0.mk (Kd.R_elder' (by (with_reducible repeat (first | apply Kd.R_alloc | apply Kd.R_drewN | apply Kd.R_drew)); exact HO164.out) (Kd.R_base ho0) hb); have n5_ := Aside0.mk (Kd.R_lower (Kd.R_new' (Kd.R_new' ho0 (Kd.R_lt (by (with_reducible repeat (first | apply Kd.R_alloc | apply Kd.R_drewN | apply Kd.R_drew)); exact HO147.out))) (Kd.R_lt (by (with_reducible repeat (first | apply Kd.R_alloc | apply Kd.R_drewN | apply Kd.R_drew)); exact HO164.out))) (below_size (by repeat (first | (with_reducible first | exact HB.out | apply below_alloc | apply pw_below_drewN | apply below_drew1 | refine below_set ?_ GE144.out) | exact HB.out)))); have n6_ := Aside0.mk (blk_below (g := gb144) (o := .cells #[.int .u8 a2_0, .int .u8 a2_1] 64 (0, 0)) (by (with_reducible repeat (first | refine blk_drewN ?_ _ | refine blk_drew ?_ | refine blk_alloc ?_ _)); exact BK144.out) hb); have n7_ := Aside0.mk (below_step (by repeat (first | (with_reducible first | exact HB.out | apply below_alloc | apply pw_below_drewN | apply below_drew1 | refine below_set ?_ GE144.out) | exact HB.out)) hb); clear HO147; clear HO150; clear HO155; clear HO160; clear HO164; clear BK144; clear HB; have HO147 := n0_; have HO150 := n1_; have HO155 := n2_; have HO160 := n3_; have HO164 := n4_; have HO168 := n5_; have BK144 := n6_; have HB := n7_; clear n0_ n1_ n2_ n3_ n4_ n5_ n6_ n7_; (try clear hb); (try clear hb2); (try clear hk); (try clear hi); (try clear ho0); have hcz25_0 : w24.cell? ⟨gb144, 0, none⟩ = some (.int .u8 a2_0) := (blk_cell BK144.out 0).trans rfl; have hcz25_1 : w24.cell? ⟨gb144, 1, none⟩ = some (.int .u8 a2_1) := (blk_cell BK144.out 1).trans rfl; have hfz25_0 := blk_frozen BK144.out 0; have hfz25_1 := blk_frozen BK144.out 1) | ((with_reducible refine gate_callee (f := 35) rfl ?_); refine goesL_ (some 59) rfl rfl Try.func35 (by kernel_rfl) rfl #[.int .i64 (t145.length : Int), .slice Ao21 y156.length co21, .int .i64 (Int.tmod (wrap64 (a2_0)) 251)] rfl (by (try simp only [List.map_toArray, List.map_cons, List.map_nil]); first | done | rfl | (simp only [List.length_drop, List.length_take]; rfl)) ?_; (with_reducible refine (vault_Count.calls k (t145.length : Int) _ _ y156 (Int.tmod (wrap64 (a2_0)) 251) t169 t170 _ ?side1 ?side2 A13.out).mono ?_); (case side1 => repeat (first | exact (Kd.V_reads' HO160.out).2.2 | (with_reducible refine Kd.C_alloc ?_ _) | (with_reducible refine Kd.C_drewN ?_ _) | (with_reducible refine Kd.C_drew ?_))); (case side2 => exact (Kd.V_reads' HO160.out).2.1); rintro e w26 ⟨rfl, hb⟩; refine ⟨_, rfl, ?_⟩; have n0_ := Aside0.mk (Kd.R_below (by (with_reducible repeat (first | apply Kd.R_alloc | apply Kd.R_drewN | apply Kd.R_drew)); exact HO147.out) hb); have n1_ := Aside0.mk (Kd.R_below (by (with_reducible repeat (first | apply Kd.R_alloc | apply Kd.R_drewN | apply Kd.R_drew)); exact HO150.out) hb); have n2_ := Aside0.mk (Kd.V_below (by (with_reducible repeat (first | apply Kd.V_alloc | apply Kd.V_drewN | apply Kd.V_drew)); exact HO155.out) hb); have n3_ := Aside0.mk (Kd.V_below (by (with_reducible repeat (first | apply Kd.V_alloc | apply Kd.V_drewN | apply Kd.V_drew)); exact HO160.out) hb); have n4_ := Aside0.mk (Kd.R_below (by (with_reducible repeat (first | apply Kd.R_alloc | apply Kd.R_drewN | apply Kd.R_drew)); exact HO164.out) hb); have n5_ := Aside0.mk (Kd.R_below (by (with_reducible repeat (first | apply Kd.R_alloc | apply Kd.R_drewN | apply Kd.R_drew)); exact HO168.out) hb); have n6_ := Aside0.mk (blk_below (g := gb144) (o := .cells #[.int .u8 a2_0, .int .u8 a2_1] 64 (0, 0)) (by (with_reducible repeat (first | refine blk_drewN ?_ _ | refine blk_drew ?_ | refine blk_alloc ?_ _)); exact BK144.out) hb); have n7_ := Aside0.mk (below_step (by repeat (first | (with_reducible first | exact HB.out | apply below_alloc | apply pw_below_drewN | apply below_drew1 | refine below_set ?_ GE144.out) | exact HB.out)) hb); clear HO147; clear HO150; clear HO155; clear HO160; clear HO164; clear HO168; clear BK144; clear HB; have HO147 := n0_; have HO150 := n1_; have HO155 := n2_; have HO160 := n3_; have HO164 := n4_; have HO168 := n5_; have BK144 := n6_; have HB := n7_; clear n0_ n1_ n2_ n3_ n4_ n5_ n6_ n7_; (try clear hb); (try clear hb2); (try clear hk); (try clear hi); have hcz27_0 : w26.cell? ⟨gb144, 0, none⟩ = some (.int .u8 a2_0) := (blk_cell BK144.out 0).trans rfl; have hcz27_1 : w26.cell? ⟨gb144, 1, none⟩ = some (.int .u8 a2_1) := (blk_cell BK144.out 1).trans rfl; have hfz27_0 := blk_frozen BK144.out 0; have hfz27_1 := blk_frozen BK144.out 1) | ((with_reducible refine gate_callee (f := 35) rfl ?_); refine goesL_ (some 70) rfl rfl Try.func35 (by kernel_rfl) rfl #[.int .i64 (t145.length : Int), .slice Ao21 y156.length co21, .int .i64 (Int.tmod (wrap64 (a2_1)) 251)] rfl (by (try simp only [List.map_toArray, List.map_cons, List.map_nil]); first | done | rfl | (simp only [List.length_drop, List.length_take]; rfl)) ?_; (with_reducible refine (vault_Count.calls k (t145.length : Int) _ _ y156 (Int.tmod (wrap64 (a2_1)) 251) t171 t172 _ ?side1 ?side2 A14.out).mono ?_); (case side1 => repeat (first | exact (Kd.V_reads' HO160.out).2.2 | (with_reducible refine Kd.C_alloc ?_ _) | (with_reducible refine Kd.C_drewN ?_ _) | (with_reducible refine Kd.C_drew ?_))); (case side2 => exact (Kd.V_reads' HO160.out).2.1); rintro e w28 ⟨rfl, hb⟩; refine ⟨_, rfl, ?_⟩; have n0_ := Aside0.mk (Kd.R_below (by (with_reducible repeat (first | apply Kd.R_alloc | apply Kd.R_drewN | apply Kd.R_drew)); exact HO147.out) hb); have n1_ := Aside0.mk (Kd.R_below (by (with_reducible repeat (first | apply Kd.R_alloc | apply Kd.R_drewN | apply Kd.R_drew)); exact HO150.out) hb); have n2_ := Aside0.mk (Kd.V_below (by (with_reducible repeat (first | apply Kd.V_alloc | apply Kd.V_drewN | apply Kd.V_drew)); exact HO155.out) hb); have n3_ := Aside0.mk (Kd.V_below (by (with_reducible repeat (first | apply Kd.V_alloc | apply Kd.V_drewN | apply Kd.V_drew)); exact HO160.out) hb); have n4_ := Aside0.mk (Kd.R_below (by (with_reducible repeat (first | apply Kd.R_alloc | apply Kd.R_drewN | apply Kd.R_drew)); exact HO164.out) hb); have n5_ := Aside0.mk (Kd.R_below (by (with_reducible repeat (first | apply Kd.R_alloc | apply Kd.R_drewN | apply Kd.R_drew)); exact HO168.out) hb); have n6_ := Aside0.mk (blk_below (g := gb144) (o := .cells #[.int .u8 a2_0, .int .u8 a2_1] 64 (0, 0)) (by (with_reducible repeat (first | refine blk_drewN ?_ _ | refine blk_drew ?_ | refine blk_alloc ?_ _)); exact BK144.out) hb); have n7_ := Aside0.mk (below_step (by repeat (first | (with_reducible first | exact HB.out | apply below_alloc | apply pw_below_drewN | apply below_drew1 | refine below_set ?_ GE144.out) | exact HB.out)) hb); clear HO147; clear HO150; clear HO155; clear HO160; clear HO164; clear HO168; clear BK144; clear HB; have HO147 := n0_; have HO150 := n1_; have HO155 := n2_; have HO160 := n3_; have HO164 := n4_; have HO168 := n5_; have BK144 := n6_; have HB := n7_; clear n0_ n1_ n2_ n3_ n4_ n5_ n6_ n7_; (try clear hb); (try clear hb2); (try clear hk); (try clear hi)))
          (try simp only [Act.put, List.setIfInBounds_toArray, List.set_cons_zero, List.set_cons_succ])
          go_cut [108] (fun v108 wc => ∃ (kq : Nat) (x108_14 : Bool), v108 = .bool x108_14 ∧ Aside0 (pianolalaw09_VaultHidden.j0 kq t145 y156 t161 x108_14 a2_0 a2_1 = some r) ∧ Aside0 (kq ≤ k) ∧ Aside0 (Kd.R (Kd.int .i64) 3 wc w.heap.size (fun k_ => some k_ ≠ (v163 : Value).ownBlock) (.slice Ao18 t145.length co18) t145) ∧ Aside0 (Kd.V k61 61 wc w.heap.size (fun k_ => some k_ ≠ ((.slice Ao18 t145.length co18) : Value).ownBlock ∧ some k_ ≠ (v163 : Value).ownBlock ∧ k_ ≠ gb144) (.slice Ao21 y156.length co21) y156) ∧ Aside0 (Kd.R (Kd.int .i64) 3 wc w.heap.size (fun k_ => some k_ ≠ ((.slice Ao18 t145.length co18) : Value).ownBlock) v163 t161) ∧ Aside0 (wc.heap[gb144]? = some (.cells #[.int .u8 a2_0, .int .u8 a2_1] 64 (0, 0))) ∧ Aside0 (Below w.heap.size w wc))
          case first =>
            have H := HC15.out
            clear HC15
            by_cases c29 : t162 = 0
            · rw [if_pos c29] at H
              have c29b0 : (t162 == 0) = true := beq_iff_eq.mpr c29
              have c29b1 : (t162 != 0) = false := bne_eq_false_iff_eq.mpr c29
              clear c29
              (first | rw [c29b0] | (simp only [i64_w, i32_w]; rw [c29b0]) | skip)
              by_cases c30 : t166 = 0
              · rw [if_pos c30] at H
                have c30b0 : (t166 == 0) = true := beq_iff_eq.mpr c30
                have c30b1 : (t166 != 0) = false := bne_eq_false_iff_eq.mpr c30
                clear c30
                by_cases c31 : t170 = 0
                · rw [if_pos c31] at H
                  have c31b0 : (t170 == 0) = true := beq_iff_eq.mpr c31
                  have c31b1 : (t170 != 0) = false := bne_eq_false_iff_eq.mpr c31
                  clear c31
                  by_cases c32 : t172 = 0
                  · rw [if_pos c32] at H
                    have c32b0 : (t172 == 0) = true := beq_iff_eq.mpr c32
                    have c32b1 : (t172 != 0) = false := bne_eq_false_iff_eq.mpr c32
                    clear c32
                    by_cases c33 : (t161.length : Int) = 251
                    · rw [if_pos c33] at H
                      have c33b0 : ((t161.length : Int) == 251) = true := beq_iff_eq.mpr c33
                      have c33b1 : ((t161.length : Int) != 251) = false := bne_eq_false_iff_eq.mpr c33
                      clear c33
                      by_cases c34 : 0 < (t145.length : Int)
                      · rw [if_pos c34] at H
                        have c34b0 : decide (0 < (t145.length : Int)) = true := decide_eq_true c34
                        have c34b1 : decide (0 < t145.length) = true := decide_eq_true (by omega)
                        clear c34
                        obtain ⟨y174, hy174⟩ : ∃ y_ : List Int, y_ = (([rd t145 0] : List Int)) := ⟨_, rfl⟩
                        replace H : ((pianolalaw09_numbers.f k t165 y174).bind fun t177 => (if t177 = true then (if t169 = 1 then (pianolalaw09_VaultHidden.j0 k t145 y156 t161 (t171 != 1) a2_0 a2_1) else (pianolalaw09_VaultHidden.j0 k t145 y156 t161 true a2_0 a2_1)) else (pianolalaw09_VaultHidden.j0 k t145 y156 t161 true a2_0 a2_1))) = some r := by first | (rw [hy174]; with_reducible exact H) | (have H2_ := (Option.bind_some _ _).symm.trans H; rw [hy174]; with_reducible exact H2_) | (have H2_ := (Option.bind_some _ _).symm.trans H; with_reducible exact H2_) | with_reducible exact H | (rw [hy174]; exact H) | exact H
                        have Ny174 := Aside0.mk hy174
                        clear hy174
                        replace H := Option.bind_eq_some_iff.mp H
                        obtain ⟨t177, A350, H⟩ := H
                        replace H : (if t177 = true then (if t169 = 1 then (pianolalaw09_VaultHidden.j0 k t145 y156 t161 (t171 != 1) a2_0 a2_1) else (pianolalaw09_VaultHidden.j0 k t145 y156 t161 true a2_0 a2_1)) else (pianolalaw09_VaultHidden.j0 k t145 y156 t161 true a2_0 a2_1)) = some r := H
                        have A35 := Aside0.mk A350
                        clear A350
                        by_cases c36 : t177 = true
                        · subst c36
                          have H1 : (if t169 = 1 then (pianolalaw09_VaultHidden.j0 k t145 y156 t161 (t171 != 1) a2_0 a2_1) else (pianolalaw09_VaultHidden.j0 k t145 y156 t161 true a2_0 a2_1)) = some r := by rw [if_pos rfl] at H; exact H
                          clear H
                          have H := H1
                          clear H1
                          by_cases c37 : t169 = 1
                          · rw [if_pos c37] at H
                            have c37b0 : (t169 == 1) = true := beq_iff_eq.mpr c37
                            have c37b1 : (t169 != 1) = false := bne_eq_false_iff_eq.mpr c37
                            clear c37
                            have H' := Aside0.mk H
                            clear H
                            obtain ⟨Ao38, co38, eo38⟩ := Kd.R_slice HO164.out
                            subst eo38
                            have p173 : 0 ≤ (0 : Int) := (by omega)
                            have q173 : 0 < (t145.length : Int) := of_decide_eq_true (by first | (with_reducible assumption) | assumption)
                            obtain ⟨ad173, e173, hx173_0⟩ := Kd.at_int (Kd.R_reads' HO147.out).2.2 0 p173 q173
                            cases e173
                            have qi173 : (0 < t145.length) = True := eq_true (by omega)
                            (try rw [show ((0 : Int)).toNat = 0 from rfl] at hx173_0)
                            (try rw [Addr.add_zero'] at hx173_0)
                            replace p173 := eq_true p173
                            replace q173 := eq_true q173
                            go_wp2_with (first | ((with_reducible refine gate_dst (N := 97) rfl ?_); (try (refine gate_guard (by rfl) ?_; dsimp only)); refine Kd.R_lit (Kd.int .i64) _ 3 ?hg (N := 97) ?hd (xs := ([rd t145 0] : List Int)) (inner := [.int .i64 (rd t145 0)]) (ok := fun _ => True) (okp := fun _ => True) ?hr ?hp (fun _ hk => hk) trivial (Below.refl _ _) (Nat.le_refl _) (by simp) ?_; (case hd => rfl); (case hg => rfl); (case hr => first | (go_simp; done) | (go_simp; rfl)); (case hp => exact (Reps.one (show Kd.M (Kd.int .i64) _ _ _ (rd t145 0) [.int .i64 (rd t145 0)] from rfl) (Reps.none _ _))); intro v175 w39 ho40 hb hg_ hnew_; clear hg_ hnew_; (first | rw [← Ny174.out] at ho40 | (simp only [Int.reduceToNat] at ho40; rw [← Ny174.out] at ho40)); have n0_ := Aside0.mk (Kd.R_elder' (by (with_reducible repeat (first | apply Kd.R_alloc | apply Kd.R_drewN | apply Kd.R_drew)); exact HO147.out) (Kd.R_base ho40) hb); have n1_ := Aside0.mk (Kd.R_below (by (with_reducible repeat (first | apply Kd.R_alloc | apply Kd.R_drewN | apply Kd.R_drew)); exact HO150.out) hb); have n2_ := Aside0.mk (Kd.V_elder' (by (with_reducible repeat (first | apply Kd.V_alloc | apply Kd.V_drewN | apply Kd.V_drew)); exact HO155.out) (Kd.R_base ho40) hb); have n3_ := Aside0.mk (Kd.V_elder' (by (with_reducible repeat (first | apply Kd.V_alloc | apply Kd.V_drewN | apply Kd.V_drew)); exact HO160.out) (Kd.R_base ho40) hb); have n4_ := Aside0.mk (Kd.R_elder' (by (with_reducible repeat (first | apply Kd.R_alloc | apply Kd.R_drewN | apply Kd.R_drew)); exact HO164.out) (Kd.R_base ho40) hb); have n5_ := Aside0.mk (Kd.R_elder' (by (with_reducible repeat (first | apply Kd.R_alloc | apply Kd.R_drewN | apply Kd.R_drew)); exact HO168.out) (Kd.R_base ho40) hb); have n6_ := Aside0.mk (Kd.R_lower (Kd.R_new' (Kd.R_new' (Kd.R_new' ho40 (Kd.R_lt (by (with_reducible repeat (first | apply Kd.R_alloc | apply Kd.R_drewN | apply Kd.R_drew)); exact HO147.out))) (Kd.R_lt (by (with_reducible repeat (first | apply Kd.R_alloc | apply Kd.R_drewN | apply Kd.R_drew)); exact HO164.out))) (Kd.R_lt (by (with_reducible repeat (first | apply Kd.R_alloc | apply Kd.R_drewN | apply Kd.R_drew)); exact HO168.out))) (below_size (by repeat (first | (with_reducible first | exact HB.out | apply below_alloc | apply pw_below_drewN | apply below_drew1 | refine below_set ?_ GE144.out) | exact HB.out)))); have n7_ := Aside0.mk (blk_below (g := gb144) (o := .cells #[.int .u8 a2_0, .int .u8 a2_1] 64 (0, 0)) (by (with_reducible repeat (first | refine blk_drewN ?_ _ | refine blk_drew ?_ | refine blk_alloc ?_ _)); exact BK144.out) hb); have n8_ := Aside0.mk (below_step (by repeat (first | (with_reducible first | exact HB.out | apply below_alloc | apply pw_below_drewN | apply below_drew1 | refine below_set ?_ GE144.out) | exact HB.out)) hb); clear HO147; clear HO150; clear HO155; clear HO160; clear HO164; clear HO168; clear BK144; clear HB; have HO147 := n0_; have HO150 := n1_; have HO155 := n2_; have HO160 := n3_; have HO164 := n4_; have HO168 := n5_; have HO176 := n6_; have BK144 := n7_; have HB := n8_; clear n0_ n1_ n2_ n3_ n4_ n5_ n6_ n7_ n8_; clear hb ho40; obtain ⟨Ao41, co41, eo41⟩ := Kd.R_slice HO168.out; subst eo41; obtain ⟨Ao42, co42, eo42⟩ := Kd.R_slice HO176.out; subst eo42) | (go_at_call 32; (with_reducible refine (pianolalaw09_numbers.calls k _ _ t165 _ _ y174 true _ ?side1 ?side2 ?side3 ?side4 A35.out).mono ?_); (case side1 => repeat (first | exact (Kd.R_reads' HO168.out).2.2 | (with_reducible refine Kd.C_alloc ?_ _) | (with_reducible refine Kd.C_drewN ?_ _) | (with_reducible refine Kd.C_drew ?_))); (case side2 => exact (Kd.R_reads' HO168.out).2.1); (case side3 => repeat (first | exact (Kd.R_reads' HO176.out).2.2 | (with_reducible refine Kd.C_alloc ?_ _) | (with_reducible refine Kd.C_drewN ?_ _) | (with_reducible refine Kd.C_drew ?_))); (case side4 => exact (Kd.R_reads' HO176.out).2.1); rintro e w' ⟨rfl, ⟨nd, rfl⟩⟩))
                            go_meet
                            case rel => exact ⟨_, ((t171 != 1)), (by first | rfl | (simp; done) | (simp [*]; done)), H', ⟨by first | omega | exact Nat.le_refl _⟩, ⟨by (with_reducible repeat (first | apply Kd.R_alloc | apply Kd.R_drewN | apply Kd.R_drew)); exact Kd.R_mono HO147.out (fun _ hk => hk.1.1.2)⟩, ⟨by (with_reducible repeat (first | apply Kd.V_alloc | apply Kd.V_drewN | apply Kd.V_drew)); exact Kd.V_mono HO160.out (fun _ hk => ⟨hk.1.1.1.1.2, ⟨hk.1.1.2, hk.1.1.1.2⟩⟩)⟩, ⟨by (with_reducible repeat (first | apply Kd.R_alloc | apply Kd.R_drewN | apply Kd.R_drew)); exact Kd.R_mono HO164.out (fun _ hk => hk.1.1.2)⟩, ⟨by (with_reducible repeat (first | refine blk_drewN ?_ _ | refine blk_drew ?_ | refine blk_alloc ?_ _)); exact BK144.out⟩, ⟨by repeat (first | (with_reducible first | exact HB.out | apply below_alloc | apply pw_below_drewN | apply below_drew1 | refine below_set ?_ GE144.out) | exact HB.out)⟩⟩
                          · rw [if_neg c37] at H
                            have c37b0 : (t169 == 1) = false := beq_eq_false_iff_ne.mpr c37
                            have c37b1 : (t169 != 1) = true := bne_iff_ne.mpr c37
                            have H' := Aside0.mk H
                            clear H
                            obtain ⟨Ao43, co43, eo43⟩ := Kd.R_slice HO164.out
                            subst eo43
                            have p173 : 0 ≤ (0 : Int) := (by omega)
                            have q173 : 0 < (t145.length : Int) := of_decide_eq_true (by first | (with_reducible assumption) | assumption)
                            obtain ⟨ad173, e173, hx173_0⟩ := Kd.at_int (Kd.R_reads' HO147.out).2.2 0 p173 q173
                            cases e173
                            have qi173 : (0 < t145.length) = True := eq_true (by omega)
                            (try rw [show ((0 : Int)).toNat = 0 from rfl] at hx173_0)
                            (try rw [Addr.add_zero'] at hx173_0)
                            replace p173 := eq_true p173
                            replace q173 := eq_true q173
                            go_wp2_with (first | ((with_reducible refine gate_dst (N := 97) rfl ?_); (try (refine gate_guard (by rfl) ?_; dsimp only)); refine Kd.R_lit (Kd.int .i64) _ 3 ?hg (N := 97) ?hd (xs := ([rd t145 0] : List Int)) (inner := [.int .i64 (rd t145 0)]) (ok := fun _ => True) (okp := fun _ => True) ?hr ?hp (fun _ hk => hk) trivial (Below.refl _ _) (Nat.le_refl _) (by simp) ?_; (case hd => rfl); (case hg => rfl); (case hr => first | (go_simp; done) | (go_simp; rfl)); (case hp => exact (Reps.one (show Kd.M (Kd.int .i64) _ _ _ (rd t145 0) [.int .i64 (rd t145 0)] from rfl) (Reps.none _ _))); intro v175 w44 ho45 hb hg_ hnew_; clear hg_ hnew_; (first | rw [← Ny174.out] at ho45 | (simp only [Int.reduceToNat] at ho45; rw [← Ny174.out] at ho45)); have n0_ := Aside0.mk (Kd.R_elder' (by (with_reducible repeat (first | apply Kd.R_alloc | apply Kd.R_drewN | apply Kd.R_drew)); exact HO147.out) (Kd.R_base ho45) hb); have n1_ := Aside0.mk (Kd.R_below (by (with_reducible repeat (first | apply Kd.R_alloc | apply Kd.R_drewN | apply Kd.R_drew)); exact HO150.out) hb); have n2_ := Aside0.mk (Kd.V_elder' (by (with_reducible repeat (first | apply Kd.V_alloc | apply Kd.V_drewN | apply Kd.V_drew)); exact HO155.out) (Kd.R_base ho45) hb); have n3_ := Aside0.mk (Kd.V_elder' (by (with_reducible repeat (first | apply Kd.V_alloc | apply Kd.V_drewN | apply Kd.V_drew)); exact HO160.out) (Kd.R_base ho45) hb); have n4_ := Aside0.mk (Kd.R_elder' (by (with_reducible repeat (first | apply Kd.R_alloc | apply Kd.R_drewN | apply Kd.R_drew)); exact HO164.out) (Kd.R_base ho45) hb); have n5_ := Aside0.mk (Kd.R_elder' (by (with_reducible repeat (first | apply Kd.R_alloc | apply Kd.R_drewN | apply Kd.R_drew)); exact HO168.out) (Kd.R_base ho45) hb); have n6_ := Aside0.mk (Kd.R_lower (Kd.R_new' (Kd.R_new' (Kd.R_new' ho45 (Kd.R_lt (by (with_reducible repeat (first | apply Kd.R_alloc | apply Kd.R_drewN | apply Kd.R_drew)); exact HO147.out))) (Kd.R_lt (by (with_reducible repeat (first | apply Kd.R_alloc | apply Kd.R_drewN | apply Kd.R_drew)); exact HO164.out))) (Kd.R_lt (by (with_reducible repeat (first | apply Kd.R_alloc | apply Kd.R_drewN | apply Kd.R_drew)); exact HO168.out))) (below_size (by repeat (first | (with_reducible first | exact HB.out | apply below_alloc | apply pw_below_drewN | apply below_drew1 | refine below_set ?_ GE144.out) | exact HB.out)))); have n7_ := Aside0.mk (blk_below (g := gb144) (o := .cells #[.int .u8 a2_0, .int .u8 a2_1] 64 (0, 0)) (by (with_reducible repeat (first | refine blk_drewN ?_ _ | refine blk_drew ?_ | refine blk_alloc ?_ _)); exact BK144.out) hb); have n8_ := Aside0.mk (below_step (by repeat (first | (with_reducible first | exact HB.out | apply below_alloc | apply pw_below_drewN | apply below_drew1 | refine below_set ?_ GE144.out) | exact HB.out)) hb); clear HO147; clear HO150; clear HO155; clear HO160; clear HO164; clear HO168; clear BK144; clear HB; have HO147 := n0_; have HO150 := n1_; have HO155 := n2_; have HO160 := n3_; have HO164 := n4_; have HO168 := n5_; have HO176 := n6_; have BK144 := n7_; have HB := n8_; clear n0_ n1_ n2_ n3_ n4_ n5_ n6_ n7_ n8_; clear hb ho45; obtain ⟨Ao46, co46, eo46⟩ := Kd.R_slice HO168.out; subst eo46; obtain ⟨Ao47, co47, eo47⟩ := Kd.R_slice HO176.out; subst eo47) | (go_at_call 32; (with_reducible refine (pianolalaw09_numbers.calls k _ _ t165 _ _ y174 true _ ?side1 ?side2 ?side3 ?side4 A35.out).mono ?_); (case side1 => repeat (first | exact (Kd.R_reads' HO168.out).2.2 | (with_reducible refine Kd.C_alloc ?_ _) | (with_reducible refine Kd.C_drewN ?_ _) | (with_reducible refine Kd.C_drew ?_))); (case side2 => exact (Kd.R_reads' HO168.out).2.1); (case side3 => repeat (first | exact (Kd.R_reads' HO176.out).2.2 | (with_reducible refine Kd.C_alloc ?_ _) | (with_reducible refine Kd.C_drewN ?_ _) | (with_reducible refine Kd.C_drew ?_))); (case side4 => exact (Kd.R_reads' HO176.out).2.1); rintro e w' ⟨rfl, ⟨nd, rfl⟩⟩))
                            go_meet
                            case rel => exact ⟨_, (true), (by first | rfl | (simp; done) | (simp [*]; done)), H', ⟨by first | omega | exact Nat.le_refl _⟩, ⟨by (with_reducible repeat (first | apply Kd.R_alloc | apply Kd.R_drewN | apply Kd.R_drew)); exact Kd.R_mono HO147.out (fun _ hk => hk.1.1.2)⟩, ⟨by (with_reducible repeat (first | apply Kd.V_alloc | apply Kd.V_drewN | apply Kd.V_drew)); exact Kd.V_mono HO160.out (fun _ hk => ⟨hk.1.1.1.1.2, ⟨hk.1.1.2, hk.1.1.1.2⟩⟩)⟩, ⟨by (with_reducible repeat (first | apply Kd.R_alloc | apply Kd.R_drewN | apply Kd.R_drew)); exact Kd.R_mono HO164.out (fun _ hk => hk.1.1.2)⟩, ⟨by (with_reducible repeat (first | refine blk_drewN ?_ _ | refine blk_drew ?_ | refine blk_alloc ?_ _)); exact BK144.out⟩, ⟨by repeat (first | (with_reducible first | exact HB.out | apply below_alloc | apply pw_below_drewN | apply below_drew1 | refine below_set ?_ GE144.out) | exact HB.out)⟩⟩
                        · replace c36 := Bool.eq_false_iff.mpr c36
                          subst c36
                          have H1 : (pianolalaw09_VaultHidden.j0 k t145 y156 t161 true a2_0 a2_1) = some r := by rw [if_neg (show ¬ (false = true) by decide)] at H; exact H
                          clear H
                          have H := H1
                          clear H1
                          have H' := Aside0.mk H
                          clear H
                          obtain ⟨Ao48, co48, eo48⟩ := Kd.R_slice HO164.out
                          subst eo48
                          have p173 : 0 ≤ (0 : Int) := (by omega)
                          have q173 : 0 < (t145.length : Int) := of_decide_eq_true (by first | (with_reducible assumption) | assumption)
                          obtain ⟨ad173, e173, hx173_0⟩ := Kd.at_int (Kd.R_reads' HO147.out).2.2 0 p173 q173
                          cases e173
                          have qi173 : (0 < t145.length) = True := eq_true (by omega)
                          (try rw [show ((0 : Int)).toNat = 0 from rfl] at hx173_0)
                          (try rw [Addr.add_zero'] at hx173_0)
                          replace p173 := eq_true p173
                          replace q173 := eq_true q173
                          go_wp2_with (first | ((with_reducible refine gate_dst (N := 97) rfl ?_); (try (refine gate_guard (by rfl) ?_; dsimp only)); refine Kd.R_lit (Kd.int .i64) _ 3 ?hg (N := 97) ?hd (xs := ([rd t145 0] : List Int)) (inner := [.int .i64 (rd t145 0)]) (ok := fun _ => True) (okp := fun _ => True) ?hr ?hp (fun _ hk => hk) trivial (Below.refl _ _) (Nat.le_refl _) (by simp) ?_; (case hd => rfl); (case hg => rfl); (case hr => first | (go_simp; done) | (go_simp; rfl)); (case hp => exact (Reps.one (show Kd.M (Kd.int .i64) _ _ _ (rd t145 0) [.int .i64 (rd t145 0)] from rfl) (Reps.none _ _))); intro v175 w49 ho50 hb hg_ hnew_; clear hg_ hnew_; (first | rw [← Ny174.out] at ho50 | (simp only [Int.reduceToNat] at ho50; rw [← Ny174.out] at ho50)); have n0_ := Aside0.mk (Kd.R_elder' (by (with_reducible repeat (first | apply Kd.R_alloc | apply Kd.R_drewN | apply Kd.R_drew)); exact HO147.out) (Kd.R_base ho50) hb); have n1_ := Aside0.mk (Kd.R_below (by (with_reducible repeat (first | apply Kd.R_alloc | apply Kd.R_drewN | apply Kd.R_drew)); exact HO150.out) hb); have n2_ := Aside0.mk (Kd.V_elder' (by (with_reducible repeat (first | apply Kd.V_alloc | apply Kd.V_drewN | apply Kd.V_drew)); exact HO155.out) (Kd.R_base ho50) hb); have n3_ := Aside0.mk (Kd.V_elder' (by (with_reducible repeat (first | apply Kd.V_alloc | apply Kd.V_drewN | apply Kd.V_drew)); exact HO160.out) (Kd.R_base ho50) hb); have n4_ := Aside0.mk (Kd.R_elder' (by (with_reducible repeat (first | apply Kd.R_alloc | apply Kd.R_drewN | apply Kd.R_drew)); exact HO164.out) (Kd.R_base ho50) hb); have n5_ := Aside0.mk (Kd.R_elder' (by (with_reducible repeat (first | apply Kd.R_alloc | apply Kd.R_drewN | apply Kd.R_drew)); exact HO168.out) (Kd.R_base ho50) hb); have n6_ := Aside0.mk (Kd.R_lower (Kd.R_new' (Kd.R_new' (Kd.R_new' ho50 (Kd.R_lt (by (with_reducible repeat (first | apply Kd.R_alloc | apply Kd.R_drewN | apply Kd.R_drew)); exact HO147.out))) (Kd.R_lt (by (with_reducible repeat (first | apply Kd.R_alloc | apply Kd.R_drewN | apply Kd.R_drew)); exact HO164.out))) (Kd.R_lt (by (with_reducible repeat (first | apply Kd.R_alloc | apply Kd.R_drewN | apply Kd.R_drew)); exact HO168.out))) (below_size (by repeat (first | (with_reducible first | exact HB.out | apply below_alloc | apply pw_below_drewN | apply below_drew1 | refine below_set ?_ GE144.out) | exact HB.out)))); have n7_ := Aside0.mk (blk_below (g := gb144) (o := .cells #[.int .u8 a2_0, .int .u8 a2_1] 64 (0, 0)) (by (with_reducible repeat (first | refine blk_drewN ?_ _ | refine blk_drew ?_ | refine blk_alloc ?_ _)); exact BK144.out) hb); have n8_ := Aside0.mk (below_step (by repeat (first | (with_reducible first | exact HB.out | apply below_alloc | apply pw_below_drewN | apply below_drew1 | refine below_set ?_ GE144.out) | exact HB.out)) hb); clear HO147; clear HO150; clear HO155; clear HO160; clear HO164; clear HO168; clear BK144; clear HB; have HO147 := n0_; have HO150 := n1_; have HO155 := n2_; have HO160 := n3_; have HO164 := n4_; have HO168 := n5_; have HO176 := n6_; have BK144 := n7_; have HB := n8_; clear n0_ n1_ n2_ n3_ n4_ n5_ n6_ n7_ n8_; clear hb ho50; obtain ⟨Ao51, co51, eo51⟩ := Kd.R_slice HO168.out; subst eo51; obtain ⟨Ao52, co52, eo52⟩ := Kd.R_slice HO176.out; subst eo52) | (go_at_call 32; (with_reducible refine (pianolalaw09_numbers.calls k _ _ t165 _ _ y174 false _ ?side1 ?side2 ?side3 ?side4 A35.out).mono ?_); (case side1 => repeat (first | exact (Kd.R_reads' HO168.out).2.2 | (with_reducible refine Kd.C_alloc ?_ _) | (with_reducible refine Kd.C_drewN ?_ _) | (with_reducible refine Kd.C_drew ?_))); (case side2 => exact (Kd.R_reads' HO168.out).2.1); (case side3 => repeat (first | exact (Kd.R_reads' HO176.out).2.2 | (with_reducible refine Kd.C_alloc ?_ _) | (with_reducible refine Kd.C_drewN ?_ _) | (with_reducible refine Kd.C_drew ?_))); (case side4 => exact (Kd.R_reads' HO176.out).2.1); rintro e w' ⟨rfl, ⟨nd, rfl⟩⟩))
                          go_meet
                          case rel => exact ⟨_, (true), (by first | rfl | (simp; done) | (simp [*]; done)), H', ⟨by first | omega | exact Nat.le_refl _⟩, ⟨by (with_reducible repeat (first | apply Kd.R_alloc | apply Kd.R_drewN | apply Kd.R_drew)); exact Kd.R_mono HO147.out (fun _ hk => hk.1.1.2)⟩, ⟨by (with_reducible repeat (first | apply Kd.V_alloc | apply Kd.V_drewN | apply Kd.V_drew)); exact Kd.V_mono HO160.out (fun _ hk => ⟨hk.1.1.1.1.2, ⟨hk.1.1.2, hk.1.1.1.2⟩⟩)⟩, ⟨by (with_reducible repeat (first | apply Kd.R_alloc | apply Kd.R_drewN | apply Kd.R_drew)); exact Kd.R_mono HO164.out (fun _ hk => hk.1.1.2)⟩, ⟨by (with_reducible repeat (first | refine blk_drewN ?_ _ | refine blk_drew ?_ | refine blk_alloc ?_ _)); exact BK144.out⟩, ⟨by repeat (first | (with_reducible first | exact HB.out | apply below_alloc | apply pw_below_drewN | apply below_drew1 | refine below_set ?_ GE144.out) | exact HB.out)⟩⟩
                      · rw [if_neg c34] at H
                        exact absurd H (by simp)
                    · rw [if_neg c33] at H
                      have c33b0 : ((t161.length : Int) == 251) = false := beq_eq_false_iff_ne.mpr c33
                      have c33b1 : ((t161.length : Int) != 251) = true := bne_iff_ne.mpr c33
                      have H' := Aside0.mk H
                      clear H
                      obtain ⟨Ao53, co53, eo53⟩ := Kd.R_slice HO164.out
                      subst eo53
                      go_wp2
                      go_meet
                      case rel => exact ⟨_, (true), (by first | rfl | (simp; done) | (simp [*]; done)), H', ⟨by first | omega | exact Nat.le_refl _⟩, ⟨by (with_reducible repeat (first | apply Kd.R_alloc | apply Kd.R_drewN | apply Kd.R_drew)); exact Kd.R_mono HO147.out (fun _ hk => hk.1.2)⟩, ⟨by (with_reducible repeat (first | apply Kd.V_alloc | apply Kd.V_drewN | apply Kd.V_drew)); exact Kd.V_mono HO160.out (fun _ hk => ⟨hk.1.1.1.2, ⟨hk.1.2, hk.1.1.2⟩⟩)⟩, ⟨by (with_reducible repeat (first | apply Kd.R_alloc | apply Kd.R_drewN | apply Kd.R_drew)); exact Kd.R_mono HO164.out (fun _ hk => hk.1.2)⟩, ⟨by (with_reducible repeat (first | refine blk_drewN ?_ _ | refine blk_drew ?_ | refine blk_alloc ?_ _)); exact BK144.out⟩, ⟨by repeat (first | (with_reducible first | exact HB.out | apply below_alloc | apply pw_below_drewN | apply below_drew1 | refine below_set ?_ GE144.out) | exact HB.out)⟩⟩
                  · rw [if_neg c32] at H
                    have c32b0 : (t172 == 0) = false := beq_eq_false_iff_ne.mpr c32
                    have c32b1 : (t172 != 0) = true := bne_iff_ne.mpr c32
                    have H' := Aside0.mk H
                    clear H
                    go_wp2
                    go_meet
                    case rel => exact ⟨_, (true), (by first | rfl | (simp; done) | (simp [*]; done)), H', ⟨by first | omega | exact Nat.le_refl _⟩, ⟨by (with_reducible repeat (first | apply Kd.R_alloc | apply Kd.R_drewN | apply Kd.R_drew)); exact Kd.R_mono HO147.out (fun _ hk => hk.1.2)⟩, ⟨by (with_reducible repeat (first | apply Kd.V_alloc | apply Kd.V_drewN | apply Kd.V_drew)); exact Kd.V_mono HO160.out (fun _ hk => ⟨hk.1.1.1.2, ⟨hk.1.2, hk.1.1.2⟩⟩)⟩, ⟨by (with_reducible repeat (first | apply Kd.R_alloc | apply Kd.R_drewN | apply Kd.R_drew)); exact Kd.R_mono HO164.out (fun _ hk => hk.1.2)⟩, ⟨by (with_reducible repeat (first | refine blk_drewN ?_ _ | refine blk_drew ?_ | refine blk_alloc ?_ _)); exact BK144.out⟩, ⟨by repeat (first | (with_reducible first | exact HB.out | apply below_alloc | apply pw_below_drewN | apply below_drew1 | refine below_set ?_ GE144.out) | exact HB.out)⟩⟩
                · rw [if_neg c31] at H
                  have c31b0 : (t170 == 0) = false := beq_eq_false_iff_ne.mpr c31
                  have c31b1 : (t170 != 0) = true := bne_iff_ne.mpr c31
                  have H' := Aside0.mk H
                  clear H
                  go_wp2
                  go_meet
                  case rel => exact ⟨_, (true), (by first | rfl | (simp; done) | (simp [*]; done)), H', ⟨by first | omega | exact Nat.le_refl _⟩, ⟨by (with_reducible repeat (first | apply Kd.R_alloc | apply Kd.R_drewN | apply Kd.R_drew)); exact Kd.R_mono HO147.out (fun _ hk => hk.1.2)⟩, ⟨by (with_reducible repeat (first | apply Kd.V_alloc | apply Kd.V_drewN | apply Kd.V_drew)); exact Kd.V_mono HO160.out (fun _ hk => ⟨hk.1.1.1.2, ⟨hk.1.2, hk.1.1.2⟩⟩)⟩, ⟨by (with_reducible repeat (first | apply Kd.R_alloc | apply Kd.R_drewN | apply Kd.R_drew)); exact Kd.R_mono HO164.out (fun _ hk => hk.1.2)⟩, ⟨by (with_reducible repeat (first | refine blk_drewN ?_ _ | refine blk_drew ?_ | refine blk_alloc ?_ _)); exact BK144.out⟩, ⟨by repeat (first | (with_reducible first | exact HB.out | apply below_alloc | apply pw_below_drewN | apply below_drew1 | refine below_set ?_ GE144.out) | exact HB.out)⟩⟩
              · rw [if_neg c30] at H
                have c30b0 : (t166 == 0) = false := beq_eq_false_iff_ne.mpr c30
                have c30b1 : (t166 != 0) = true := bne_iff_ne.mpr c30
                have H' := Aside0.mk H
                clear H
                go_wp2
                go_meet
                case rel => exact ⟨_, (true), (by first | rfl | (simp; done) | (simp [*]; done)), H', ⟨by first | omega | exact Nat.le_refl _⟩, ⟨by (with_reducible repeat (first | apply Kd.R_alloc | apply Kd.R_drewN | apply Kd.R_drew)); exact Kd.R_mono HO147.out (fun _ hk => hk.1.2)⟩, ⟨by (with_reducible repeat (first | apply Kd.V_alloc | apply Kd.V_drewN | apply Kd.V_drew)); exact Kd.V_mono HO160.out (fun _ hk => ⟨hk.1.1.1.2, ⟨hk.1.2, hk.1.1.2⟩⟩)⟩, ⟨by (with_reducible repeat (first | apply Kd.R_alloc | apply Kd.R_drewN | apply Kd.R_drew)); exact Kd.R_mono HO164.out (fun _ hk => hk.1.2)⟩, ⟨by (with_reducible repeat (first | refine blk_drewN ?_ _ | refine blk_drew ?_ | refine blk_alloc ?_ _)); exact BK144.out⟩, ⟨by repeat (first | (with_reducible first | exact HB.out | apply below_alloc | apply pw_below_drewN | apply below_drew1 | refine below_set ?_ GE144.out) | exact HB.out)⟩⟩
            · rw [if_neg c29] at H
              have c29b0 : (t162 == 0) = false := beq_eq_false_iff_ne.mpr c29
              have c29b1 : (t162 != 0) = true := bne_iff_ne.mpr c29
              (first | rw [c29b0] | (simp only [i64_w, i32_w]; rw [c29b0]) | skip)
              have H' := Aside0.mk H
              clear H
              go_wp2
              go_meet
              case rel => exact ⟨_, (true), (by first | rfl | (simp; done) | (simp [*]; done)), H', ⟨by first | omega | exact Nat.le_refl _⟩, ⟨by (with_reducible repeat (first | apply Kd.R_alloc | apply Kd.R_drewN | apply Kd.R_drew)); exact Kd.R_mono HO147.out (fun _ hk => hk.1.2)⟩, ⟨by (with_reducible repeat (first | apply Kd.V_alloc | apply Kd.V_drewN | apply Kd.V_drew)); exact Kd.V_mono HO160.out (fun _ hk => ⟨hk.1.1.1.2, ⟨hk.1.2, hk.1.1.2⟩⟩)⟩, ⟨by (with_reducible repeat (first | apply Kd.R_alloc | apply Kd.R_drewN | apply Kd.R_drew)); exact Kd.R_mono HO164.out (fun _ hk => hk.1.2)⟩, ⟨by (with_reducible repeat (first | refine blk_drewN ?_ _ | refine blk_drew ?_ | refine blk_alloc ?_ _)); exact BK144.out⟩, ⟨by repeat (first | (with_reducible first | exact HB.out | apply below_alloc | apply pw_below_drewN | apply below_drew1 | refine below_set ?_ GE144.out) | exact HB.out)⟩⟩
          case rest =>
            clear HC15
            try clear c1
            try clear p1
            try clear q1
            try clear hx1
            try clear qi1
            try clear c2
            try clear p2
            try clear q2
            try clear c3
            try clear c4
            try clear c6
            try clear c6b0
            try clear c6b1
            try clear p6
            try clear c7
            try clear c7b0
            try clear c7b1
            try clear c9
            try clear c9b0
            try clear c9b1
            try clear c10
            try clear c10b0
            try clear c10b1
            try clear c11
            try clear p17
            try clear q17
            try clear hx17
            try clear qi17
            try clear q20
            try clear q22
            try clear c29
            try clear c29b0
            try clear c29b1
            try clear c30
            try clear c30b0
            try clear c30b1
            try clear c31
            try clear c31b0
            try clear c31b1
            try clear c32
            try clear c32b0
            try clear c32b1
            try clear c33
            try clear c33b0
            try clear c33b1
            try clear c34
            try clear c34b0
            try clear c34b1
            try clear c35
            try clear c36
            try clear c37
            try clear c37b0
            try clear c37b1
            try clear c41
            try clear c42
            try clear hcz25_0
            try clear hcz25_1
            try clear hcz27_0
            try clear hcz27_1
            try clear hfz25_0
            try clear hfz25_1
            try clear hfz27_0
            try clear hfz27_1
            try clear hx173_0
            try clear p173
            try clear q173
            try clear q20
            try clear q22
            obtain ⟨kq, x108_14, rfl, HA, HJ14, HO_7, HO_9, HO_10, BK144, HB⟩ := hcut
            cases kq with
            | zero => exact absurd HA.out (by simp [pianolalaw09_VaultHidden.j0])
            | succ kj14 =>
              have H := HA.out
              clear HA
              simp only [pianolalaw09_VaultHidden.j0] at H
              by_cases c54 : x108_14 = true
              · subst c54
                have H1 : (some false) = some r := by rw [if_pos rfl] at H; exact H
                clear H
                have H := H1
                clear H1
                obtain rfl := Option.some.inj H
                go_wp2
                go_ret
                exact ⟨by first | rfl | (simp [errW_none, errW_some] <;> rfl) | (simp only [← hji8]; first | rfl | (simp [errW_none, errW_some] <;> rfl)) | (simp [*, errW_none, errW_some] <;> rfl), by repeat (first | (with_reducible first | exact HB.out | apply below_alloc | apply pw_below_drewN | apply below_drew1 | refine below_set ?_ GE144.out) | exact HB.out)⟩
              · replace c54 := Bool.eq_false_iff.mpr c54
                subst c54
                have H1 : (pianolalaw09_VaultHidden.l0 kj14 t145 y156 t161 (t161.length : Int) 0 a2_0 a2_1) = some r := by rw [if_neg (show ¬ (false = true) by decide)] at H; exact H
                clear H
                have H := H1
                clear H1
                have H' := Aside0.mk H
                clear H
                obtain ⟨Ao55, co55, eo55⟩ := Kd.R_slice HO_10.out
                subst eo55
                go_wp2
                go_loopg [111] kj14 (fun kq v111 w' => ∃ (x111_2 : Int), v111 = .int .i64 x111_2 ∧ Aside0 (pianolalaw09_VaultHidden.l0 kq t145 y156 t161 (t161.length : Int) x111_2 a2_0 a2_1 = some r) ∧ Aside0 (kq ≤ kj14) ∧ Aside0 (Kd.R (Kd.int .i64) 3 w' w.heap.size (fun k_ => some k_ ≠ ((.slice Ao55 t161.length co55) : Value).ownBlock) (.slice Ao18 t145.length co18) t145) ∧ Aside0 (Kd.V k61 61 w' w.heap.size (fun k_ => some k_ ≠ ((.slice Ao18 t145.length co18) : Value).ownBlock ∧ some k_ ≠ ((.slice Ao55 t161.length co55) : Value).ownBlock ∧ k_ ≠ gb144) (.slice Ao21 y156.length co21) y156) ∧ Aside0 (Kd.R (Kd.int .i64) 3 w' w.heap.size (fun k_ => some k_ ≠ ((.slice Ao18 t145.length co18) : Value).ownBlock) (.slice Ao55 t161.length co55) t161) ∧ Aside0 (w'.heap[gb144]? = some (.cells #[.int .u8 a2_0, .int .u8 a2_1] 64 (0, 0))) ∧ Aside0 (Below w.heap.size w w'))
                case atStart => exact ⟨(0), (by first | rfl | (simp; done) | (simp [*]; done)), H', ⟨Nat.le_refl _⟩, ⟨by (with_reducible repeat (first | apply Kd.R_alloc | apply Kd.R_drewN | apply Kd.R_drew)); exact HO_7.out⟩, ⟨by (with_reducible repeat (first | apply Kd.V_alloc | apply Kd.V_drewN | apply Kd.V_drew)); exact HO_9.out⟩, ⟨by (with_reducible repeat (first | apply Kd.R_alloc | apply Kd.R_drewN | apply Kd.R_drew)); exact HO_10.out⟩, ⟨by (with_reducible repeat (first | refine blk_drewN ?_ _ | refine blk_drew ?_ | refine blk_alloc ?_ _)); exact BK144.out⟩, ⟨by repeat (first | (with_reducible first | exact HB.out | apply below_alloc | apply pw_below_drewN | apply below_drew1 | refine below_set ?_ GE144.out) | exact HB.out)⟩⟩
                case round =>
                  clear H'
                  try clear c1
                  try clear p1
                  try clear q1
                  try clear hx1
                  try clear qi1
                  try clear c2
                  try clear p2
                  try clear q2
                  try clear c3
                  try clear c4
                  try clear c5
                  try clear c6
                  try clear c6b0
                  try clear c6b1
                  try clear p6
                  try clear c7
                  try clear c7b0
                  try clear c7b1
                  try clear c9
                  try clear c9b0
                  try clear c9b1
                  try clear c10
                  try clear c10b0
                  try clear c10b1
                  try clear c11
                  try clear p17
                  try clear q17
                  try clear hx17
                  try clear qi17
                  try clear q20
                  try clear q22
                  try clear c29
                  try clear c29b0
                  try clear c29b1
                  try clear c30
                  try clear c30b0
                  try clear c30b1
                  try clear c31
                  try clear c31b0
                  try clear c31b1
                  try clear c32
                  try clear c32b0
                  try clear c32b1
                  try clear c33
                  try clear c33b0
                  try clear c33b1
                  try clear c34
                  try clear c34b0
                  try clear c34b1
                  try clear c35
                  try clear c36
                  try clear c37
                  try clear c37b0
                  try clear c37b1
                  try clear c41
                  try clear c42
                  try clear c54
                  try clear hcz25_0
                  try clear hcz25_1
                  try clear hcz27_0
                  try clear hcz27_1
                  try clear hfz25_0
                  try clear hfz25_1
                  try clear hfz27_0
                  try clear hfz27_1
                  try clear hx173_0
                  try clear p1
                  try clear p17
                  try clear p173
                  try clear p2
                  try clear p6
                  try clear q1
                  try clear q17
                  try clear q173
                  try clear q2
                  try clear q20
                  try clear q22
                  obtain ⟨x111_2, rfl, HA, HK2, HO_7, HO_9, HO_109, BK144, HB⟩ := hrel
                  cases gk with
                  | zero => exact absurd HA.out (by simp [pianolalaw09_VaultHidden.l0])
                  | succ k2 =>
                    have H := HA.out
                    clear HA
                    simp only [pianolalaw09_VaultHidden.l0] at H
                    by_cases c56 : x111_2 < (t161.length : Int)
                    · rw [if_pos c56] at H
                      have c56b0 : decide (x111_2 < (t161.length : Int)) = true := decide_eq_true c56
                      clear c56
                      by_cases c57 : 0 ≤ x111_2
                      · rw [if_pos c57] at H
                        have c57b0 : decide (0 ≤ x111_2) = true := decide_eq_true c57
                        clear c57
                        by_cases c58 : x111_2 < (t161.length : Int)
                        · rw [if_pos c58] at H
                          have c58b0 : decide (x111_2 < (t161.length : Int)) = true := decide_eq_true c58
                          clear c58
                          by_cases c59 : (rd t161 x111_2) = x111_2
                          · rw [if_pos c59] at H
                            have c59b0 : ((rd t161 x111_2) == x111_2) = true := beq_iff_eq.mpr c59
                            have c59b1 : ((rd t161 x111_2) != x111_2) = false := bne_eq_false_iff_eq.mpr c59
                            clear c59
                            have H' := Aside0.mk H
                            clear H
                            have p178 : 0 ≤ (x111_2 : Int) := of_decide_eq_true (by first | (with_reducible assumption) | assumption)
                            have q178 : x111_2 < (t161.length : Int) := of_decide_eq_true (by first | (with_reducible assumption) | assumption)
                            obtain ⟨ad178, e178, hx178_0⟩ := Kd.at_int (Kd.R_reads' HO_109.out).2.2 x111_2 p178 q178
                            cases e178
                            replace p178 := eq_true p178
                            replace q178 := eq_true q178
                            go_wp2
                            go_roundg k2
                            case measure => have := HJ14.out; have := HK2.out; omega
                            case rel => exact ⟨(wrap64 (x111_2 + 1)), (by first | rfl | (simp; done) | (simp [*]; done)), H', ⟨by have := HJ14.out; have := HK2.out; omega⟩, ⟨by (with_reducible repeat (first | apply Kd.R_alloc | apply Kd.R_drewN | apply Kd.R_drew)); exact HO_7.out⟩, ⟨by (with_reducible repeat (first | apply Kd.V_alloc | apply Kd.V_drewN | apply Kd.V_drew)); exact HO_9.out⟩, ⟨by (with_reducible repeat (first | apply Kd.R_alloc | apply Kd.R_drewN | apply Kd.R_drew)); exact HO_109.out⟩, ⟨by (with_reducible repeat (first | refine blk_drewN ?_ _ | refine blk_drew ?_ | refine blk_alloc ?_ _)); exact BK144.out⟩, ⟨by repeat (first | (with_reducible first | exact HB.out | apply below_alloc | apply pw_below_drewN | apply below_drew1 | refine below_set ?_ GE144.out) | exact HB.out)⟩⟩
                          · rw [if_neg c59] at H
                            have c59b0 : ((rd t161 x111_2) == x111_2) = false := beq_eq_false_iff_ne.mpr c59
                            have c59b1 : ((rd t161 x111_2) != x111_2) = true := bne_iff_ne.mpr c59
                            obtain rfl := Option.some.inj H
                            have p178 : 0 ≤ (x111_2 : Int) := of_decide_eq_true (by first | (with_reducible assumption) | assumption)
                            have q178 : x111_2 < (t161.length : Int) := of_decide_eq_true (by first | (with_reducible assumption) | assumption)
                            obtain ⟨ad178, e178, hx178_0⟩ := Kd.at_int (Kd.R_reads' HO_109.out).2.2 x111_2 p178 q178
                            cases e178
                            replace p178 := eq_true p178
                            replace q178 := eq_true q178
                            go_wp2
                            go_ret
                            exact ⟨by first | rfl | (simp [errW_none, errW_some] <;> rfl) | (simp only [← hji8]; first | rfl | (simp [errW_none, errW_some] <;> rfl)) | (simp [*, errW_none, errW_some] <;> rfl), by repeat (first | (with_reducible first | exact HB.out | apply below_alloc | apply pw_below_drewN | apply below_drew1 | refine below_set ?_ GE144.out) | exact HB.out)⟩
                        · rw [if_neg c58] at H
                          exact absurd H (by simp)
                      · rw [if_neg c57] at H
                        exact absurd H (by simp)
                    · rw [if_neg c56] at H
                      have c56b0 : decide (x111_2 < (t161.length : Int)) = false := decide_eq_false c56
                      clear c56
                      by_cases c60 : (y156.length : Int) = 0
                      · rw [if_pos c60] at H
                        have c60b0 : ((y156.length : Int) == 0) = true := beq_iff_eq.mpr c60
                        have c60b1 : ((y156.length : Int) != 0) = false := bne_eq_false_iff_eq.mpr c60
                        clear c60
                        replace H := Option.bind_eq_some_iff.mp H
                        obtain ⟨t179, A610, H⟩ := H
                        replace H : (some t179) = some r := H
                        have A61 := Aside0.mk A610
                        clear A610
                        obtain rfl := Option.some.inj H
                        go_wp2_with (first | ((with_reducible refine gate_callee (f := 17) rfl ?_); refine goesL_ (some 124) rfl rfl Try.func17 (by kernel_rfl) rfl #[] rfl (by (try simp only [List.map_toArray, List.map_cons, List.map_nil]); first | done | rfl | (simp only [List.length_drop, List.length_take]; rfl)) ?_; (with_reducible refine (pianolalaw09_works.calls  t179 _ A61.out).mono ?_); rintro e w62 ⟨rfl, hb⟩; refine ⟨_, rfl, ?_⟩; have n0_ := Aside0.mk (Kd.R_below (by (with_reducible repeat (first | apply Kd.R_alloc | apply Kd.R_drewN | apply Kd.R_drew)); exact HO_7.out) hb); have n1_ := Aside0.mk (Kd.V_below (by (with_reducible repeat (first | apply Kd.V_alloc | apply Kd.V_drewN | apply Kd.V_drew)); exact HO_9.out) hb); have n2_ := Aside0.mk (Kd.R_below (by (with_reducible repeat (first | apply Kd.R_alloc | apply Kd.R_drewN | apply Kd.R_drew)); exact HO_109.out) hb); have n3_ := Aside0.mk (blk_below (g := gb144) (o := .cells #[.int .u8 a2_0, .int .u8 a2_1] 64 (0, 0)) (by (with_reducible repeat (first | refine blk_drewN ?_ _ | refine blk_drew ?_ | refine blk_alloc ?_ _)); exact BK144.out) hb); have n4_ := Aside0.mk (below_step (by repeat (first | (with_reducible first | exact HB.out | apply below_alloc | apply pw_below_drewN | apply below_drew1 | refine below_set ?_ GE144.out) | exact HB.out)) hb); clear HO_7; clear HO_9; clear HO_109; clear BK144; clear HB; have HO_7 := n0_; have HO_9 := n1_; have HO_109 := n2_; have BK144 := n3_; have HB := n4_; clear n0_ n1_ n2_ n3_ n4_; (try clear hb); (try clear hb2); (try clear hk); (try clear hi)))
                        go_ret
                        exact ⟨by first | rfl | (simp [errW_none, errW_some] <;> rfl) | (simp only [← hji8]; first | rfl | (simp [errW_none, errW_some] <;> rfl)) | (simp [*, errW_none, errW_some] <;> rfl), by repeat (first | (with_reducible first | exact HB.out | apply below_alloc | apply pw_below_drewN | apply below_drew1 | refine below_set ?_ GE144.out) | exact HB.out)⟩
                      · rw [if_neg c60] at H
                        have c60b0 : ((y156.length : Int) == 0) = false := beq_eq_false_iff_ne.mpr c60
                        have c60b1 : ((y156.length : Int) != 0) = true := bne_iff_ne.mpr c60
                        have c60b2 : ¬ (y156 = []) := fun h_ => c60 (by rw [h_]; rfl)
                        obtain ⟨ji63, hji63⟩ : ∃ j_ : Int, (wrap64 ((y156.length : Int) - 1)) = j_ := ⟨_, rfl⟩
                        replace H : (if 0 ≤ (ji63) then (if (ji63) ≤ (y156.length : Int) then ((vault_Count.f k2 (t145.length : Int) (y156.take ((ji63) : Int).toNat) (Int.tmod (wrap64 (a2_0)) 251)).bind fun bt185 => (if bt185.2 = 0 then (if bt185.1 = 251 then ((pianolalaw09_works.f).bind fun t187 => (some t187)) else (some false)) else (some false))) else (none)) else (none)) = some r := by first | (rw [hji63] at H; exact H) | (simp only [hji63] at H ⊢; exact H)
                        have hji63w : (IntKind.i64.wrap ((y156.length : Int) - 1)) = ji63 := (i64_w _).trans hji63
                        by_cases c64 : 0 ≤ (ji63)
                        · rw [if_pos c64] at H
                          have c64b0 := eq_true c64
                          have c64b1 : decide (0 ≤ (ji63)) = true := decide_eq_true c64
                          clear c64
                          by_cases c65 : (ji63) ≤ (y156.length : Int)
                          · rw [if_pos c65] at H
                            have c65b0 := eq_true c65
                            have c65b1 : decide ((ji63) ≤ (y156.length : Int)) = true := decide_eq_true c65
                            clear c65
                            obtain ⟨y180, hy180⟩ : ∃ y_ : List (S61), y_ = (y156.take ((ji63) : Int).toNat) := ⟨_, rfl⟩
                            replace H : ((vault_Count.f k2 (t145.length : Int) y180 (Int.tmod (wrap64 (a2_0)) 251)).bind fun bt185 => (if bt185.2 = 0 then (if bt185.1 = 251 then ((pianolalaw09_works.f).bind fun t187 => (some t187)) else (some false)) else (some false))) = some r := by first | (rw [hy180]; with_reducible exact H) | (have H2_ := (Option.bind_some _ _).symm.trans H; rw [hy180]; with_reducible exact H2_) | (have H2_ := (Option.bind_some _ _).symm.trans H; with_reducible exact H2_) | with_reducible exact H | (rw [hy180]; exact H) | exact H
                            have Ny180 := Aside0.mk hy180
                            clear hy180
                            replace H := Option.bind_eq_some_iff.mp H
                            obtain ⟨⟨t185, t186⟩, A660, H⟩ := H
                            replace H : (if t186 = 0 then (if t185 = 251 then ((pianolalaw09_works.f).bind fun t187 => (some t187)) else (some false)) else (some false)) = some r := H
                            have A66 := Aside0.mk A660
                            clear A660
                            by_cases c67 : t186 = 0
                            · rw [if_pos c67] at H
                              have c67b0 : (t186 == 0) = true := beq_iff_eq.mpr c67
                              have c67b1 : (t186 != 0) = false := bne_eq_false_iff_eq.mpr c67
                              clear c67
                              by_cases c68 : t185 = 251
                              · rw [if_pos c68] at H
                                have c68b0 : (t185 == 251) = true := beq_iff_eq.mpr c68
                                have c68b1 : (t185 != 251) = false := bne_eq_false_iff_eq.mpr c68
                                clear c68
                                replace H := Option.bind_eq_some_iff.mp H
                                obtain ⟨t187, A690, H⟩ := H
                                replace H : (some t187) = some r := H
                                have A69 := Aside0.mk A690
                                clear A690
                                obtain rfl := Option.some.inj H
                                try go_wp2
                                have n0_ := Aside0.mk (Kd.R_drew HO_7.out)
                                have n1_ := Aside0.mk (Kd.V_drew HO_9.out)
                                have n2_ := Aside0.mk (Kd.R_drew HO_109.out)
                                have n3_ := Aside0.mk (blk_drew BK144.out)
                                have n4_ := Aside0.mk (below_drew1 HB.out)
                                clear HO_7
                                clear HO_9
                                clear HO_109
                                clear BK144
                                clear HB
                                have HO_7 := n0_
                                have HO_9 := n1_
                                have HO_109 := n2_
                                have BK144 := n3_
                                have HB := n4_
                                clear n0_ n1_ n2_ n3_ n4_
                                have q71 : ((ji63) : Int) ≤ ((y156.length : Int) : Int) := of_decide_eq_true (by first | (with_reducible assumption) | assumption)
                                obtain ⟨i071, hi071, _, hsz71, _⟩ := info_parts info61
                                have hroom71 : y156.length ≤ co21 := (Kd.V_reads' HO_9.out).2.1
                                have hC71 : Kd.F k61 _ _ Ao21 y156.length y156 := (Kd.V_at (base := w.heap.size) HO_9.out).2.2
                                have hcut71 := cut_to (P := Try.prog) 28 61 .i64 Try.underlying28 hi071 Ao21 y156.length co21 (ji63) (of_decide_eq_true (by first | (with_reducible assumption) | assumption)) q71 hroom71
                                have hr71 := Kd.F_take (m := ((ji63) : Int).toNat) hC71 (by omega)
                                have hy71 : y180.length = ((ji63) : Int).toNat := (by rw [Ny180.out, List.length_take]; omega)
                                rw [← Ny180.out] at hr71
                                rw [← hy71] at hcut71
                                have HO184 := Aside0.mk (show Kd.V k61 61 _ w.heap.size _ (.slice Ao21 y180.length co21) y180 from Kd.V_mk (by omega) hr71)
                                have HC184 := Aside0.mk (show y180.length ≤ co21 from by omega)
                                clear hr71 hC71 hroom71 hi071 hsz71
                                have KY71 := Aside0.mk hy71
                                clear hy71
                                replace q71 := eq_true q71
                                refine start_ (n := 16) (S := fun w' => w'.cell? ⟨gb144, 0, none⟩ = some (.int .u8 a2_0) ∧ w'.cell? ⟨gb144, 1, none⟩ = some (.int .u8 a2_1)) (ds := []) #[false, false, false, false, false, false, false, false, false, false, false, false, false, false, false, false] (by kernel_rfl) rfl rfl ⟨(blk_cell BK144.out 0).trans rfl, (blk_cell BK144.out 1).trans rfl⟩ (fun hHeld => ?_); refine with_tabW pianolalaw09_VaultHidden.tab19 pianolalaw09_VaultHidden.bits19 (fun HT_ HW_ => ?_)
                                generalize wr.drew = w70 at HO_7 HO_9 HO_109 BK144 HB HO184 hHeld ⊢
                                refine pure_ (i := 0) (N := some 126) (v := ?_) (a' := ?_) #[true, false, false, false, false, false, false, false, false, false, false, false, false, false, false, false] rfl rfl (any_of HT_.out (by kernel_rfl)) (fun _ _ _ h => h) (Or.inl ⟨by rfl, ?_⟩) ?_ ?_
                                rotate_left
                                · intro w'
                                  go_simp
                                  with_reducible rfl
                                rotate_left
                                · simp only [Act.put, List.setIfInBounds_toArray, List.set_cons_zero, List.set_cons_succ, i64_w, i32_w]
                                  rfl
                                refine pure_ (i := 1) (N := some 127) (v := ?_) (a' := ?_) #[true, true, false, false, false, false, false, false, false, false, false, false, false, false, false, false] rfl rfl (any_of HT_.out (by kernel_rfl)) (fun _ _ _ h => h) (Or.inl ⟨by rfl, ?_⟩) ?_ ?_
                                rotate_left
                                · intro w'
                                  go_simp
                                  with_reducible rfl
                                rotate_left
                                · simp only [Act.put, List.setIfInBounds_toArray, List.set_cons_zero, List.set_cons_succ, i64_w, i32_w]
                                  rfl
                                refine pure_ (i := 2) (N := some 128) (v := ?_) (a' := ?_) #[true, true, true, false, false, false, false, false, false, false, false, false, false, false, false, false] rfl rfl (any_of HT_.out (by kernel_rfl)) (fun _ _ _ h => h) (Or.inl ⟨by rfl, ?_⟩) ?_ ?_
                                rotate_left
                                · intro w'
                                  go_simp
                                  with_reducible rfl
                                rotate_left
                                · simp only [Act.put, List.setIfInBounds_toArray, List.set_cons_zero, List.set_cons_succ, i64_w, i32_w]
                                  rfl
                                refine pure_ (i := 3) (N := some 129) (v := ?_) (a' := ?_) #[true, true, true, true, false, false, false, false, false, false, false, false, false, false, false, false] rfl rfl (any_of HT_.out (by kernel_rfl)) (fun _ _ _ h => h) (Or.inl ⟨by rfl, ?_⟩) ?_ ?_
                                rotate_left
                                · intro w'
                                  go_simp
                                  with_reducible rfl
                                rotate_left
                                · simp only [Act.put, List.setIfInBounds_toArray, List.set_cons_zero, List.set_cons_succ, i64_w, i32_w]
                                  rfl
                                refine pure_ (i := 4) (N := some 130) (v := ?_) (a' := ?_) #[true, true, true, true, true, false, false, false, false, false, false, false, false, false, false, false] rfl rfl (any_of HT_.out (by kernel_rfl)) (fun _ _ _ h => h) (Or.inl ⟨by rfl, ?_⟩) ?_ ?_
                                rotate_left
                                · intro w'
                                  go_simp
                                  with_reducible rfl
                                rotate_left
                                · simp only [Act.put, List.setIfInBounds_toArray, List.set_cons_zero, List.set_cons_succ, i64_w, i32_w]
                                  rfl
                                refine pure_ (i := 5) (N := some 131) (v := ?_) (a' := ?_) #[true, true, true, true, true, true, false, false, false, false, false, false, false, false, false, false] rfl rfl (any_of HT_.out (by kernel_rfl)) (fun _ _ _ h => h) (Or.inl ⟨by rfl, ?_⟩) ?_ ?_
                                rotate_left
                                · intro w'
                                  go_simp
                                  with_reducible rfl
                                rotate_left
                                · simp only [Act.put, List.setIfInBounds_toArray, List.set_cons_zero, List.set_cons_succ, i64_w, i32_w]
                                  rfl
                                refine pure_ (i := 6) (N := some 132) (v := ?_) (a' := ?_) #[true, true, true, true, true, true, true, false, false, false, false, false, false, false, false, false] rfl rfl (any_of HT_.out (by kernel_rfl)) (fun _ _ _ h => h) (Or.inl ⟨by rfl, ?_⟩) ?_ ?_
                                rotate_left
                                · intro w'
                                  go_simp
                                  with_reducible rfl
                                rotate_left
                                · simp only [Act.put, List.setIfInBounds_toArray, List.set_cons_zero, List.set_cons_succ, i64_w, i32_w]
                                  rfl
                                refine take_ (i := 7) (N := some 133) (v := ?_) (a' := ?_) #[true, true, true, true, true, true, true, true, false, false, false, false, false, false, false, false] rfl rfl (take_ofW HT_.out HW_.out (by kernel_rfl)) (fun _ _ _ h => h) (Or.inl ⟨by rfl, ?_⟩) hHeld ?_ ?_
                                rotate_left
                                · rintro w' ⟨s0, s1⟩
                                  go_simp
                                  with_reducible rfl
                                rotate_left
                                · simp only [Act.put, List.setIfInBounds_toArray, List.set_cons_zero, List.set_cons_succ, i64_w, i32_w]
                                  rfl
                                refine pure_ (i := 8) (N := some 134) (v := ?_) (a' := ?_) #[true, true, true, true, true, true, true, true, true, false, false, false, false, false, false, false] rfl rfl (any_of HT_.out (by kernel_rfl)) (fun _ _ _ h => h) (Or.inl ⟨by rfl, ?_⟩) ?_ ?_
                                rotate_left
                                · intro w'
                                  go_simp
                                  with_reducible rfl
                                rotate_left
                                · simp only [Act.put, List.setIfInBounds_toArray, List.set_cons_zero, List.set_cons_succ, i64_w, i32_w]
                                  rfl
                                refine pure_ (i := 9) (N := some 135) (v := ?_) (a' := ?_) #[true, true, true, true, true, true, true, true, true, true, false, false, false, false, false, false] rfl rfl (any_of HT_.out (by kernel_rfl)) (fun _ _ _ h => h) (Or.inl ⟨by rfl, ?_⟩) ?_ ?_
                                rotate_left
                                · intro w'
                                  go_simp
                                  with_reducible rfl
                                rotate_left
                                · simp only [Act.put, List.setIfInBounds_toArray, List.set_cons_zero, List.set_cons_succ, i64_w, i32_w]
                                  rfl
                                refine one_ (i := 10) (N := some 136) #[true, true, true, true, true, true, true, true, true, true, true, false, false, false, false, false] rfl rfl (one_of HT_.out (by kernel_rfl)) (by decide) (fun K hK => ?_)
                                refine goes_ Try.func35 (by kernel_rfl) rfl #[.int .i64 (t145.length : Int), .slice Ao21 y180.length co21, .int .i64 (Int.tmod (wrap64 (a2_0)) 251)] (by rfl) rfl rfl (by (try simp only [List.map_toArray, List.map_cons, List.map_nil]); first | done | rfl | (simp only [List.length_drop, List.length_take]; rfl)) ?_
                                with_reducible refine (vault_Count.calls k2 (t145.length : Int) _ _ y180 (Int.tmod (wrap64 (a2_0)) 251) t185 t186 _ ?side1 ?side2 A66.out).mono ?_
                                (case side1 => repeat (first | exact (Kd.V_reads' HO184.out).2.2 | (with_reducible refine Kd.C_alloc ?_ _) | (with_reducible refine Kd.C_drewN ?_ _) | (with_reducible refine Kd.C_drew ?_)))
                                (case side2 => exact (Kd.V_reads' HO184.out).2.1)
                                rintro e w72 ⟨rfl, hb⟩
                                refine ⟨_, rfl, ?_⟩
                                have n0_ := Aside0.mk (Kd.R_below (by (with_reducible repeat (first | apply Kd.R_alloc | apply Kd.R_drewN | apply Kd.R_drew)); exact HO_7.out) hb)
                                have n1_ := Aside0.mk (Kd.V_below (by (with_reducible repeat (first | apply Kd.V_alloc | apply Kd.V_drewN | apply Kd.V_drew)); exact HO_9.out) hb)
                                have n2_ := Aside0.mk (Kd.R_below (by (with_reducible repeat (first | apply Kd.R_alloc | apply Kd.R_drewN | apply Kd.R_drew)); exact HO_109.out) hb)
                                have n3_ := Aside0.mk (Kd.V_below (by (with_reducible repeat (first | apply Kd.V_alloc | apply Kd.V_drewN | apply Kd.V_drew)); exact HO184.out) hb)
                                have n4_ := Aside0.mk (blk_below (g := gb144) (o := .cells #[.int .u8 a2_0, .int .u8 a2_1] 64 (0, 0)) (by (with_reducible repeat (first | refine blk_drewN ?_ _ | refine blk_drew ?_ | refine blk_alloc ?_ _)); exact BK144.out) hb)
                                have n5_ := Aside0.mk (below_step (by repeat (first | (with_reducible first | exact HB.out | apply below_alloc | apply pw_below_drewN | apply below_drew1 | refine below_set ?_ GE144.out) | exact HB.out)) hb)
                                clear HO_7
                                clear HO_9
                                clear HO_109
                                clear HO184
                                clear BK144
                                clear HB
                                have HO_7 := n0_
                                have HO_9 := n1_
                                have HO_109 := n2_
                                have HO184 := n3_
                                have BK144 := n4_
                                have HB := n5_
                                clear n0_ n1_ n2_ n3_ n4_ n5_
                                (try clear hb)
                                (try clear hb2)
                                (try clear hk)
                                (try clear hi)
                                refine hK.out _ _ ⟨(blk_cell BK144.out 0).trans rfl, (blk_cell BK144.out 1).trans rfl⟩ (fun hHeld => ?_)
                                clear hK K
                                refine norm_ (a' := ?_) ?_ ?_
                                rotate_left
                                · show Act.put _ (some 136) _ = _
                                  simp only [Act.put, List.setIfInBounds_toArray, List.set_cons_zero, List.set_cons_succ, i64_w, i32_w]
                                  rfl
                                refine pure_ (i := 11) (N := some 125) (v := ?_) (a' := ?_) #[true, true, true, true, true, true, true, true, true, true, true, true, false, false, false, false] rfl rfl (any_of HT_.out (by kernel_rfl)) (fun _ _ _ h => h) (Or.inl ⟨by rfl, ?_⟩) ?_ ?_
                                rotate_left
                                · intro w'
                                  go_simp
                                  with_reducible rfl
                                rotate_left
                                · simp only [Act.put, List.setIfInBounds_toArray, List.set_cons_zero, List.set_cons_succ, i64_w, i32_w]
                                  rfl
                                refine pure_ (i := 12) (N := some 137) (v := ?_) (a' := ?_) #[true, true, true, true, true, true, true, true, true, true, true, true, true, false, false, false] rfl rfl (any_of HT_.out (by kernel_rfl)) (fun _ _ _ h => h) (Or.inl ⟨by rfl, ?_⟩) ?_ ?_
                                rotate_left
                                · intro w'
                                  go_simp
                                  with_reducible rfl
                                rotate_left
                                · simp only [Act.put, List.setIfInBounds_toArray, List.set_cons_zero, List.set_cons_succ, i64_w, i32_w]
                                  rfl
                                refine pure_ (i := 13) (N := some 138) (v := ?_) (a' := ?_) #[true, true, true, true, true, true, true, true, true, true, true, true, true, true, false, false] rfl rfl (any_of HT_.out (by kernel_rfl)) (fun _ _ _ h => h) (Or.inl ⟨by rfl, ?_⟩) ?_ ?_
                                rotate_left
                                · intro w'
                                  go_simp
                                  with_reducible rfl
                                rotate_left
                                · simp only [Act.put, List.setIfInBounds_toArray, List.set_cons_zero, List.set_cons_succ, i64_w, i32_w]
                                  rfl
                                refine pure_ (i := 14) (N := some 21) (v := ?_) (a' := ?_) #[true, true, true, true, true, true, true, true, true, true, true, true, true, true, true, false] rfl rfl (any_of HT_.out (by kernel_rfl)) (fun _ _ _ h => h) (Or.inl ⟨by rfl, ?_⟩) ?_ ?_
                                rotate_left
                                · intro w'
                                  go_simp
                                  with_reducible rfl
                                rotate_left
                                · simp only [Act.put, List.setIfInBounds_toArray, List.set_cons_zero, List.set_cons_succ, i64_w, i32_w]
                                  rfl
                                refine pure_ (i := 15) (N := some 11) (v := ?_) (a' := ?_) #[true, true, true, true, true, true, true, true, true, true, true, true, true, true, true, true] rfl rfl (any_of HT_.out (by kernel_rfl)) (fun _ _ _ h => h) (Or.inl ⟨by rfl, ?_⟩) ?_ ?_
                                rotate_left
                                · intro w'
                                  go_simp
                                  with_reducible rfl
                                rotate_left
                                · simp only [Act.put, List.setIfInBounds_toArray, List.set_cons_zero, List.set_cons_succ, i64_w, i32_w]
                                  rfl
                                refine done_ (done_of HT_.out (by kernel_rfl)) ?_
                                try go_wp2_with (first | (go_at_call 17; (with_reducible refine (pianolalaw09_works.calls  t187 _ A69.out).mono ?_); rintro e w73 ⟨rfl, hb⟩; have n0_ := Aside0.mk (Kd.R_below (by (with_reducible repeat (first | apply Kd.R_alloc | apply Kd.R_drewN | apply Kd.R_drew)); exact HO_7.out) hb); have n1_ := Aside0.mk (Kd.V_below (by (with_reducible repeat (first | apply Kd.V_alloc | apply Kd.V_drewN | apply Kd.V_drew)); exact HO_9.out) hb); have n2_ := Aside0.mk (Kd.R_below (by (with_reducible repeat (first | apply Kd.R_alloc | apply Kd.R_drewN | apply Kd.R_drew)); exact HO_109.out) hb); have n3_ := Aside0.mk (Kd.V_below (by (with_reducible repeat (first | apply Kd.V_alloc | apply Kd.V_drewN | apply Kd.V_drew)); exact HO184.out) hb); have n4_ := Aside0.mk (blk_below (g := gb144) (o := .cells #[.int .u8 a2_0, .int .u8 a2_1] 64 (0, 0)) (by (with_reducible repeat (first | refine blk_drewN ?_ _ | refine blk_drew ?_ | refine blk_alloc ?_ _)); exact BK144.out) hb); have n5_ := Aside0.mk (below_step (by repeat (first | (with_reducible first | exact HB.out | apply below_alloc | apply pw_below_drewN | apply below_drew1 | refine below_set ?_ GE144.out) | exact HB.out)) hb); clear HO_7; clear HO_9; clear HO_109; clear HO184; clear BK144; clear HB; have HO_7 := n0_; have HO_9 := n1_; have HO_109 := n2_; have HO184 := n3_; have BK144 := n4_; have HB := n5_; clear n0_ n1_ n2_ n3_ n4_ n5_; (try clear hb); (try clear hb2); (try clear hk); (try clear hi)))
                                go_ret
                                exact ⟨by first | rfl | (simp [errW_none, errW_some] <;> rfl) | (simp only [← hji8, ← hji63]; first | rfl | (simp [errW_none, errW_some] <;> rfl)) | (simp [*, errW_none, errW_some] <;> rfl), by repeat (first | (with_reducible first | exact HB.out | apply below_alloc | apply pw_below_drewN | apply below_drew1 | refine below_set ?_ GE144.out) | exact HB.out)⟩
                              · rw [if_neg c68] at H
                                have c68b0 : (t185 == 251) = false := beq_eq_false_iff_ne.mpr c68
                                have c68b1 : (t185 != 251) = true := bne_iff_ne.mpr c68
                                obtain rfl := Option.some.inj H
                                try go_wp2
                                have n0_ := Aside0.mk (Kd.R_drew HO_7.out)
                                have n1_ := Aside0.mk (Kd.V_drew HO_9.out)
                                have n2_ := Aside0.mk (Kd.R_drew HO_109.out)
                                have n3_ := Aside0.mk (blk_drew BK144.out)
                                have n4_ := Aside0.mk (below_drew1 HB.out)
                                clear HO_7
                                clear HO_9
                                clear HO_109
                                clear BK144
                                clear HB
                                have HO_7 := n0_
                                have HO_9 := n1_
                                have HO_109 := n2_
                                have BK144 := n3_
                                have HB := n4_
                                clear n0_ n1_ n2_ n3_ n4_
                                have q75 : ((ji63) : Int) ≤ ((y156.length : Int) : Int) := of_decide_eq_true (by first | (with_reducible assumption) | assumption)
                                obtain ⟨i075, hi075, _, hsz75, _⟩ := info_parts info61
                                have hroom75 : y156.length ≤ co21 := (Kd.V_reads' HO_9.out).2.1
                                have hC75 : Kd.F k61 _ _ Ao21 y156.length y156 := (Kd.V_at (base := w.heap.size) HO_9.out).2.2
                                have hcut75 := cut_to (P := Try.prog) 28 61 .i64 Try.underlying28 hi075 Ao21 y156.length co21 (ji63) (of_decide_eq_true (by first | (with_reducible assumption) | assumption)) q75 hroom75
                                have hr75 := Kd.F_take (m := ((ji63) : Int).toNat) hC75 (by omega)
                                have hy75 : y180.length = ((ji63) : Int).toNat := (by rw [Ny180.out, List.length_take]; omega)
                                rw [← Ny180.out] at hr75
                                rw [← hy75] at hcut75
                                have HO184 := Aside0.mk (show Kd.V k61 61 _ w.heap.size _ (.slice Ao21 y180.length co21) y180 from Kd.V_mk (by omega) hr75)
                                have HC184 := Aside0.mk (show y180.length ≤ co21 from by omega)
                                clear hr75 hC75 hroom75 hi075 hsz75
                                have KY75 := Aside0.mk hy75
                                clear hy75
                                replace q75 := eq_true q75
                                refine start_ (n := 16) (S := fun w' => w'.cell? ⟨gb144, 0, none⟩ = some (.int .u8 a2_0) ∧ w'.cell? ⟨gb144, 1, none⟩ = some (.int .u8 a2_1)) (ds := []) #[false, false, false, false, false, false, false, false, false, false, false, false, false, false, false, false] (by kernel_rfl) rfl rfl ⟨(blk_cell BK144.out 0).trans rfl, (blk_cell BK144.out 1).trans rfl⟩ (fun hHeld => ?_); refine with_tabW pianolalaw09_VaultHidden.tab19 pianolalaw09_VaultHidden.bits19 (fun HT_ HW_ => ?_)
                                generalize wr.drew = w74 at HO_7 HO_9 HO_109 BK144 HB HO184 hHeld ⊢
                                refine pure_ (i := 0) (N := some 126) (v := ?_) (a' := ?_) #[true, false, false, false, false, false, false, false, false, false, false, false, false, false, false, false] rfl rfl (any_of HT_.out (by kernel_rfl)) (fun _ _ _ h => h) (Or.inl ⟨by rfl, ?_⟩) ?_ ?_
                                rotate_left
                                · intro w'
                                  go_simp
                                  with_reducible rfl
                                rotate_left
                                · simp only [Act.put, List.setIfInBounds_toArray, List.set_cons_zero, List.set_cons_succ, i64_w, i32_w]
                                  rfl
                                refine pure_ (i := 1) (N := some 127) (v := ?_) (a' := ?_) #[true, true, false, false, false, false, false, false, false, false, false, false, false, false, false, false] rfl rfl (any_of HT_.out (by kernel_rfl)) (fun _ _ _ h => h) (Or.inl ⟨by rfl, ?_⟩) ?_ ?_
                                rotate_left
                                · intro w'
                                  go_simp
                                  with_reducible rfl
                                rotate_left
                                · simp only [Act.put, List.setIfInBounds_toArray, List.set_cons_zero, List.set_cons_succ, i64_w, i32_w]
                                  rfl
                                refine pure_ (i := 2) (N := some 128) (v := ?_) (a' := ?_) #[true, true, true, false, false, false, false, false, false, false, false, false, false, false, false, false] rfl rfl (any_of HT_.out (by kernel_rfl)) (fun _ _ _ h => h) (Or.inl ⟨by rfl, ?_⟩) ?_ ?_
                                rotate_left
                                · intro w'
                                  go_simp
                                  with_reducible rfl
                                rotate_left
                                · simp only [Act.put, List.setIfInBounds_toArray, List.set_cons_zero, List.set_cons_succ, i64_w, i32_w]
                                  rfl
                                refine pure_ (i := 3) (N := some 129) (v := ?_) (a' := ?_) #[true, true, true, true, false, false, false, false, false, false, false, false, false, false, false, false] rfl rfl (any_of HT_.out (by kernel_rfl)) (fun _ _ _ h => h) (Or.inl ⟨by rfl, ?_⟩) ?_ ?_
                                rotate_left
                                · intro w'
                                  go_simp
                                  with_reducible rfl
                                rotate_left
                                · simp only [Act.put, List.setIfInBounds_toArray, List.set_cons_zero, List.set_cons_succ, i64_w, i32_w]
                                  rfl
                                refine pure_ (i := 4) (N := some 130) (v := ?_) (a' := ?_) #[true, true, true, true, true, false, false, false, false, false, false, false, false, false, false, false] rfl rfl (any_of HT_.out (by kernel_rfl)) (fun _ _ _ h => h) (Or.inl ⟨by rfl, ?_⟩) ?_ ?_
                                rotate_left
                                · intro w'
                                  go_simp
                                  with_reducible rfl
                                rotate_left
                                · simp only [Act.put, List.setIfInBounds_toArray, List.set_cons_zero, List.set_cons_succ, i64_w, i32_w]
                                  rfl
                                refine pure_ (i := 5) (N := some 131) (v := ?_) (a' := ?_) #[true, true, true, true, true, true, false, false, false, false, false, false, false, false, false, false] rfl rfl (any_of HT_.out (by kernel_rfl)) (fun _ _ _ h => h) (Or.inl ⟨by rfl, ?_⟩) ?_ ?_
                                rotate_left
                                · intro w'
                                  go_simp
                                  with_reducible rfl
                                rotate_left
                                · simp only [Act.put, List.setIfInBounds_toArray, List.set_cons_zero, List.set_cons_succ, i64_w, i32_w]
                                  rfl
                                refine pure_ (i := 6) (N := some 132) (v := ?_) (a' := ?_) #[true, true, true, true, true, true, true, false, false, false, false, false, false, false, false, false] rfl rfl (any_of HT_.out (by kernel_rfl)) (fun _ _ _ h => h) (Or.inl ⟨by rfl, ?_⟩) ?_ ?_
                                rotate_left
                                · intro w'
                                  go_simp
                                  with_reducible rfl
                                rotate_left
                                · simp only [Act.put, List.setIfInBounds_toArray, List.set_cons_zero, List.set_cons_succ, i64_w, i32_w]
                                  rfl
                                refine take_ (i := 7) (N := some 133) (v := ?_) (a' := ?_) #[true, true, true, true, true, true, true, true, false, false, false, false, false, false, false, false] rfl rfl (take_ofW HT_.out HW_.out (by kernel_rfl)) (fun _ _ _ h => h) (Or.inl ⟨by rfl, ?_⟩) hHeld ?_ ?_
                                rotate_left
                                · rintro w' ⟨s0, s1⟩
                                  go_simp
                                  with_reducible rfl
                                rotate_left
                                · simp only [Act.put, List.setIfInBounds_toArray, List.set_cons_zero, List.set_cons_succ, i64_w, i32_w]
                                  rfl
                                refine pure_ (i := 8) (N := some 134) (v := ?_) (a' := ?_) #[true, true, true, true, true, true, true, true, true, false, false, false, false, false, false, false] rfl rfl (any_of HT_.out (by kernel_rfl)) (fun _ _ _ h => h) (Or.inl ⟨by rfl, ?_⟩) ?_ ?_
                                rotate_left
                                · intro w'
                                  go_simp
                                  with_reducible rfl
                                rotate_left
                                · simp only [Act.put, List.setIfInBounds_toArray, List.set_cons_zero, List.set_cons_succ, i64_w, i32_w]
                                  rfl
                                refine pure_ (i := 9) (N := some 135) (v := ?_) (a' := ?_) #[true, true, true, true, true, true, true, true, true, true, false, false, false, false, false, false] rfl rfl (any_of HT_.out (by kernel_rfl)) (fun _ _ _ h => h) (Or.inl ⟨by rfl, ?_⟩) ?_ ?_
                                rotate_left
                                · intro w'
                                  go_simp
                                  with_reducible rfl
                                rotate_left
                                · simp only [Act.put, List.setIfInBounds_toArray, List.set_cons_zero, List.set_cons_succ, i64_w, i32_w]
                                  rfl
                                refine one_ (i := 10) (N := some 136) #[true, true, true, true, true, true, true, true, true, true, true, false, false, false, false, false] rfl rfl (one_of HT_.out (by kernel_rfl)) (by decide) (fun K hK => ?_)
                                refine goes_ Try.func35 (by kernel_rfl) rfl #[.int .i64 (t145.length : Int), .slice Ao21 y180.length co21, .int .i64 (Int.tmod (wrap64 (a2_0)) 251)] (by rfl) rfl rfl (by (try simp only [List.map_toArray, List.map_cons, List.map_nil]); first | done | rfl | (simp only [List.length_drop, List.length_take]; rfl)) ?_
                                with_reducible refine (vault_Count.calls k2 (t145.length : Int) _ _ y180 (Int.tmod (wrap64 (a2_0)) 251) t185 t186 _ ?side1 ?side2 A66.out).mono ?_
                                (case side1 => repeat (first | exact (Kd.V_reads' HO184.out).2.2 | (with_reducible refine Kd.C_alloc ?_ _) | (with_reducible refine Kd.C_drewN ?_ _) | (with_reducible refine Kd.C_drew ?_)))
                                (case side2 => exact (Kd.V_reads' HO184.out).2.1)
                                rintro e w76 ⟨rfl, hb⟩
                                refine ⟨_, rfl, ?_⟩
                                have n0_ := Aside0.mk (Kd.R_below (by (with_reducible repeat (first | apply Kd.R_alloc | apply Kd.R_drewN | apply Kd.R_drew)); exact HO_7.out) hb)
                                have n1_ := Aside0.mk (Kd.V_below (by (with_reducible repeat (first | apply Kd.V_alloc | apply Kd.V_drewN | apply Kd.V_drew)); exact HO_9.out) hb)
                                have n2_ := Aside0.mk (Kd.R_below (by (with_reducible repeat (first | apply Kd.R_alloc | apply Kd.R_drewN | apply Kd.R_drew)); exact HO_109.out) hb)
                                have n3_ := Aside0.mk (Kd.V_below (by (with_reducible repeat (first | apply Kd.V_alloc | apply Kd.V_drewN | apply Kd.V_drew)); exact HO184.out) hb)
                                have n4_ := Aside0.mk (blk_below (g := gb144) (o := .cells #[.int .u8 a2_0, .int .u8 a2_1] 64 (0, 0)) (by (with_reducible repeat (first | refine blk_drewN ?_ _ | refine blk_drew ?_ | refine blk_alloc ?_ _)); exact BK144.out) hb)
                                have n5_ := Aside0.mk (below_step (by repeat (first | (with_reducible first | exact HB.out | apply below_alloc | apply pw_below_drewN | apply below_drew1 | refine below_set ?_ GE144.out) | exact HB.out)) hb)
                                clear HO_7
                                clear HO_9
                                clear HO_109
                                clear HO184
                                clear BK144
                                clear HB
                                have HO_7 := n0_
                                have HO_9 := n1_
                                have HO_109 := n2_
                                have HO184 := n3_
                                have BK144 := n4_
                                have HB := n5_
                                clear n0_ n1_ n2_ n3_ n4_ n5_
                                (try clear hb)
                                (try clear hb2)
                                (try clear hk)
                                (try clear hi)
                                refine hK.out _ _ ⟨(blk_cell BK144.out 0).trans rfl, (blk_cell BK144.out 1).trans rfl⟩ (fun hHeld => ?_)
                                clear hK K
                                refine norm_ (a' := ?_) ?_ ?_
                                rotate_left
                                · show Act.put _ (some 136) _ = _
                                  simp only [Act.put, List.setIfInBounds_toArray, List.set_cons_zero, List.set_cons_succ, i64_w, i32_w]
                                  rfl
                                refine pure_ (i := 11) (N := some 125) (v := ?_) (a' := ?_) #[true, true, true, true, true, true, true, true, true, true, true, true, false, false, false, false] rfl rfl (any_of HT_.out (by kernel_rfl)) (fun _ _ _ h => h) (Or.inl ⟨by rfl, ?_⟩) ?_ ?_
                                rotate_left
                                · intro w'
                                  go_simp
                                  with_reducible rfl
                                rotate_left
                                · simp only [Act.put, List.setIfInBounds_toArray, List.set_cons_zero, List.set_cons_succ, i64_w, i32_w]
                                  rfl
                                refine pure_ (i := 12) (N := some 137) (v := ?_) (a' := ?_) #[true, true, true, true, true, true, true, true, true, true, true, true, true, false, false, false] rfl rfl (any_of HT_.out (by kernel_rfl)) (fun _ _ _ h => h) (Or.inl ⟨by rfl, ?_⟩) ?_ ?_
                                rotate_left
                                · intro w'
                                  go_simp
                                  with_reducible rfl
                                rotate_left
                                · simp only [Act.put, List.setIfInBounds_toArray, List.set_cons_zero, List.set_cons_succ, i64_w, i32_w]
                                  rfl
                                refine pure_ (i := 13) (N := some 138) (v := ?_) (a' := ?_) #[true, true, true, true, true, true, true, true, true, true, true, true, true, true, false, false] rfl rfl (any_of HT_.out (by kernel_rfl)) (fun _ _ _ h => h) (Or.inl ⟨by rfl, ?_⟩) ?_ ?_
                                rotate_left
                                · intro w'
                                  go_simp
                                  with_reducible rfl
                                rotate_left
                                · simp only [Act.put, List.setIfInBounds_toArray, List.set_cons_zero, List.set_cons_succ, i64_w, i32_w]
                                  rfl
                                refine pure_ (i := 14) (N := some 21) (v := ?_) (a' := ?_) #[true, true, true, true, true, true, true, true, true, true, true, true, true, true, true, false] rfl rfl (any_of HT_.out (by kernel_rfl)) (fun _ _ _ h => h) (Or.inl ⟨by rfl, ?_⟩) ?_ ?_
                                rotate_left
                                · intro w'
                                  go_simp
                                  with_reducible rfl
                                rotate_left
                                · simp only [Act.put, List.setIfInBounds_toArray, List.set_cons_zero, List.set_cons_succ, i64_w, i32_w]
                                  rfl
                                refine pure_ (i := 15) (N := some 11) (v := ?_) (a' := ?_) #[true, true, true, true, true, true, true, true, true, true, true, true, true, true, true, true] rfl rfl (any_of HT_.out (by kernel_rfl)) (fun _ _ _ h => h) (Or.inl ⟨by rfl, ?_⟩) ?_ ?_
                                rotate_left
                                · intro w'
                                  go_simp
                                  with_reducible rfl
                                rotate_left
                                · simp only [Act.put, List.setIfInBounds_toArray, List.set_cons_zero, List.set_cons_succ, i64_w, i32_w]
                                  rfl
                                refine done_ (done_of HT_.out (by kernel_rfl)) ?_
                                try go_wp2
                                go_ret
                                exact ⟨by first | rfl | (simp [errW_none, errW_some] <;> rfl) | (simp only [← hji8, ← hji63]; first | rfl | (simp [errW_none, errW_some] <;> rfl)) | (simp [*, errW_none, errW_some] <;> rfl), by repeat (first | (with_reducible first | exact HB.out | apply below_alloc | apply pw_below_drewN | apply below_drew1 | refine below_set ?_ GE144.out) | exact HB.out)⟩
                            · rw [if_neg c67] at H
                              have c67b0 : (t186 == 0) = false := beq_eq_false_iff_ne.mpr c67
                              have c67b1 : (t186 != 0) = true := bne_iff_ne.mpr c67
                              obtain rfl := Option.some.inj H
                              try go_wp2
                              have n0_ := Aside0.mk (Kd.R_drew HO_7.out)
                              have n1_ := Aside0.mk (Kd.V_drew HO_9.out)
                              have n2_ := Aside0.mk (Kd.R_drew HO_109.out)
                              have n3_ := Aside0.mk (blk_drew BK144.out)
                              have n4_ := Aside0.mk (below_drew1 HB.out)
                              clear HO_7
                              clear HO_9
                              clear HO_109
                              clear BK144
                              clear HB
                              have HO_7 := n0_
                              have HO_9 := n1_
                              have HO_109 := n2_
                              have BK144 := n3_
                              have HB := n4_
                              clear n0_ n1_ n2_ n3_ n4_
                              have q78 : ((ji63) : Int) ≤ ((y156.length : Int) : Int) := of_decide_eq_true (by first | (with_reducible assumption) | assumption)
                              obtain ⟨i078, hi078, _, hsz78, _⟩ := info_parts info61
                              have hroom78 : y156.length ≤ co21 := (Kd.V_reads' HO_9.out).2.1
                              have hC78 : Kd.F k61 _ _ Ao21 y156.length y156 := (Kd.V_at (base := w.heap.size) HO_9.out).2.2
                              have hcut78 := cut_to (P := Try.prog) 28 61 .i64 Try.underlying28 hi078 Ao21 y156.length co21 (ji63) (of_decide_eq_true (by first | (with_reducible assumption) | assumption)) q78 hroom78
                              have hr78 := Kd.F_take (m := ((ji63) : Int).toNat) hC78 (by omega)
                              have hy78 : y180.length = ((ji63) : Int).toNat := (by rw [Ny180.out, List.length_take]; omega)
                              rw [← Ny180.out] at hr78
                              rw [← hy78] at hcut78
                              have HO184 := Aside0.mk (show Kd.V k61 61 _ w.heap.size _ (.slice Ao21 y180.length co21) y180 from Kd.V_mk (by omega) hr78)
                              have HC184 := Aside0.mk (show y180.length ≤ co21 from by omega)
                              clear hr78 hC78 hroom78 hi078 hsz78
                              have KY78 := Aside0.mk hy78
                              clear hy78
                              replace q78 := eq_true q78
                              refine start_ (n := 16) (S := fun w' => w'.cell? ⟨gb144, 0, none⟩ = some (.int .u8 a2_0) ∧ w'.cell? ⟨gb144, 1, none⟩ = some (.int .u8 a2_1)) (ds := []) #[false, false, false, false, false, false, false, false, false, false, false, false, false, false, false, false] (by kernel_rfl) rfl rfl ⟨(blk_cell BK144.out 0).trans rfl, (blk_cell BK144.out 1).trans rfl⟩ (fun hHeld => ?_); refine with_tabW pianolalaw09_VaultHidden.tab19 pianolalaw09_VaultHidden.bits19 (fun HT_ HW_ => ?_)
                              generalize wr.drew = w77 at HO_7 HO_9 HO_109 BK144 HB HO184 hHeld ⊢
                              refine pure_ (i := 0) (N := some 126) (v := ?_) (a' := ?_) #[true, false, false, false, false, false, false, false, false, false, false, false, false, false, false, false] rfl rfl (any_of HT_.out (by kernel_rfl)) (fun _ _ _ h => h) (Or.inl ⟨by rfl, ?_⟩) ?_ ?_
                              rotate_left
                              · intro w'
                                go_simp
                                with_reducible rfl
                              rotate_left
                              · simp only [Act.put, List.setIfInBounds_toArray, List.set_cons_zero, List.set_cons_succ, i64_w, i32_w]
                                rfl
                              refine pure_ (i := 1) (N := some 127) (v := ?_) (a' := ?_) #[true, true, false, false, false, false, false, false, false, false, false, false, false, false, false, false] rfl rfl (any_of HT_.out (by kernel_rfl)) (fun _ _ _ h => h) (Or.inl ⟨by rfl, ?_⟩) ?_ ?_
                              rotate_left
                              · intro w'
                                go_simp
                                with_reducible rfl
                              rotate_left
                              · simp only [Act.put, List.setIfInBounds_toArray, List.set_cons_zero, List.set_cons_succ, i64_w, i32_w]
                                rfl
                              refine pure_ (i := 2) (N := some 128) (v := ?_) (a' := ?_) #[true, true, true, false, false, false, false, false, false, false, false, false, false, false, false, false] rfl rfl (any_of HT_.out (by kernel_rfl)) (fun _ _ _ h => h) (Or.inl ⟨by rfl, ?_⟩) ?_ ?_
                              rotate_left
                              · intro w'
                                go_simp
                                with_reducible rfl
                              rotate_left
                              · simp only [Act.put, List.setIfInBounds_toArray, List.set_cons_zero, List.set_cons_succ, i64_w, i32_w]
                                rfl
                              refine pure_ (i := 3) (N := some 129) (v := ?_) (a' := ?_) #[true, true, true, true, false, false, false, false, false, false, false, false, false, false, false, false] rfl rfl (any_of HT_.out (by kernel_rfl)) (fun _ _ _ h => h) (Or.inl ⟨by rfl, ?_⟩) ?_ ?_
                              rotate_left
                              · intro w'
                                go_simp
                                with_reducible rfl
                              rotate_left
                              · simp only [Act.put, List.setIfInBounds_toArray, List.set_cons_zero, List.set_cons_succ, i64_w, i32_w]
                                rfl
                              refine pure_ (i := 4) (N := some 130) (v := ?_) (a' := ?_) #[true, true, true, true, true, false, false, false, false, false, false, false, false, false, false, false] rfl rfl (any_of HT_.out (by kernel_rfl)) (fun _ _ _ h => h) (Or.inl ⟨by rfl, ?_⟩) ?_ ?_
                              rotate_left
                              · intro w'
                                go_simp
                                with_reducible rfl
                              rotate_left
                              · simp only [Act.put, List.setIfInBounds_toArray, List.set_cons_zero, List.set_cons_succ, i64_w, i32_w]
                                rfl
                              refine pure_ (i := 5) (N := some 131) (v := ?_) (a' := ?_) #[true, true, true, true, true, true, false, false, false, false, false, false, false, false, false, false] rfl rfl (any_of HT_.out (by kernel_rfl)) (fun _ _ _ h => h) (Or.inl ⟨by rfl, ?_⟩) ?_ ?_
                              rotate_left
                              · intro w'
                                go_simp
                                with_reducible rfl
                              rotate_left
                              · simp only [Act.put, List.setIfInBounds_toArray, List.set_cons_zero, List.set_cons_succ, i64_w, i32_w]
                                rfl
                              refine pure_ (i := 6) (N := some 132) (v := ?_) (a' := ?_) #[true, true, true, true, true, true, true, false, false, false, false, false, false, false, false, false] rfl rfl (any_of HT_.out (by kernel_rfl)) (fun _ _ _ h => h) (Or.inl ⟨by rfl, ?_⟩) ?_ ?_
                              rotate_left
                              · intro w'
                                go_simp
                                with_reducible rfl
                              rotate_left
                              · simp only [Act.put, List.setIfInBounds_toArray, List.set_cons_zero, List.set_cons_succ, i64_w, i32_w]
                                rfl
                              refine take_ (i := 7) (N := some 133) (v := ?_) (a' := ?_) #[true, true, true, true, true, true, true, true, false, false, false, false, false, false, false, false] rfl rfl (take_ofW HT_.out HW_.out (by kernel_rfl)) (fun _ _ _ h => h) (Or.inl ⟨by rfl, ?_⟩) hHeld ?_ ?_
                              rotate_left
                              · rintro w' ⟨s0, s1⟩
                                go_simp
                                with_reducible rfl
                              rotate_left
                              · simp only [Act.put, List.setIfInBounds_toArray, List.set_cons_zero, List.set_cons_succ, i64_w, i32_w]
                                rfl
                              refine pure_ (i := 8) (N := some 134) (v := ?_) (a' := ?_) #[true, true, true, true, true, true, true, true, true, false, false, false, false, false, false, false] rfl rfl (any_of HT_.out (by kernel_rfl)) (fun _ _ _ h => h) (Or.inl ⟨by rfl, ?_⟩) ?_ ?_
                              rotate_left
                              · intro w'
                                go_simp
                                with_reducible rfl
                              rotate_left
                              · simp only [Act.put, List.setIfInBounds_toArray, List.set_cons_zero, List.set_cons_succ, i64_w, i32_w]
                                rfl
                              refine pure_ (i := 9) (N := some 135) (v := ?_) (a' := ?_) #[true, true, true, true, true, true, true, true, true, true, false, false, false, false, false, false] rfl rfl (any_of HT_.out (by kernel_rfl)) (fun _ _ _ h => h) (Or.inl ⟨by rfl, ?_⟩) ?_ ?_
                              rotate_left
                              · intro w'
                                go_simp
                                with_reducible rfl
                              rotate_left
                              · simp only [Act.put, List.setIfInBounds_toArray, List.set_cons_zero, List.set_cons_succ, i64_w, i32_w]
                                rfl
                              refine one_ (i := 10) (N := some 136) #[true, true, true, true, true, true, true, true, true, true, true, false, false, false, false, false] rfl rfl (one_of HT_.out (by kernel_rfl)) (by decide) (fun K hK => ?_)
                              refine goes_ Try.func35 (by kernel_rfl) rfl #[.int .i64 (t145.length : Int), .slice Ao21 y180.length co21, .int .i64 (Int.tmod (wrap64 (a2_0)) 251)] (by rfl) rfl rfl (by (try simp only [List.map_toArray, List.map_cons, List.map_nil]); first | done | rfl | (simp only [List.length_drop, List.length_take]; rfl)) ?_
                              with_reducible refine (vault_Count.calls k2 (t145.length : Int) _ _ y180 (Int.tmod (wrap64 (a2_0)) 251) t185 t186 _ ?side1 ?side2 A66.out).mono ?_
                              (case side1 => repeat (first | exact (Kd.V_reads' HO184.out).2.2 | (with_reducible refine Kd.C_alloc ?_ _) | (with_reducible refine Kd.C_drewN ?_ _) | (with_reducible refine Kd.C_drew ?_)))
                              (case side2 => exact (Kd.V_reads' HO184.out).2.1)
                              rintro e w79 ⟨rfl, hb⟩
                              refine ⟨_, rfl, ?_⟩
                              have n0_ := Aside0.mk (Kd.R_below (by (with_reducible repeat (first | apply Kd.R_alloc | apply Kd.R_drewN | apply Kd.R_drew)); exact HO_7.out) hb)
                              have n1_ := Aside0.mk (Kd.V_below (by (with_reducible repeat (first | apply Kd.V_alloc | apply Kd.V_drewN | apply Kd.V_drew)); exact HO_9.out) hb)
                              have n2_ := Aside0.mk (Kd.R_below (by (with_reducible repeat (first | apply Kd.R_alloc | apply Kd.R_drewN | apply Kd.R_drew)); exact HO_109.out) hb)
                              have n3_ := Aside0.mk (Kd.V_below (by (with_reducible repeat (first | apply Kd.V_alloc | apply Kd.V_drewN | apply Kd.V_drew)); exact HO184.out) hb)
                              have n4_ := Aside0.mk (blk_below (g := gb144) (o := .cells #[.int .u8 a2_0, .int .u8 a2_1] 64 (0, 0)) (by (with_reducible repeat (first | refine blk_drewN ?_ _ | refine blk_drew ?_ | refine blk_alloc ?_ _)); exact BK144.out) hb)
                              have n5_ := Aside0.mk (below_step (by repeat (first | (with_reducible first | exact HB.out | apply below_alloc | apply pw_below_drewN | apply below_drew1 | refine below_set ?_ GE144.out) | exact HB.out)) hb)
                              clear HO_7
                              clear HO_9
                              clear HO_109
                              clear HO184
                              clear BK144
                              clear HB
                              have HO_7 := n0_
                              have HO_9 := n1_
                              have HO_109 := n2_
                              have HO184 := n3_
                              have BK144 := n4_
                              have HB := n5_
                              clear n0_ n1_ n2_ n3_ n4_ n5_
                              (try clear hb)
                              (try clear hb2)
                              (try clear hk)
                              (try clear hi)
                              refine hK.out _ _ ⟨(blk_cell BK144.out 0).trans rfl, (blk_cell BK144.out 1).trans rfl⟩ (fun hHeld => ?_)
                              clear hK K
                              refine norm_ (a' := ?_) ?_ ?_
                              rotate_left
                              · show Act.put _ (some 136) _ = _
                                simp only [Act.put, List.setIfInBounds_toArray, List.set_cons_zero, List.set_cons_succ, i64_w, i32_w]
                                rfl
                              refine pure_ (i := 11) (N := some 125) (v := ?_) (a' := ?_) #[true, true, true, true, true, true, true, true, true, true, true, true, false, false, false, false] rfl rfl (any_of HT_.out (by kernel_rfl)) (fun _ _ _ h => h) (Or.inl ⟨by rfl, ?_⟩) ?_ ?_
                              rotate_left
                              · intro w'
                                go_simp
                                with_reducible rfl
                              rotate_left
                              · simp only [Act.put, List.setIfInBounds_toArray, List.set_cons_zero, List.set_cons_succ, i64_w, i32_w]
                                rfl
                              refine pure_ (i := 12) (N := some 137) (v := ?_) (a' := ?_) #[true, true, true, true, true, true, true, true, true, true, true, true, true, false, false, false] rfl rfl (any_of HT_.out (by kernel_rfl)) (fun _ _ _ h => h) (Or.inl ⟨by rfl, ?_⟩) ?_ ?_
                              rotate_left
                              · intro w'
                                go_simp
                                with_reducible rfl
                              rotate_left
                              · simp only [Act.put, List.setIfInBounds_toArray, List.set_cons_zero, List.set_cons_succ, i64_w, i32_w]
                                rfl
                              refine pure_ (i := 13) (N := some 138) (v := ?_) (a' := ?_) #[true, true, true, true, true, true, true, true, true, true, true, true, true, true, false, false] rfl rfl (any_of HT_.out (by kernel_rfl)) (fun _ _ _ h => h) (Or.inl ⟨by rfl, ?_⟩) ?_ ?_
                              rotate_left
                              · intro w'
                                go_simp
                                with_reducible rfl
                              rotate_left
                              · simp only [Act.put, List.setIfInBounds_toArray, List.set_cons_zero, List.set_cons_succ, i64_w, i32_w]
                                rfl
                              refine pure_ (i := 14) (N := some 21) (v := ?_) (a' := ?_) #[true, true, true, true, true, true, true, true, true, true, true, true, true, true, true, false] rfl rfl (any_of HT_.out (by kernel_rfl)) (fun _ _ _ h => h) (Or.inl ⟨by rfl, ?_⟩) ?_ ?_
                              rotate_left
                              · intro w'
                                go_simp
                                with_reducible rfl
                              rotate_left
                              · simp only [Act.put, List.setIfInBounds_toArray, List.set_cons_zero, List.set_cons_succ, i64_w, i32_w]
                                rfl
                              refine pure_ (i := 15) (N := some 11) (v := ?_) (a' := ?_) #[true, true, true, true, true, true, true, true, true, true, true, true, true, true, true, true] rfl rfl (any_of HT_.out (by kernel_rfl)) (fun _ _ _ h => h) (Or.inl ⟨by rfl, ?_⟩) ?_ ?_
                              rotate_left
                              · intro w'
                                go_simp
                                with_reducible rfl
                              rotate_left
                              · simp only [Act.put, List.setIfInBounds_toArray, List.set_cons_zero, List.set_cons_succ, i64_w, i32_w]
                                rfl
                              refine done_ (done_of HT_.out (by kernel_rfl)) ?_
                              try go_wp2
                              go_ret
                              exact ⟨by first | rfl | (simp [errW_none, errW_some] <;> rfl) | (simp only [← hji8, ← hji63]; first | rfl | (simp [errW_none, errW_some] <;> rfl)) | (simp [*, errW_none, errW_some] <;> rfl), by repeat (first | (with_reducible first | exact HB.out | apply below_alloc | apply pw_below_drewN | apply below_drew1 | refine below_set ?_ GE144.out) | exact HB.out)⟩
                          · rw [if_neg c65] at H
                            exact absurd H (by simp)
                        · rw [if_neg c64] at H
                          exact absurd H (by simp)
        · rw [if_neg c10] at H
          exact absurd H (by simp)
      · rw [if_neg c9] at H
        exact absurd H (by simp)
    · rw [if_neg c7] at H
      exact absurd H (by simp)
  · rw [if_neg c6] at H
    exact absurd H (by simp)
end Go.Proofs.Ytpfkfbbekfkcgaa.P
end
section
namespace Go.Proofs.Ytpfkfbbekfkcgaa.P
set_option linter.unusedVariables false
set_option linter.unusedSimpArgs false
abbrev K251 := Fin 251
def fk (a : Int) : K251 := ⟨(a % 251).toNat, by omega⟩
theorem fk_val (a : Int) : ((fk a).val : Int) = a % 251 := by
  show (((a % 251).toNat : Nat) : Int) = _
  omega
theorem fk_eq {a b : Int} : fk a = fk b ↔ a % 251 = b % 251 := by
  constructor
  · intro h
    rw [← fk_val, ← fk_val, h]
  · intro h
    apply Fin.ext
    have := fk_val a
    have := fk_val b
    omega
theorem fk_of {k : K251} {a : Int} (h : (k.val : Int) = a % 251) : fk a = k := by
  apply Fin.ext
  have := fk_val a
  omega
theorem fk_mod (a : Int) : fk (a % 251) = fk a := fk_eq.2 (by omega)
theorem fk_add (a b : Int) : fk (a + b) = fk a + fk b := by
  apply fk_of
  have h1 := fk_val a
  have h2 := fk_val b
  rw [Fin.val_add]
  omega
theorem fk_sub (a b : Int) : fk (a - b) = fk a - fk b := by
  apply fk_of
  have h1 := fk_val a
  have h2 := fk_val b
  have h3 := (fk b).isLt
  rw [Fin.val_sub]
  omega
theorem fk_mul (a b : Int) : fk (a * b) = fk a * fk b := by
  apply fk_of
  have h1 := fk_val a
  have h2 := fk_val b
  rw [Fin.val_mul]
  rw [Int.mul_emod, ← h1, ← h2]
  simp
theorem fk_zero : fk 0 = 0 := rfl
theorem fk_one : fk 1 = 1 := rfl
theorem fk_inj {a b : Int} (a0 : 0 ≤ a) (a1 : a ≤ 250) (b0 : 0 ≤ b) (b1 : b ≤ 250) (h : fk a = fk b) : a = b := by
  have := fk_eq.1 h
  omega
def iF (a : K251) : K251 := a ^ 249
theorem inv_ex : ∀ a : K251, a ≠ 0 → a * iF a = 1 := by decide +kernel
theorem mul_zero' {a b : K251} (h : a * b = 0) (ha : a ≠ 0) : b = 0 := by
  have h1 := inv_ex a ha
  grind
def eF : List K251 → K251 → K251
  | [], _ => 0
  | a :: l, x => a + x * eF l x
def dv : List K251 → K251 → List K251
  | [], _ => []
  | [_], _ => []
  | _ :: b :: l, r => eF (b :: l) r :: dv (b :: l) r
theorem dv_len : ∀ (l : List K251) (r : K251), (dv l r).length = l.length - 1
  | [], _ => rfl
  | [_], _ => rfl
  | _ :: b :: l, r => by
    have := dv_len (b :: l) r
    simp only [dv, List.length_cons] at this ⊢
    omega
theorem dv_eF : ∀ (l : List K251) (r x : K251), eF l x - eF l r = (x - r) * eF (dv l r) x
  | [], r, x => by simp only [eF, dv]; grind
  | [a], r, x => by simp only [eF, dv]; grind
  | a :: b :: l, r, x => by
    have ih := dv_eF (b :: l) r x
    have e1 : eF (a :: b :: l) x = a + x * eF (b :: l) x := rfl
    have e2 : eF (a :: b :: l) r = a + r * eF (b :: l) r := rfl
    have e3 : eF (dv (a :: b :: l) r) x = eF (b :: l) r + x * eF (dv (b :: l) r) x := rfl
    rw [e1, e2, e3]
    grind
theorem dv_zero : ∀ (l : List K251) (r : K251), (∀ c ∈ dv l r, c = 0) → eF l r = 0 → ∀ c ∈ l, c = 0
  | [], _, _, _ => fun _ h => by cases h
  | [a], r, _, h => fun c hc => by
    simp only [eF] at h
    rw [List.mem_singleton] at hc
    subst hc
    grind
  | a :: b :: l, r, hd, h => fun c hc => by
    have h1 : eF (b :: l) r = 0 := hd _ (by simp [dv])
    have h2 := dv_zero (b :: l) r (fun c hc => hd c (by simp only [dv, List.mem_cons]; exact .inr hc)) h1
    have e2 : eF (a :: b :: l) r = a + r * eF (b :: l) r := rfl
    rw [e2, h1] at h
    cases hc with
    | head => grind
    | tail _ hc => exact h2 c hc
theorem roots : ∀ (n : Nat) (l xs : List K251), l.length = n → n ≤ xs.length → xs.Nodup → (∀ x ∈ xs, eF l x = 0) → ∀ c ∈ l, c = 0
  | 0, l, _, hl, _, _, _ => by
    rw [List.length_eq_zero_iff] at hl
    subst hl
    exact fun _ h => by cases h
  | n + 1, l, [], _, hx, _, _ => by simp at hx
  | n + 1, l, r :: ys, hl, hx, hd, hr => by
    rw [List.nodup_cons] at hd
    have h0 := hr r (by simp)
    refine dv_zero l r ?_ h0
    refine roots n (dv l r) ys (by rw [dv_len]; omega) (by simpa using hx) hd.2 (fun y hy => ?_)
    have h1 := hr y (by simp [hy])
    have h2 := dv_eF l r y
    rw [h0, h1] at h2
    refine mul_zero' (a := y - r) (by rw [← h2]; grind) (fun e => hd.1 ?_)
    have : y = r := by grind
    rw [← this]; exact hy
def subL (l m : List K251) : List K251 := List.zipWith (· - ·) l m
theorem eF_sub : ∀ (l m : List K251) (x : K251), l.length = m.length → eF (subL l m) x = eF l x - eF m x
  | [], [], x, _ => by simp only [subL, List.zipWith_nil_left, eF]; grind
  | a :: l, b :: m, x, h => by
    have ih := eF_sub l m x (by simpa using h)
    simp only [subL, List.zipWith_cons_cons, eF] at ih ⊢
    rw [ih]
    grind
  | [], _ :: _, _, h => by simp at h
  | _ :: _, [], _, h => by simp at h
theorem subL_zero : ∀ (l m : List K251), l.length = m.length → (∀ c ∈ subL l m, c = 0) → l = m
  | [], [], _, _ => rfl
  | a :: l, b :: m, h, hz => by
    have h1 : a - b = 0 := hz _ (by simp [subL])
    have h2 := subL_zero l m (by simpa using h) (fun c hc => hz c (by simp only [subL, List.zipWith_cons_cons, List.mem_cons] at hc ⊢; exact .inr hc))
    rw [h2, show a = b by grind]
  | [], _ :: _, h, _ => by simp at h
  | _ :: _, [], h, _ => by simp at h
theorem uniqueF (l m xs : List K251) (h : l.length = m.length) (hx : l.length ≤ xs.length) (hd : xs.Nodup) (he : ∀ x ∈ xs, eF l x = eF m x) : l = m := by
  refine subL_zero l m h (roots l.length _ xs (by simp [subL, h]) hx hd (fun x hx => ?_))
  rw [eF_sub _ _ _ h, he x hx]
  grind
end Go.Proofs.Ytpfkfbbekfkcgaa.P
end
section
namespace Go.Proofs.Ytpfkfbbekfkcgaa.P
open Go.RowKit Go.Proofs.YtpfkfbbekfkcgaaW.PrintWords Go.Proofs.YtpfkfbbekfkcgaaW.PrintLast Go.Proofs.YtpfkfbbekfkcgaaW.PrintMore
set_option linter.unusedVariables false
set_option linter.unusedSimpArgs false
theorem inv_all' : ∀ n : Fin 251, fk (inv (n.val : Int)) = iF n := by decide +kernel
theorem fk_inv {a : Int} (ha : F251 a) : fk (inv a) = iF (fk a) := by
  obtain ⟨a0, a1⟩ := ha
  have h := inv_all' ⟨a.toNat, by omega⟩
  have e : ((⟨a.toNat, by omega⟩ : Fin 251).val : Int) = a := by simp [Int.toNat_of_nonneg a0]
  rw [e] at h
  rw [h]
  congr 1
  exact (fk_of (by simp; omega)).symm
theorem fk_ev (p : List Int) (x : Int) : fk (ev p x) = eF (p.map fk) (fk x) := by
  induction p with
  | nil => rfl
  | cons c p ih =>
    show fk (((ev p x * x) % 251 + c) % 251) = fk c + fk x * eF (p.map fk) (fk x)
    rw [fk_mod, fk_add, fk_mod, fk_mul, ih]
    grind
def facF (x : K251) (a b : S61) : K251 := if a.f0 = b.f0 then 1 else (x - fk b.f0) * iF (fk a.f0 - fk b.f0)
def prodF (x : K251) (a : S61) (l : List S61) : K251 := l.foldr (fun b p => facF x a b * p) 1
def sumF (f : S61 → K251) (l : List S61) : K251 := l.foldr (fun a v => f a + v) 0
theorem fk_part_from (x : Int) (a : S61) : ∀ (l : List S61) (p : Int), fk (l.foldl (factor x a) p) = fk p * prodF (fk x) a l
  | [], p => by show fk p = fk p * 1; grind
  | b :: l, p => by
    have e : fk (factor x a p b) = fk p * facF (fk x) a b := by
      unfold factor facF
      split
      · grind
      · rw [fk_mod, fk_mul, fk_mod, fk_mul, fk_mod, fk_sub, fk_inv (mod_in _), fk_mod, fk_sub]
        grind
    rw [List.foldl_cons, fk_part_from x a l, e]
    show _ = fk p * (facF (fk x) a b * prodF (fk x) a l)
    grind
theorem fk_part (x : Int) (l : List S61) (a : S61) : fk (part x l a) = fk a.f1 * prodF (fk x) a l := by
  unfold part
  rw [fk_part_from, fk_mod]
theorem fk_lag_from (x : Int) (m : List S61) : ∀ (l : List S61) (v : Int), fk (l.foldl (fun v a => (v + part x m a) % 251) v) = fk v + sumF (fun a => fk a.f1 * prodF (fk x) a m) l
  | [], v => by show fk v = fk v + 0; grind
  | a :: l, v => by
    rw [List.foldl_cons, fk_lag_from x m l, fk_mod, fk_add, fk_part]
    show _ = fk v + (fk a.f1 * prodF (fk x) a m + sumF _ l)
    grind
def lagF (l : List S61) (x : K251) : K251 := sumF (fun a => fk a.f1 * prodF x a l) l
theorem fk_lag (l : List S61) (x : Int) : fk (lag l x) = lagF l (fk x) := by
  unfold lag
  rw [fk_lag_from, fk_zero]
  show 0 + lagF l (fk x) = _
  grind
theorem lag_in (l : List S61) (x : Int) : F251 (lag l x) := by
  unfold lag
  refine snoc_ind (P := fun m => F251 (m.foldl (fun v a => (v + part x l a) % 251) 0)) ?_ ?_ l
  · exact ⟨Int.le_refl _, by show (0 : Int) ≤ 250; decide⟩
  · intro m a _
    rw [List.foldl_append]
    exact mod_in _
structure KD (l : List S61) : Prop where
  nd : (l.map S61.f0).Nodup
  k : ∀ s ∈ l, F251 s.f0
  v : ∀ s ∈ l, F251 s.f1
theorem fk_ne {a b : Int} (ha : F251 a) (hb : F251 b) (h : a ≠ b) : fk a ≠ fk b := fun e => h (fk_inj ha.1 ha.2 hb.1 hb.2 e)
theorem KD.sub {l m : List S61} (h : KD l) (p : m.Sublist l) : KD m :=
  ⟨h.nd.sublist (p.map _), fun s hs => h.k s (p.subset hs), fun s hs => h.v s (p.subset hs)⟩
def places (l : List S61) : List K251 := l.map fun s => fk s.f0
theorem nodup_map {α β : Type} {f : α → β} : ∀ {l : List α}, l.Nodup → (∀ a ∈ l, ∀ b ∈ l, f a = f b → a = b) → (l.map f).Nodup
  | [], _, _ => List.nodup_nil
  | a :: l, h, hi => by
    rw [List.nodup_cons] at h
    rw [List.map_cons, List.nodup_cons]
    refine ⟨fun hm => ?_, nodup_map h.2 (fun x hx y hy => hi x (List.mem_cons_of_mem _ hx) y (List.mem_cons_of_mem _ hy))⟩
    obtain ⟨b, hb, e⟩ := List.mem_map.1 hm
    have := hi b (List.mem_cons_of_mem _ hb) a (List.mem_cons_self ..) e
    exact h.1 (this ▸ hb)
theorem places_nd {l : List S61} (h : KD l) : (places l).Nodup := by
  have e : places l = (l.map S61.f0).map fk := by simp [places]
  rw [e]
  refine nodup_map h.nd (fun a ha b hb e => ?_)
  obtain ⟨s, hs, rfl⟩ := List.mem_map.1 ha
  obtain ⟨t, ht, rfl⟩ := List.mem_map.1 hb
  have h1 := h.k s hs
  have h2 := h.k t ht
  exact fk_inj h1.1 h1.2 h2.1 h2.2 e
theorem prodF_zero {x : K251} {a b : S61} : ∀ {l : List S61}, b ∈ l → a.f0 ≠ b.f0 → x = fk b.f0 → prodF x a l = 0
  | c :: l, hb, hne, hx => by
    show facF x a c * prodF x a l = 0
    cases hb with
    | head =>
      unfold facF
      rw [if_neg hne, hx]
      grind
    | tail _ hb =>
      rw [prodF_zero hb hne hx]
      grind
theorem prodF_one (a : S61) : ∀ (l : List S61), (∀ s ∈ l, F251 s.f0) → F251 a.f0 → prodF (fk a.f0) a l = 1
  | [], _, _ => rfl
  | b :: l, hl, ha => by
    show facF _ a b * prodF _ a l = 1
    rw [prodF_one a l (fun s hs => hl s (List.mem_cons_of_mem _ hs)) ha]
    unfold facF
    split
    · grind
    · rename_i hne
      have h1 := fk_ne ha (hl b (List.mem_cons_self ..)) hne
      have h2 := inv_ex (fk a.f0 - fk b.f0) (fun e => h1 (by grind))
      rw [h2]
      grind
theorem sumF_one {f : S61 → K251} {a : S61} : ∀ {l : List S61}, (l.map S61.f0).Nodup → a ∈ l → (∀ b ∈ l, b.f0 ≠ a.f0 → f b = 0) → sumF f l = f a
  | b :: l, hn, ha, hz => by
    show f b + sumF f l = f a
    rw [List.map_cons, List.nodup_cons] at hn
    cases ha with
    | head =>
      have : sumF f l = 0 := by
        have : ∀ m : List S61, (∀ c ∈ m, f c = 0) → sumF f m = 0 := by
          intro m
          induction m with
          | nil => exact fun _ => rfl
          | cons c m ih =>
            intro h
            show f c + sumF f m = 0
            rw [h c (List.mem_cons_self ..), ih (fun d hd => h d (List.mem_cons_of_mem _ hd))]
            grind
        exact this l (fun c hc => hz c (List.mem_cons_of_mem _ hc) (fun e => hn.1 (e ▸ List.mem_map_of_mem hc)))
      rw [this]
      grind
    | tail _ ha =>
      have h1 : b.f0 ≠ a.f0 := fun e => hn.1 (e ▸ List.mem_map_of_mem ha)
      rw [hz b (List.mem_cons_self ..) h1, sumF_one hn.2 ha (fun c hc => hz c (List.mem_cons_of_mem _ hc))]
      grind
theorem lagF_at {l : List S61} (h : KD l) {a : S61} (ha : a ∈ l) : lagF l (fk a.f0) = fk a.f1 := by
  unfold lagF
  rw [sumF_one h.nd ha (fun b hb hne => by rw [prodF_zero ha hne rfl]; grind), prodF_one a l h.k (h.k a ha)]
  grind
def mulC (k d : K251) : K251 → List K251 → List K251
  | c, [] => [c * d]
  | c, b :: q => (c - b * k) * d :: mulC k d b q
theorem mulC_len (k d : K251) : ∀ (c : K251) (q : List K251), (mulC k d c q).length = q.length + 1
  | _, [] => rfl
  | _, b :: q => by simp [mulC, mulC_len k d b q]
theorem mulC_eF (k d x : K251) : ∀ (c : K251) (q : List K251), eF (mulC k d c q) x = d * (c + (x - k) * eF q x)
  | c, [] => by simp only [mulC, eF]; grind
  | c, b :: q => by
    simp only [mulC, eF]
    rw [mulC_eF k d x b q]
    grind
def addL : List K251 → List K251 → List K251
  | [], m => m
  | l, [] => l
  | a :: l, b :: m => (a + b) :: addL l m
theorem addL_len : ∀ (l m : List K251), (addL l m).length = max l.length m.length
  | [], m => by simp [addL]
  | a :: l, [] => by simp [addL]
  | a :: l, b :: m => by simp [addL, addL_len l m]
theorem addL_eF (x : K251) : ∀ (l m : List K251), eF (addL l m) x = eF l x + eF m x
  | [], m => by simp only [addL, eF]; grind
  | a :: l, [] => by simp only [addL, eF]; grind
  | a :: l, b :: m => by
    simp only [addL, eF]
    rw [addL_eF x l m]
    grind
def oneL (a : S61) : List S61 → List K251
  | [] => [1]
  | b :: l => if a.f0 = b.f0 then oneL a l else mulC (fk b.f0) (iF (fk a.f0 - fk b.f0)) 0 (oneL a l)
theorem oneL_eF (x : K251) (a : S61) : ∀ (l : List S61), eF (oneL a l) x = prodF x a l
  | [] => by simp only [oneL, eF]; show _ = (1 : K251); grind
  | b :: l => by
    have ih := oneL_eF x a l
    show _ = facF x a b * prodF x a l
    unfold oneL facF
    split
    · rw [ih]; grind
    · rw [mulC_eF, ih]; grind
theorem oneL_le (a : S61) : ∀ (l : List S61), (oneL a l).length ≤ l.length + 1
  | [] => by simp [oneL]
  | b :: l => by
    have := oneL_le a l
    unfold oneL
    split
    · simp; omega
    · rw [mulC_len]; simp; omega
theorem oneL_lt {a : S61} : ∀ {l : List S61}, a ∈ l → (oneL a l).length ≤ l.length
  | b :: l, h => by
    unfold oneL
    cases h with
    | head =>
      rw [if_pos rfl]
      have := oneL_le a l
      simpa using this
    | tail _ h =>
      have := oneL_lt h
      split
      · simp; omega
      · rw [mulC_len]; simp; omega
def scL (c : K251) (q : List K251) : List K251 := q.map fun a => c * a
theorem scL_eF (c x : K251) : ∀ q : List K251, eF (scL c q) x = c * eF q x
  | [] => by simp only [scL, List.map_nil, eF]; grind
  | a :: q => by
    have ih := scL_eF c x q
    simp only [scL, List.map_cons, eF] at ih ⊢
    rw [ih]
    grind
def lagL (m : List S61) : List S61 → List K251
  | [] => []
  | a :: l => addL (scL (fk a.f1) (oneL a m)) (lagL m l)
theorem lagL_eF (x : K251) (m : List S61) : ∀ l : List S61, eF (lagL m l) x = sumF (fun a => fk a.f1 * prodF x a m) l
  | [] => rfl
  | a :: l => by
    show eF (addL _ _) x = fk a.f1 * prodF x a m + sumF _ l
    rw [addL_eF, scL_eF, oneL_eF, lagL_eF x m l]
theorem lagL_len (m : List S61) : ∀ l : List S61, (∀ a ∈ l, a ∈ m) → (lagL m l).length ≤ m.length
  | [], _ => by simp [lagL]
  | a :: l, h => by
    have h1 := lagL_len m l (fun b hb => h b (List.mem_cons_of_mem _ hb))
    have h2 := oneL_lt (h a (List.mem_cons_self ..))
    rw [lagL, addL_len, scL, List.length_map]
    omega
theorem eF_zeros (x : K251) (n : Nat) : ∀ l : List K251, eF (l ++ List.replicate n 0) x = eF l x
  | [] => by
    induction n with
    | zero => rfl
    | succ n ih =>
      simp only [List.nil_append, List.replicate_succ, eF] at ih ⊢
      rw [ih]
      grind
  | a :: l => by
    have := eF_zeros x n l
    simp only [List.cons_append, eF]
    rw [this]
theorem lag_list (l : List S61) (n : Nat) (hn : l.length ≤ n) : ∃ p : List K251, p.length = n ∧ ∀ x, eF p x = lagF l x := by
  refine ⟨lagL l l ++ List.replicate (n - (lagL l l).length) 0, ?_, fun x => ?_⟩
  · have := lagL_len l l (fun a h => h)
    simp; omega
  · rw [eF_zeros, lagL_eF]; rfl
end Go.Proofs.Ytpfkfbbekfkcgaa.P
end
section
namespace Go.Proofs.Ytpfkfbbekfkcgaa.P
open Go.RowKit Go.Proofs.YtpfkfbbekfkcgaaW.PrintWords Go.Proofs.YtpfkfbbekfkcgaaW.PrintLast Go.Proofs.YtpfkfbbekfkcgaaW.PrintMore
set_option linter.unusedVariables false
set_option linter.unusedSimpArgs false
theorem zipF_nil (F : Int → Int → Int) : zipF F [] [] = [] := rfl
theorem zipF_cons (F : Int → Int → Int) (a b : Int) (p q : List Int) : zipF F (a :: p) (b :: q) = F a b :: zipF F p q := by
  unfold zipF
  rw [List.length_cons, List.length_cons, Nat.succ_max_succ, List.range_succ_eq_map, List.map_cons, List.map_map]
  rfl
theorem zipF_left (F : Int → Int → Int) (a : Int) (p : List Int) : zipF F (a :: p) [] = F a 0 :: zipF F p [] := by
  unfold zipF
  rw [List.length_cons, List.length_nil, Nat.max_eq_left (Nat.zero_le _), Nat.max_eq_left (Nat.zero_le _), List.range_succ_eq_map, List.map_cons, List.map_map]
  rfl
theorem zipF_right (F : Int → Int → Int) (b : Int) (q : List Int) : zipF F [] (b :: q) = F 0 b :: zipF F [] q := by
  unfold zipF
  rw [List.length_cons, List.length_nil, Nat.max_eq_right (Nat.zero_le _), Nat.max_eq_right (Nat.zero_le _), List.range_succ_eq_map, List.map_cons, List.map_map]
  rfl
theorem eF_add : ∀ (p q : List Int) (x : K251), eF ((zipF addF p q).map fk) x = eF (p.map fk) x + eF (q.map fk) x
  | [], [], x => by rw [zipF_nil]; simp only [List.map_nil, eF]; grind
  | a :: p, [], x => by
    have ih := eF_add p [] x
    rw [zipF_left]
    simp only [List.map_cons, List.map_nil, eF, addF] at ih ⊢
    rw [ih, fk_mod, fk_add, fk_zero]
    grind
  | [], b :: q, x => by
    have ih := eF_add [] q x
    rw [zipF_right]
    simp only [List.map_cons, List.map_nil, eF, addF] at ih ⊢
    rw [ih, fk_mod, fk_add, fk_zero]
    grind
  | a :: p, b :: q, x => by
    have ih := eF_add p q x
    rw [zipF_cons]
    simp only [List.map_cons, eF, addF] at ih ⊢
    rw [ih, fk_mod, fk_add]
    grind
theorem eF_subF : ∀ (p q : List Int) (x : K251), eF ((zipF subF p q).map fk) x = eF (p.map fk) x - eF (q.map fk) x
  | [], [], x => by rw [zipF_nil]; simp only [List.map_nil, eF]; grind
  | a :: p, [], x => by
    have ih := eF_subF p [] x
    rw [zipF_left]
    simp only [List.map_cons, List.map_nil, eF, subF] at ih ⊢
    rw [ih, fk_mod, fk_sub, fk_zero]
    grind
  | [], b :: q, x => by
    have ih := eF_subF [] q x
    rw [zipF_right]
    simp only [List.map_cons, List.map_nil, eF, subF] at ih ⊢
    rw [ih, fk_mod, fk_sub, fk_zero]
    grind
  | a :: p, b :: q, x => by
    have ih := eF_subF p q x
    rw [zipF_cons]
    simp only [List.map_cons, eF, subF] at ih ⊢
    rw [ih, fk_mod, fk_sub]
    grind
theorem eF_scale (a : Int) (x : K251) : ∀ p : List Int, eF ((scale p a).map fk) x = fk a * eF (p.map fk) x
  | [] => by simp only [scale, List.map_nil, eF]; grind
  | c :: p => by
    have ih := eF_scale a x p
    simp only [scale, List.map_cons, eF] at ih ⊢
    rw [ih, fk_mod, fk_mul]
    grind
def prodK (l : List S61) (x : K251) : K251 := l.foldl (fun v s => v * (x - fk s.f0)) 1
theorem prodK_snoc (l : List S61) (a : S61) (x : K251) : prodK (l ++ [a]) x = prodK l x * (x - fk a.f0) := by
  unfold prodK
  rw [List.foldl_append]; rfl
theorem zero_mul' (a b : K251) (h : a = 0) : a * b = 0 := by subst h; grind
theorem prodK_zero {a : S61} {l : List S61} : a ∈ l → prodK l (fk a.f0) = 0 := by
  refine snoc_ind (P := fun l => a ∈ l → prodK l (fk a.f0) = 0) (fun h => by cases h) ?_ l
  intro l b ih h
  rw [prodK_snoc]
  rcases List.mem_append.1 h with h | h
  · exact zero_mul' _ _ (ih h)
  · rw [List.mem_singleton] at h
    subst h
    grind
theorem prodK_ne {x : K251} {l : List S61} : (∀ a ∈ l, x ≠ fk a.f0) → prodK l x ≠ 0 := by
  refine snoc_ind (P := fun l => (∀ a ∈ l, x ≠ fk a.f0) → prodK l x ≠ 0) (fun _ => show (1 : K251) ≠ 0 by decide) ?_ l
  intro l b ih h e
  rw [prodK_snoc] at e
  have h1 := ih (fun a ha => h a (List.mem_append_left _ ha))
  have h2 := mul_zero' e h1
  exact h b (List.mem_append_right _ (List.mem_singleton_self b)) (by grind)
theorem solved_two (l : List S61) (x : K251) : eF ((solved l).2.map fk) x = prodK l x := by
  refine snoc_ind (P := fun l => eF ((solved l).2.map fk) x = prodK l x) ?_ ?_ l
  · show eF ([1].map fk) x = 1
    simp only [List.map_cons, List.map_nil, eF, fk_one]
    grind
  · intro l a ih
    rw [solved_snoc, prodK_snoc]
    show eF ((zipF subF (0 :: (solved l).2) (scale (solved l).2 a.f0)).map fk) x = _
    rw [eF_subF, eF_scale, List.map_cons]
    simp only [eF, fk_zero]
    rw [ih]
    grind
theorem solved_len (l : List S61) : (solved l).1.length = l.length := by
  refine snoc_ind (P := fun l => (solved l).1.length = l.length) rfl ?_ l
  intro l a ih
  rw [solved_snoc]
  have h2 := (solved_in l).2.2.2
  simp only [solveStep, zipF_len, scale_len, List.length_append, List.length_singleton, ih, h2]
  omega
theorem solved_at (l : List S61) : KD l → ∀ a ∈ l, eF ((solved l).1.map fk) (fk a.f0) = fk a.f1 := by
  refine snoc_ind (P := fun l => KD l → ∀ a ∈ l, eF ((solved l).1.map fk) (fk a.f0) = fk a.f1) (fun _ a h => by cases h) ?_ l
  intro l b ih hk a ha
  have hl : KD l := hk.sub (List.sublist_append_left _ _)
  rw [solved_snoc]
  show eF ((zipF addF (solved l).1 (scale (solved l).2 _)).map fk) _ = _
  rw [eF_add, eF_scale, solved_two]
  rcases List.mem_append.1 ha with ha | ha
  · rw [ih hl a ha, prodK_zero ha]
    grind
  · rw [List.mem_singleton] at ha
    subst ha
    have hne : prodK l (fk a.f0) ≠ 0 := prodK_ne (fun c hc => by
      have hn := hk.nd
      rw [List.map_append, List.nodup_append] at hn
      exact fk_ne (hk.k a (by simp)) (hk.k c (by simp [hc])) (fun e => hn.2.2 c.f0 (List.mem_map_of_mem hc) a.f0 (by simp) e.symm))
    have h2 := inv_ex _ hne
    rw [fk_mod, fk_mul, fk_mod, fk_sub, fk_inv (ev_in _ _), fk_ev, fk_ev, solved_two]
    grind
def Fit (n : Nat) (l : List S61) : Prop := ∃ p : List K251, p.length = n ∧ ∀ a ∈ l, eF p (fk a.f0) = fk a.f1
theorem fit_unique {l : List S61} (h : KD l) {p q : List K251} (hp : p.length = q.length) (hl : p.length ≤ l.length)
    (h1 : ∀ a ∈ l, eF p (fk a.f0) = fk a.f1) (h2 : ∀ a ∈ l, eF q (fk a.f0) = fk a.f1) : p = q := by
  refine uniqueF p q (places l) hp (by simpa [places] using hl) (places_nd h) (fun x hx => ?_)
  obtain ⟨a, ha, rfl⟩ := List.mem_map.1 hx
  rw [h1 a ha, h2 a ha]
theorem all_fk {p q : List Int} (hp : all251 p) (hq : all251 q) (h : p.map fk = q.map fk) : p = q := by
  induction p generalizing q with
  | nil =>
    cases q with
    | nil => rfl
    | cons b q => simp at h
  | cons a p ih =>
    cases q with
    | nil => simp at h
    | cons b q =>
      simp only [List.map_cons, List.cons.injEq] at h
      have ha := hp a (by simp)
      have hb := hq b (by simp)
      rw [fk_inj ha.1 ha.2 hb.1 hb.2 h.1, ih (fun x hx => hp x (by simp [hx])) (fun x hx => hq x (by simp [hx])) h.2]
theorem agreeB_fit {n : Nat} {l : List S61} (h : KD l) : agreeB n l = true ↔ Fit n l := by
  unfold agreeB
  by_cases c : (l.length : Int) ≤ n
  · rw [if_pos c]
    obtain ⟨p, hp, he⟩ := lag_list l n (by omega)
    exact ⟨fun _ => ⟨p, hp, fun a ha => by rw [he, lagF_at h ha]⟩, fun _ => rfl⟩
  · rw [if_neg c, show (n : Int).toNat = n by omega]
    have ht : KD (l.take n) := h.sub (List.take_sublist _ _)
    obtain ⟨p, hp, he⟩ := lag_list (l.take n) n (by rw [List.length_take]; omega)
    have hlie : lieS (l.take n) (l.drop n) = true ↔ ∀ s ∈ l.drop n, lag (l.take n) s.f0 = s.f1 := by
      unfold lieS
      simp
    rw [hlie]
    constructor
    · intro hd
      refine ⟨p, hp, fun a ha => ?_⟩
      rw [he]
      rw [← List.take_append_drop n l] at ha
      rcases List.mem_append.1 ha with ha | ha
      · exact lagF_at ht ha
      · rw [← fk_lag, hd a ha]
    · rintro ⟨q, hq, hqa⟩ s hs
      have e : p = q := fit_unique ht (by omega) (by rw [List.length_take]; omega) (fun a ha => by rw [he, lagF_at ht ha]) (fun a ha => hqa a (List.mem_of_mem_take ha))
      have hs' := List.mem_of_mem_drop hs
      have h1 := hqa s hs'
      rw [← e, he, ← fk_lag] at h1
      have hv := h.v s hs'
      exact fk_inj (lag_in _ _).1 (lag_in _ _).2 hv.1 hv.2 h1
theorem ev_eq {p : List Int} {s : S61} (hv : F251 s.f1) : ev p s.f0 = s.f1 ↔ eF (p.map fk) (fk s.f0) = fk s.f1 := by
  rw [← fk_ev]
  exact ⟨fun e => by rw [e], fun e => fk_inj (ev_in _ _).1 (ev_in _ _).2 hv.1 hv.2 e⟩
theorem lieP_iff {p : List Int} {l : List S61} (h : ∀ s ∈ l, F251 s.f1) : lieP p l = true ↔ ∀ s ∈ l, eF (p.map fk) (fk s.f0) = fk s.f1 := by
  unfold lieP
  simp only [Bool.not_eq_true', List.any_eq_false, bne_iff_ne, ne_eq, Decidable.not_not]
  exact ⟨fun hh s hs => (ev_eq (h s hs)).1 (hh s hs), fun hh s hs => (ev_eq (h s hs)).2 (hh s hs)⟩
def itp (n : Nat) (l : List S61) : List Int := (solved (l.take n)).1
theorem itp_len {n : Nat} {l : List S61} (hn : n ≤ l.length) : (itp n l).length = n := by
  unfold itp
  rw [solved_len, List.length_take]
  omega
theorem itp_in (n : Nat) (l : List S61) : all251 (itp n l) := (solved_in _).1
theorem itp_only {n : Nat} {l : List S61} (h : KD l) (hn : n ≤ l.length) {p : List K251} (hp : p.length = n) (ha : ∀ a ∈ l.take n, eF p (fk a.f0) = fk a.f1) : (itp n l).map fk = p := by
  have ht : KD (l.take n) := h.sub (List.take_sublist _ _)
  exact fit_unique ht (by rw [List.length_map, itp_len hn, hp]) (by rw [List.length_map, itp_len hn, List.length_take]; omega) (solved_at _ ht) ha
theorem lieP_fit {n : Nat} {l : List S61} (h : KD l) (hn : n ≤ l.length) : lieP (itp n l) l = true ↔ Fit n l := by
  rw [lieP_iff h.v]
  constructor
  · exact fun hh => ⟨(itp n l).map fk, by rw [List.length_map, itp_len hn], hh⟩
  · rintro ⟨p, hp, ha⟩
    rw [itp_only h hn hp (fun a hm => ha a (List.mem_of_mem_take hm))]
    exact ha
theorem lag_itp {n : Nat} {l : List S61} (h : KD l) (hn : n ≤ l.length) (x : Int) : lag (l.take n) x = ev (itp n l) x := by
  have ht : KD (l.take n) := h.sub (List.take_sublist _ _)
  obtain ⟨p, hp, he⟩ := lag_list (l.take n) n (by rw [List.length_take]; omega)
  have e := itp_only h hn hp (fun a ha => by rw [he, lagF_at ht ha])
  refine fk_inj (lag_in _ _).1 (lag_in _ _).2 (ev_in _ _).1 (ev_in _ _).2 ?_
  rw [fk_lag, fk_ev, e, he]
end Go.Proofs.Ytpfkfbbekfkcgaa.P
end
section
namespace Go.Proofs.Ytpfkfbbekfkcgaa.P
open Go.RowKit Go.Proofs.YtpfkfbbekfkcgaaW.PrintWords Go.Proofs.YtpfkfbbekfkcgaaW.PrintLast Go.Proofs.YtpfkfbbekfkcgaaW.PrintMore
set_option linter.unusedVariables false
set_option linter.unusedSimpArgs false
theorem Ev.pos {α : Type} {c : Prop} [Decidable c] {f g : Nat → Option α} {r : α} (h : c) (H : Ev f r) : Ev (fun k => if c then f k else g k) r := by
  simpa only [if_pos h] using H
theorem Ev.neg {α : Type} {c : Prop} [Decidable c] {f g : Nat → Option α} {r : α} (h : ¬ c) (H : Ev g r) : Ev (fun k => if c then f k else g k) r := by
  simpa only [if_neg h] using H
theorem Ev.have {α : Type} {x : Option α} {r : α} (h : x = some r) : Ev (fun _ => x) r := ⟨0, fun _ _ => h⟩
theorem w_nat (n : Nat) (h : n ≤ 4611686018427387904) : wrap64 ((n : Int) + 1) = ((n + 1 : Nat) : Int) := by unfold wrap64; omega
theorem rd_at (l : List Int) (n : Nat) (h : n < l.length) : rd l (n : Int) = l[n] := by
  unfold rd
  rw [Int.toNat_natCast, List.getD_eq_getElem?_getD, List.getElem?_eq_getElem h]; rfl
theorem drop_at {α : Type} (l : List α) (n : Nat) (h : n < l.length) : l.drop n = l[n] :: l.drop (n + 1) := List.drop_eq_getElem_cons h
theorem take_at {α : Type} (l : List α) (n : Nat) (h : n < l.length) : l.take (n + 1) = l.take n ++ [l[n]] := by rw [List.take_succ_eq_append_getElem h]
theorem rd61_at (l : List S61) (n : Nat) (h : n < l.length) : rd_T61 l (n : Int) = l[n] := by
  unfold rd_T61
  rw [Int.toNat_natCast, List.getD_eq_getElem?_getD, List.getElem?_eq_getElem h]; rfl
theorem rd91_at (l : List S91) (n : Nat) (h : n < l.length) : rd_T91 l (n : Int) = l[n] := by
  unfold rd_T91
  rw [Int.toNat_natCast, List.getD_eq_getElem?_getD, List.getElem?_eq_getElem h]; rfl
def g91 (s : S61) : S91 := ⟨s.f0, s.f1⟩
theorem rd91_g (l : List S61) (n : Nat) (h : n < l.length) : rd_T91 (l.map g91) (n : Int) = g91 l[n] := by
  rw [rd91_at _ _ (by simpa using h), List.getElem_map]
theorem is_f (a b c : Int) : pianolaref09_is.f a b c = some (btw b a c) := by
  unfold pianolaref09_is.f pianolaref01_Is.f btw
  by_cases h : b ≤ a
  · have : a ≥ b := h
    simp [h, this]
  · have : ¬ a ≥ b := h
    simp [h, this]
theorem mod_f (a : Int) (h0 : -1000000000000000 ≤ a) (h1 : a ≤ 1000000000000000) : pianolaref09_mod.f a = some (a % 251) := of_f a h0 h1
theorem ref_inv_all : ∀ n : Fin 251, n.val ≠ 0 → pianolaref09_inverse.f 252 (n.val : Int) = some (inv (n.val : Int)) := by decide +kernel
theorem ref_inv (a : Int) (ha : F251 a) (h : a ≠ 0) : Ev (fun k => pianolaref09_inverse.f k a) (inv a) := by
  obtain ⟨a0, a1⟩ := ha
  have := ref_inv_all ⟨a.toNat, by omega⟩ (by simp; omega)
  exact Ev.of (fun k => pianolaref09_inverse.mono _ k) (by simpa [Int.toNat_of_nonneg a0] using this)
theorem value_ev (l : List Int) (x : Int) (hx : F251 x) (hl : all251 l) (hn : l.length ≤ 1000000) : Ev (fun k => pianolaref09_value.f k l x) (ev l x) := by
  have key : ∀ (d n : Nat) (s p : Int), n + d = l.length → F251 s → F251 p → fk (ev l x) = fk s + fk p * eF ((l.drop n).map fk) (fk x) → Ev (fun k => pianolaref09_value.l0 k l x s p (n : Int)) (ev l x) := by
    intro d
    induction d with
    | zero =>
      intro n s p hd hs hp he
      refine Ev.step (fun k => by rw [pianolaref09_value.l0]) ?_
      refine Ev.neg (by omega) (Ev.have ?_)
      rw [List.drop_of_length_le (by omega)] at he
      simp only [List.map_nil, eF] at he
      rw [fk_inj (ev_in l x).1 (ev_in l x).2 hs.1 hs.2 (by rw [he]; grind)]
    | succ d ih =>
      intro n s p hd hs hp he
      have hlt : n < l.length := by omega
      have hc := hl _ (List.getElem_mem hlt)
      obtain ⟨m0, m1⟩ := mul_bd _ _ hc hp
      obtain ⟨q0, q1⟩ := mul_bd _ _ hp hx
      obtain ⟨s0, s1⟩ := hs
      refine Ev.step (fun k => by rw [pianolaref09_value.l0]) ?_
      refine Ev.pos (by omega) (Ev.pos (by omega) ?_)
      rw [rd_at l n hlt, show wrap64 (l[n] * p) = l[n] * p by unfold wrap64; omega, show wrap64 (s + l[n] * p) = s + l[n] * p by unfold wrap64; omega, show wrap64 (p * x) = p * x by unfold wrap64; omega]
      rw [mod_f _ (by omega) (by omega), mod_f _ (by omega) (by omega), w_nat n (by omega)]
      refine Ev.bind (Ev.now _) (Ev.bind (Ev.now _) ?_)
      refine ih (n + 1) _ _ (by omega) (mod_in _) (mod_in _) ?_
      rw [he, drop_at l n hlt, fk_mod, fk_mod, fk_add, fk_mul, fk_mul]
      simp only [List.map_cons, eF]
      grind
  refine key l.length 0 0 1 (by omega) ⟨by omega, by omega⟩ ⟨by omega, by omega⟩ ?_
  rw [fk_ev, fk_zero, fk_one, List.drop_zero]
  grind
end Go.Proofs.Ytpfkfbbekfkcgaa.P
end
section
namespace Go.Proofs.Ytpfkfbbekfkcgaa.P
open Go.RowKit Go.Proofs.YtpfkfbbekfkcgaaW.PrintWords Go.Proofs.YtpfkfbbekfkcgaaW.PrintLast Go.Proofs.YtpfkfbbekfkcgaaW.PrintMore
set_option linter.unusedVariables false
set_option linter.unusedSimpArgs false
theorem any_at (l : List S61) (n : Nat) (h : n < l.length) (P : S61 → Bool) : (l.take (n + 1)).any P = ((l.take n).any P || P l[n]) := by
  rw [take_at l n h, List.any_append]; simp
theorem refcheck_inner (l : List S61) (hl : l.length ≤ 20) (n : Nat) (hn : n < l.length) (R : Int)
    (H : (l.take n).any (fun t => t.f0 == l[n].f0) = false → Ev (fun k => pianolaref09_check.l0 k (l.map g91) ((n + 1 : Nat) : Int)) R)
    (H' : (l.take n).any (fun t => t.f0 == l[n].f0) = true → R = 9) :
    ∀ (d m : Nat), m + d = n → (l.take m).any (fun t => t.f0 == l[n].f0) = false → Ev (fun k => pianolaref09_check.l1 k (l.map g91) (n : Int) (m : Int)) R := by
  intro d
  induction d with
  | zero =>
    intro m hm ha
    refine Ev.step (fun k => by rw [pianolaref09_check.l1]) ?_
    refine Ev.neg (by omega) ?_
    obtain rfl : m = n := by omega
    rw [w_nat m (by omega)]
    exact H ha
  | succ d ih =>
    intro m hm ha
    have hlt : m < l.length := by omega
    refine Ev.step (fun k => by rw [pianolaref09_check.l1]) ?_
    refine Ev.pos (by omega) (Ev.pos (by omega) (Ev.pos (by simp; omega) (Ev.pos (by omega) (Ev.pos (by simp; omega) ?_))))
    rw [rd91_g l m hlt, rd91_g l n hn, w_nat m (by omega)]
    by_cases c : l[m].f0 = l[n].f0
    · refine Ev.pos c (Ev.have ?_)
      rw [H']
      rw [List.any_eq_true]
      exact ⟨l[m], by rw [List.mem_take_iff_getElem]; exact ⟨m, by omega, rfl⟩, by simpa using c⟩
    · refine Ev.neg c (ih (m + 1) (by omega) ?_)
      rw [any_at l m hlt, ha]
      simpa using c
theorem refcheck_ev (need : Int) (l : List S61) : Ev (fun k => pianolaref09_check.f k need (l.map g91)) (checkE need l) := by
  unfold pianolaref09_check.f checkE
  rw [is_f]
  refine Ev.bind (Ev.now _) ?_
  by_cases b : btw 1 need 8 = true
  · refine Ev.pos b ?_
    simp only [b, Bool.true_eq_false, if_false]
    by_cases hl : l.length > 20
    · refine Ev.pos (by simp; omega) (Ev.have ?_)
      rw [if_pos hl]
    · refine Ev.neg (by simp; omega) ?_
      rw [if_neg hl]
      have key : ∀ (d n : Nat), n + d = l.length → Ev (fun k => pianolaref09_check.l0 k (l.map g91) (n : Int)) (scan (l.take n) (l.drop n)) := by
        intro d
        induction d with
        | zero =>
          intro n hd
          refine Ev.step (fun k => by rw [pianolaref09_check.l0]) ?_
          refine Ev.neg (by simp; omega) (Ev.have ?_)
          rw [List.drop_of_length_le (by omega)]; rfl
        | succ d ih =>
          intro n hd
          have hlt : n < l.length := by omega
          refine Ev.step (fun k => by rw [pianolaref09_check.l0]) ?_
          refine Ev.pos (by simp; omega) (Ev.pos (by omega) ?_)
          rw [rd91_g l n hlt, is_f, is_f, drop_at l n hlt]
          refine Ev.bind (Ev.now _) ?_
          have hi : Ev (fun k => pianolaref09_check.j1 k (l.map g91) (n : Int) (!(btw 1 l[n].f0 20 && btw 0 l[n].f1 250))) (scan (l.take n) (l[n] :: l.drop (n + 1))) := by
            refine Ev.step (fun k => by rw [pianolaref09_check.j1]) ?_
            unfold scan
            by_cases c : (btw 1 l[n].f0 20 && btw 0 l[n].f1 250) = true
            · refine Ev.neg (by simp [c]) ?_
              rw [if_neg (by simp [c])]
              refine refcheck_inner l (by omega) n hlt _ (fun ha => ?_) (fun ha => ?_) n 0 (by omega) rfl
              · rw [if_neg (by rw [ha]; simp), ← take_at l n hlt]
                exact ih (n + 1) (by omega)
              · rw [if_pos ha]
            · rw [Bool.not_eq_true] at c
              refine Ev.pos (by rw [c]; rfl) (Ev.have ?_)
              rw [if_pos c]
          by_cases c1 : btw 1 l[n].f0 20 = true
          · refine Ev.pos c1 (Ev.bind (Ev.now _) ?_)
            have := hi
            rw [c1, Bool.true_and] at this
            exact this
          · refine Ev.neg c1 ?_
            have := hi
            rw [Bool.not_eq_true] at c1
            rw [c1, Bool.false_and] at this
            exact this
      have := key l.length 0 (by omega)
      exact this
  · refine Ev.neg b (Ev.have ?_)
    simp [b]
theorem scan_nd : ∀ (l b : List S61), scan b l = 0 → (b.map S61.f0).Nodup → ((b ++ l).map S61.f0).Nodup
  | [], b, _, hb => by rwa [List.append_nil]
  | s :: r, b, h, hb => by
    unfold scan at h
    by_cases c1 : (btw 1 s.f0 20 && btw 0 s.f1 250) = false
    · rw [if_pos c1] at h; omega
    · rw [if_neg c1] at h
      by_cases c2 : (b.any fun t => t.f0 == s.f0) = true
      · rw [if_pos c2] at h; omega
      · rw [if_neg c2] at h
        have := scan_nd r (b ++ [s]) h (by
          rw [List.map_append, List.nodup_append]
          refine ⟨hb, by simp, fun x hx y hy e => c2 ?_⟩
          obtain ⟨t, ht, rfl⟩ := List.mem_map.1 hx
          simp only [List.map_cons, List.map_nil, List.mem_singleton] at hy
          exact List.any_eq_true.2 ⟨t, ht, by simp [e, hy]⟩)
        rwa [List.append_assoc, List.singleton_append] at this
structure Fine (need : Int) (l : List S61) : Prop where
  n0 : 1 ≤ need
  n1 : need ≤ 8
  len : l.length ≤ 20
  good : ∀ s ∈ l, Good s
  kd : KD l
theorem checkE_fine {need : Int} {l : List S61} (h : checkE need l = 0) : Fine need l := by
  obtain ⟨a, b, c, d, e⟩ := checkE_ok h
  refine ⟨a, b, c, d, ?_, fun s hs => ?_, fun s hs => ?_⟩
  · have := scan_nd l [] e List.nodup_nil
    simpa using this
  · have := d s hs
    exact ⟨by have := this.1; omega, by have := this.2.1; omega⟩
  · have := d s hs
    exact ⟨this.2.2.1, this.2.2.2⟩
theorem scan_zero : ∀ (l b : List S61), (∀ s ∈ l, Good s) → ((b ++ l).map S61.f0).Nodup → scan b l = 0
  | [], b, _, _ => rfl
  | s :: r, b, h, hn => by
    have hs := h s (by simp)
    unfold scan
    rw [if_neg (by simp only [Bool.not_eq_false, Bool.and_eq_true, btw_iff]; exact ⟨⟨hs.1, hs.2.1⟩, hs.2.2⟩)]
    have hnb : ¬ (b.any fun t => t.f0 == s.f0) = true := by
      intro hc
      obtain ⟨t, ht, e⟩ := List.any_eq_true.1 hc
      rw [List.map_append, List.nodup_append] at hn
      exact hn.2.2 t.f0 (List.mem_map_of_mem ht) s.f0 (by simp) (by simpa using e)
    rw [if_neg hnb]
    refine scan_zero r (b ++ [s]) (fun t ht => h t (by simp [ht])) ?_
    rwa [List.append_assoc, List.singleton_append]
theorem checkE_zero {need : Int} {l : List S61} (n0 : 1 ≤ need) (n1 : need ≤ 8) (hl : l.length ≤ 20) (h : ∀ s ∈ l, Good s) (hn : (l.map S61.f0).Nodup) : checkE need l = 0 := by
  unfold checkE
  rw [if_neg (by rw [Bool.not_eq_false, btw_iff]; exact ⟨n0, n1⟩), if_neg (by omega)]
  exact scan_zero l [] h (by simpa using hn)
theorem set_mid {α : Type} (a : List α) (b v : α) (c : List α) : (a ++ b :: c).set a.length v = a ++ v :: c := by simp
theorem rd_mid (a : List Int) (b : Int) (c : List Int) : rd (a ++ b :: c) (a.length : Int) = b := by
  rw [rd_at _ _ (by simp)]
  simp
def mulTI (k d : Int) : Int → List Int → List Int
  | _, [] => []
  | c, b :: q => (c - ((b * k) % 251) * d) % 251 :: mulTI k d ((0 + b * d) % 251) q
def tailZ (c : Int) : List Int → List Int
  | [] => []
  | _ :: q => c :: List.replicate q.length 0
theorem tailZ_len (c : Int) (q : List Int) : (tailZ c q).length = q.length := by cases q <;> simp [tailZ]
theorem mulTI_len (k d : Int) : ∀ (c : Int) (q : List Int), (mulTI k d c q).length = q.length
  | _, [] => rfl
  | c, b :: q => by simp [mulTI, mulTI_len k d _ q]
theorem mulTI_in (k d : Int) : ∀ (c : Int) (q : List Int), all251 (mulTI k d c q)
  | _, [] => fun _ h => by cases h
  | c, b :: q => fun x hx => by
    cases hx with
    | head => exact mod_in _
    | tail _ hx => exact mulTI_in k d _ q x hx
theorem through_l2 (l : List S61) (x3 x5 : List Int) (x4 m : Nat) (d R' : Int) (R : List Int) (hm : m < l.length) (hk : F251 l[m].f0) (hd : F251 d) (hx5 : all251 x5) (h20 : x5.length ≤ 1000) :
    ∀ (rem pre done : List Int) (c : Int), x5 = pre ++ rem → done.length = pre.length → F251 c →
    Ev (fun k => pianolaref09_through.l1 k (l.map g91) x3 (x4 : Int) (done ++ mulTI l[m].f0 d c rem) ((m + 1 : Nat) : Int)) R →
    m ≤ 1000000 →
    Ev (fun k => pianolaref09_through.l2 k (l.map g91) x3 (x4 : Int) x5 (m : Int) d (done ++ tailZ c rem) (pre.length : Int)) R := by
  intro rem
  induction rem with
  | nil =>
    intro pre done c e hl hc H hm1
    refine Ev.step (fun k => by rw [pianolaref09_through.l2]) ?_
    refine Ev.neg (by rw [e, List.append_nil]; omega) ?_
    rw [w_nat m (by omega)]
    exact H
  | cons b q ih =>
    intro pre done c e hl hc H hm1
    have hb : F251 b := hx5 b (by rw [e]; simp)
    obtain ⟨p0, p1⟩ := mul_bd _ _ hb hk
    obtain ⟨q0, q1⟩ := mul_bd _ _ (mod_in (b * l[m].f0)) hd
    obtain ⟨s0, s1⟩ := mul_bd _ _ hb hd
    obtain ⟨c0, c1⟩ := hc
    have hlen : x5.length = pre.length + (q.length + 1) := by rw [e]; simp
    refine Ev.step (fun k => by rw [pianolaref09_through.l2]) ?_
    refine Ev.pos (by omega) (Ev.pos (by omega) (Ev.pos (by rw [List.length_append, tailZ_len]; simp; omega) (Ev.pos (by omega) (Ev.pos (by simp; omega) ?_))))
    have e5 : rd x5 (pre.length : Int) = b := by rw [e]; exact rd_mid pre b q
    have e8 : rd (done ++ tailZ c (b :: q)) (pre.length : Int) = c := by rw [← hl]; exact rd_mid done c _
    rw [e5, e8, rd91_g l m hm]
    simp only [g91]
    rw [show wrap64 (b * l[m].f0) = b * l[m].f0 by unfold wrap64; omega, Int.tmod_eq_emod_of_nonneg p0, show wrap64 ((b * l[m].f0) % 251 * d) = (b * l[m].f0) % 251 * d by unfold wrap64; omega,
      show wrap64 (c - (b * l[m].f0) % 251 * d) = c - (b * l[m].f0) % 251 * d by unfold wrap64; omega, mod_f _ (by omega) (by omega)]
    refine Ev.bind (Ev.now _) (Ev.bind (Ev.now _) ?_)
    rw [w_nat pre.length (by omega), Int.toNat_natCast, ← hl]
    have es : (done ++ tailZ c (b :: q)).set done.length ((c - (b * l[m].f0) % 251 * d) % 251) = done ++ (c - (b * l[m].f0) % 251 * d) % 251 :: List.replicate q.length 0 := set_mid _ _ _ _
    rw [es]
    have hpre : ((pre ++ [b]).length : Int) = ((done.length + 1 : Nat) : Int) := by rw [List.length_append, hl]; simp
    have hdone : (done ++ [(c - (b * l[m].f0) % 251 * d) % 251]).length = (pre ++ [b]).length := by simp [hl]
    cases q with
    | nil =>
      refine Ev.neg (by rw [hlen]; simp; omega) ?_
      have := ih (pre ++ [b]) (done ++ [(c - (b * l[m].f0) % 251 * d) % 251]) 0 (by rw [e]; simp) hdone ⟨by omega, by omega⟩ (by simpa [mulTI] using H) hm1
      rw [hpre] at this
      simpa [tailZ] using this
    | cons b2 q2 =>
      refine Ev.pos (by rw [hlen]; simp; omega) (Ev.pos (by omega) (Ev.pos (by rw [List.length_append, tailZ_len]; simp; omega) ?_))
      have er : rd (done ++ (c - (b * l[m].f0) % 251 * d) % 251 :: List.replicate (b2 :: q2).length 0) ((done.length + 1 : Nat) : Int) = 0 := by
        have := rd_mid (done ++ [(c - (b * l[m].f0) % 251 * d) % 251]) 0 (List.replicate q2.length 0)
        rw [List.length_append] at this
        simpa [List.replicate_succ] using this
      rw [er, show wrap64 (b * d) = b * d by unfold wrap64; omega, show wrap64 (0 + b * d) = 0 + b * d by unfold wrap64; omega, mod_f _ (by omega) (by omega)]
      refine Ev.bind (Ev.now _) ?_
      have := ih (pre ++ [b]) (done ++ [(c - (b * l[m].f0) % 251 * d) % 251]) ((0 + b * d) % 251) (by rw [e]; simp) hdone (mod_in _) (by
        rw [List.append_assoc, List.singleton_append]
        exact H) hm1
      rw [hpre] at this
      have e9 : (done ++ (c - (b * l[m].f0) % 251 * d) % 251 :: List.replicate (b2 :: q2).length 0).set (((done.length + 1 : Nat) : Int)).toNat ((0 + b * d) % 251) = done ++ [(c - (b * l[m].f0) % 251 * d) % 251] ++ tailZ ((0 + b * d) % 251) (b2 :: q2) := by
        simp [List.replicate_succ, tailZ]
      rw [e9]
      exact this
def mulT (k d : K251) : K251 → List K251 → List K251
  | _, [] => []
  | c, b :: q => (c - b * k * d) :: mulT k d (b * d) q
def mulD (k d : K251) : K251 → List K251 → List K251
  | c, [] => [c]
  | c, b :: q => (c - b * k * d) :: mulD k d (b * d) q
theorem mulTI_fk (k d : Int) : ∀ (c : Int) (q : List Int), (mulTI k d c q).map fk = mulT (fk k) (fk d) (fk c) (q.map fk)
  | _, [] => rfl
  | c, b :: q => by
    simp only [mulTI, List.map_cons, mulT]
    rw [mulTI_fk k d _ q, fk_mod, fk_sub, fk_mul, fk_mod, fk_mul, fk_mod, fk_add, fk_mul, fk_zero, show (0 : K251) + fk b * fk d = fk b * fk d by grind]
theorem mulT_zeros (k d : K251) : ∀ m : Nat, mulT k d 0 (List.replicate m 0) = List.replicate m 0
  | 0 => rfl
  | m + 1 => by
    rw [List.replicate_succ]
    simp only [mulT]
    rw [show (0 : K251) * d = 0 by grind, mulT_zeros k d m, show (0 : K251) - 0 * k * d = 0 by grind]
theorem mulT_mulD (k d : K251) (m : Nat) : ∀ (c : K251) (q : List K251), mulT k d c (q ++ List.replicate (m + 1) 0) = mulD k d c q ++ List.replicate m 0
  | c, [] => by
    rw [List.nil_append, List.replicate_succ]
    simp only [mulT, mulD]
    rw [show (0 : K251) * d = 0 by grind, mulT_zeros k d m, show c - 0 * k * d = c by grind]
    rfl
  | c, b :: q => by
    simp only [List.cons_append, mulT, mulD]
    rw [mulT_mulD k d m _ q]
theorem mulD_len (k d : K251) : ∀ (c : K251) (q : List K251), (mulD k d c q).length = q.length + 1
  | _, [] => rfl
  | _, b :: q => by simp [mulD, mulD_len k d _ q]
theorem mulD_eF (k d x : K251) : ∀ (c : K251) (q : List K251), eF (mulD k d c q) x = c + d * (x - k) * eF q x
  | c, [] => by simp only [mulD, eF]; grind
  | c, b :: q => by
    simp only [mulD, eF]
    rw [mulD_eF k d x _ q]
    grind
theorem prodF_snoc (x : K251) (a b : S61) : ∀ l : List S61, prodF x a (l ++ [b]) = prodF x a l * facF x a b
  | [] => by show facF x a b * 1 = 1 * facF x a b; grind
  | c :: l => by
    show facF x a c * prodF x a (l ++ [b]) = facF x a c * prodF x a l * facF x a b
    rw [prodF_snoc x a b l]
    grind
theorem sumF_snoc (f : S61 → K251) (b : S61) : ∀ l : List S61, sumF f (l ++ [b]) = sumF f l + f b
  | [] => by show f b + 0 = 0 + f b; grind
  | c :: l => by
    show f c + sumF f (l ++ [b]) = f c + sumF f l + f b
    rw [sumF_snoc f b l]
    grind
theorem kd_at {l : List S61} (h : KD l) {i j : Nat} (hi : i < l.length) (hj : j < l.length) : l[i].f0 = l[j].f0 ↔ i = j := by
  constructor
  · intro e
    have hn := h.nd
    have hp := List.pairwise_iff_getElem.1 hn
    rcases Nat.lt_trichotomy i j with c | c | c
    · exact absurd (by rw [List.getElem_map, List.getElem_map]; exact e) (hp i j (by simpa using hi) (by simpa using hj) c)
    · exact c
    · exact absurd (by rw [List.getElem_map, List.getElem_map]; exact e.symm) (hp j i (by simpa using hj) (by simpa using hi) c)
  · rintro rfl; rfl
theorem through_l1 (l : List S61) (hk : KD l) (h20 : l.length ≤ 1000) (x3 : List Int) (i : Nat) (hi : i < l.length) (R : List Int)
    (H : ∀ one : List Int, one.length = l.length → all251 one → (∀ x, eF (one.map fk) x = prodF x l[i] l) → Ev (fun k => pianolaref09_through.l3 k (l.map g91) x3 (i : Int) one 0) R) :
    ∀ (d m : Nat) (x5 : List Int) (q : List K251), m + d = l.length → x5.length = l.length → all251 x5 → x5.map fk = q ++ List.replicate (l.length - q.length) 0 → q.length = 1 + (if m ≤ i then m else m - 1) → (∀ x, eF q x = prodF x l[i] (l.take m)) →
    Ev (fun k => pianolaref09_through.l1 k (l.map g91) x3 (i : Int) x5 (m : Int)) R := by
  intro d
  induction d with
  | zero =>
    intro m x5 q hm hl5 ha hq hql he
    refine Ev.step (fun k => by rw [pianolaref09_through.l1]) ?_
    refine Ev.neg (by simp; omega) ?_
    refine H x5 hl5 ha (fun x => ?_)
    rw [hq, eF_zeros, he x, List.take_of_length_le (by omega)]
  | succ d ih =>
    intro m x5 q hm hl5 ha hq hql he
    have hlt : m < l.length := by omega
    refine Ev.step (fun k => by rw [pianolaref09_through.l1]) ?_
    refine Ev.pos (by simp; omega) ?_
    by_cases c : m = i
    · subst c
      refine Ev.pos rfl ?_
      rw [w_nat m (by omega)]
      refine ih (m + 1) x5 q (by omega) hl5 ha hq (by rw [hql, if_pos (Nat.le_refl _), if_neg (by omega)]; omega) (fun x => ?_)
      rw [take_at l m hlt, prodF_snoc, he x]
      unfold facF
      rw [if_pos rfl]
      grind
    · have ne : ¬ l[i].f0 = l[m].f0 := fun e => c ((kd_at hk hi hlt).1 e).symm
      refine Ev.neg (by omega) (Ev.pos (by omega) (Ev.pos (by simp; omega) (Ev.pos (by omega) ?_)))
      have h1 := hk.k l[i] (List.getElem_mem hi)
      have h2 := hk.k l[m] (List.getElem_mem hlt)
      obtain ⟨h10, h11⟩ := h1
      obtain ⟨h20', h21⟩ := h2
      rw [rd91_g l i hi, rd91_g l m hlt]
      simp only [g91]
      rw [show wrap64 (l[i].f0 - l[m].f0) = l[i].f0 - l[m].f0 by unfold wrap64; omega, mod_f _ (by omega) (by omega)]
      refine Ev.bind (Ev.now _) (Ev.bind (ref_inv _ (mod_in _) (by omega)) ?_)
      refine Ev.pos (by omega) (Ev.pos (by simp; omega) ?_)
      obtain ⟨b5, q5, e5⟩ : ∃ b q', x5 = b :: q' := by
        cases x5 with
        | nil => simp at hl5; omega
        | cons b q' => exact ⟨b, q', rfl⟩
      have hqlt : q.length + 1 ≤ l.length := by
        rw [hql]
        split <;> omega
      have := through_l2 l x3 x5 i m (inv ((l[i].f0 - l[m].f0) % 251)) 0 R hlt ⟨h20', h21⟩ (inv_in _) ha (by omega) x5 [] [] 0 rfl rfl ⟨by omega, by omega⟩ ?_ (by omega)
      · simp only [List.nil_append, List.length_nil] at this
        have e8 : tailZ 0 x5 = List.replicate ((l.map g91).length : Int).toNat 0 := by
          rw [e5]
          show 0 :: List.replicate q5.length 0 = _
          rw [← List.replicate_succ]
          congr 1
          rw [e5] at hl5
          simp at hl5 ⊢
          omega
        rw [e8] at this
        exact this
      · rw [List.nil_append]
        refine ih (m + 1) _ (mulD (fk l[m].f0) (fk (inv ((l[i].f0 - l[m].f0) % 251))) 0 q) (by omega) (by rw [mulTI_len, hl5]) (mulTI_in _ _ _ _) ?_ ?_ (fun x => ?_)
        · rw [mulTI_fk, hq, mulD_len, show l.length - q.length = (l.length - (q.length + 1)) + 1 by omega, fk_zero]
          exact mulT_mulD _ _ _ _ _
        · rw [mulD_len, hql]
          split <;> split <;> omega
        · rw [mulD_eF, he x, take_at l m hlt, prodF_snoc]
          unfold facF
          rw [if_neg ne, fk_inv (mod_in _), fk_mod, fk_sub]
          grind
def addI (v : Int) (a b : List Int) : List Int := List.zipWith (fun o e => (o + e * v) % 251) a b
theorem through_l3 (l : List S61) (h20 : l.length ≤ 1000) (i : Nat) (hi : i < l.length) (hv : F251 l[i].f1) (x5 : List Int) (h5 : all251 x5) (h5l : x5.length ≤ 1000) (R : List Int) :
    ∀ (r5 pre done r3 : List Int), x5 = pre ++ r5 → done.length = pre.length → r3.length = r5.length → (∀ c ∈ r3, F251 c) →
    Ev (fun k => pianolaref09_through.l0 k (l.map g91) (done ++ addI l[i].f1 r3 r5) ((i + 1 : Nat) : Int)) R →
    Ev (fun k => pianolaref09_through.l3 k (l.map g91) (done ++ r3) (i : Int) x5 (pre.length : Int)) R := by
  intro r5
  induction r5 with
  | nil =>
    intro pre done r3 e hl h3 hin H
    refine Ev.step (fun k => by rw [pianolaref09_through.l3]) ?_
    refine Ev.neg (by rw [e, List.append_nil]; omega) ?_
    rw [w_nat i (by omega)]
    cases r3 with
    | nil => exact H
    | cons => simp at h3
  | cons b q ih =>
    intro pre done r3 e hl h3 hin H
    cases r3 with
    | nil => simp at h3
    | cons c r3 =>
      have hb : F251 b := h5 b (by rw [e]; simp)
      obtain ⟨p0, p1⟩ := mul_bd _ _ hb hv
      obtain ⟨c0, c1⟩ := hin c (by simp)
      have hlen : x5.length = pre.length + (q.length + 1) := by rw [e]; simp
      refine Ev.step (fun k => by rw [pianolaref09_through.l3]) ?_
      refine Ev.pos (by omega) (Ev.pos (by omega) (Ev.pos (by simp; omega) (Ev.pos (by omega) (Ev.pos (by simp; omega) ?_))))
      have e5 : rd x5 (pre.length : Int) = b := by rw [e]; exact rd_mid pre b q
      have e8 : rd (done ++ c :: r3) (pre.length : Int) = c := by rw [← hl]; exact rd_mid done c _
      rw [e5, e8, rd91_g l i hi]
      simp only [g91]
      rw [show wrap64 (b * l[i].f1) = b * l[i].f1 by unfold wrap64; omega, show wrap64 (c + b * l[i].f1) = c + b * l[i].f1 by unfold wrap64; omega, mod_f _ (by omega) (by omega)]
      refine Ev.bind (Ev.now _) ?_
      rw [w_nat pre.length (by omega), Int.toNat_natCast, ← hl, set_mid]
      have := ih (pre ++ [b]) (done ++ [(c + b * l[i].f1) % 251]) r3 (by rw [e]; simp) (by simp [hl]) (by simpa using h3) (fun x hx => hin x (by simp [hx])) (by
        rw [List.append_assoc, List.singleton_append]
        exact H)
      rw [List.length_append, ← hl] at this
      simpa using this
theorem addI_len (v : Int) (a b : List Int) (h : a.length = b.length) : (addI v a b).length = b.length := by simp [addI, h]
theorem addI_in (v : Int) : ∀ (a b : List Int), all251 (addI v a b)
  | [], _ => fun _ h => by cases h
  | _ :: _, [] => fun _ h => by cases h
  | a :: p, b :: q => fun x hx => by
    cases hx with
    | head => exact mod_in _
    | tail _ hx => exact addI_in v p q x hx
theorem addI_eF (v : Int) (x : K251) : ∀ (a b : List Int), a.length = b.length → eF ((addI v a b).map fk) x = eF (a.map fk) x + eF (b.map fk) x * fk v
  | [], [], _ => by simp only [addI, List.zipWith_nil_left, List.map_nil, eF]; grind
  | [], _ :: _, h => by simp at h
  | _ :: _, [], h => by simp at h
  | a :: p, b :: q, h => by
    have ih := addI_eF v x p q (by simpa using h)
    simp only [addI, List.zipWith_cons_cons, List.map_cons, eF] at ih ⊢
    rw [ih, fk_mod, fk_add, fk_mul]
    grind
theorem through_ev (l : List S61) (hk : KD l) (h20 : l.length ≤ 1000) : Ev (fun k => pianolaref09_through.f k (l.map g91)) (solved l).1 := by
  unfold pianolaref09_through.f
  refine Ev.pos (by omega) (Ev.pos (by simp; omega) ?_)
  have key : ∀ (d i : Nat) (out : List Int), i + d = l.length → out.length = l.length → all251 out → (∀ x, eF (out.map fk) x = sumF (fun a => fk a.f1 * prodF x a l) (l.take i)) →
      Ev (fun k => pianolaref09_through.l0 k (l.map g91) out (i : Int)) (solved l).1 := by
    intro d
    induction d with
    | zero =>
      intro i out hd ho ha he
      refine Ev.step (fun k => by rw [pianolaref09_through.l0]) ?_
      refine Ev.neg (by simp; omega) (Ev.have ?_)
      congr 1
      refine all_fk ha (solved_in l).1 ?_
      refine fit_unique hk (by simp [ho, solved_len]) (by simp [ho]) (fun a hm => ?_) (solved_at l hk)
      rw [he, List.take_of_length_le (by omega)]
      exact lagF_at hk hm
    | succ d ih =>
      intro i out hd ho ha he
      have hi : i < l.length := by omega
      have hv := hk.v l[i] (List.getElem_mem hi)
      refine Ev.step (fun k => by rw [pianolaref09_through.l0]) ?_
      refine Ev.pos (by simp; omega) (Ev.pos (by omega) (Ev.pos (by simp; omega) (Ev.bind (Ev.now _) (Ev.pos (by simp; omega) ?_))))
      have e0 : (List.replicate ((l.map g91).length : Int).toNat (0 : Int)).set (0 : Int).toNat 1 = 1 :: List.replicate (l.length - 1) 0 := by
        rw [List.length_map, Int.toNat_natCast, show l.length = (l.length - 1) + 1 by omega, List.replicate_succ]
        rfl
      rw [e0]
      refine through_l1 l hk h20 out i hi _ (fun one h1 h2 h3 => ?_) l.length 0 _ [1] (by omega) (by simp; omega) ?_ ?_ ?_ ?_
      · refine through_l3 l h20 i hi hv one h2 (by omega) _ one [] [] out rfl rfl (by omega) ha ?_
        rw [List.nil_append]
        refine ih (i + 1) _ (by omega) (by rw [addI_len _ _ _ (by omega)]; exact h1) (addI_in _ _ _) (fun x => ?_)
        rw [addI_eF _ _ _ _ (by omega), he, h3, take_at l i hi, sumF_snoc]
        grind
      · intro c hc
        rw [List.mem_cons, List.mem_replicate] at hc
        rcases hc with rfl | ⟨_, rfl⟩
        · exact ⟨by omega, by omega⟩
        · exact ⟨by omega, by omega⟩
      · simp [fk_zero, fk_one]
      · simp
      · intro x
        show 1 + x * 0 = 1
        grind
  refine key l.length 0 _ (by omega) (by simp) ?_ (fun x => ?_)
  · intro c hc
    rw [List.mem_replicate] at hc
    rw [hc.2]
    exact ⟨by omega, by omega⟩
  · have := eF_zeros x ((l.map g91).length : Int).toNat []
    rw [List.map_replicate, fk_zero]
    exact this
theorem lieP_cons (p : List Int) (a : S61) (m : List S61) : lieP p (a :: m) = ((ev p a.f0 == a.f1) && lieP p m) := by
  unfold lieP
  rw [List.any_cons, Bool.not_or]
  simp [bne]
theorem lie_ev (p : List Int) (l : List S61) (hp : all251 p) (hpl : p.length ≤ 1000) (hl : ∀ s ∈ l, F251 s.f0) (hll : l.length ≤ 1000000) : Ev (fun k => pianolaref09_lie.f k p (l.map g91)) (lieP p l) := by
  unfold pianolaref09_lie.f
  have key : ∀ (d n : Nat), n + d = l.length → Ev (fun k => pianolaref09_lie.l0 k p (l.map g91) (n : Int)) (lieP p (l.drop n)) := by
    intro d
    induction d with
    | zero =>
      intro n hd
      refine Ev.step (fun k => by rw [pianolaref09_lie.l0]) ?_
      refine Ev.neg (by simp; omega) (Ev.have ?_)
      rw [List.drop_of_length_le (by omega)]; rfl
    | succ d ih =>
      intro n hd
      have hlt : n < l.length := by omega
      refine Ev.step (fun k => by rw [pianolaref09_lie.l0]) ?_
      refine Ev.pos (by simp; omega) (Ev.pos (by omega) ?_)
      rw [rd91_g l n hlt]
      simp only [g91]
      refine Ev.bind (value_ev p _ (hl _ (List.getElem_mem hlt)) hp (by omega)) ?_
      rw [w_nat n (by omega), drop_at l n hlt]
      by_cases c : ev p l[n].f0 = l[n].f1
      · refine Ev.pos c ?_
        have := ih (n + 1) (by omega)
        rw [lieP_cons, beq_iff_eq.2 c, Bool.true_and]
        exact this
      · refine Ev.neg c (Ev.have ?_)
        rw [lieP_cons, beq_eq_false_iff_ne.2 c, Bool.false_and]
  exact key l.length 0 (by omega)
theorem agree_same {need : Int} {l : List S61} (h : Fine need l) (hl : need < l.length) : lieP (solved (l.take need.toNat)).1 l = agreeB need l := by
  have hn : ((need.toNat : Nat) : Int) = need := by have := h.n0; omega
  have h1 := agreeB_fit (n := need.toNat) h.kd
  have h2 := lieP_fit (n := need.toNat) h.kd (by omega)
  rw [hn] at h1
  rw [Bool.eq_iff_iff]
  exact h2.trans h1.symm
theorem map_take' (l : List S61) (n : Nat) : (l.map g91).take n = (l.take n).map g91 := (List.map_take).symm
theorem refagree_ev {need : Int} {l : List S61} (h : Fine need l) : Ev (fun k => pianolaref09_agree.f k need (l.map g91)) (agreeB need l) := by
  unfold pianolaref09_agree.f
  have n0 := h.n0
  have n1 := h.n1
  have hl := h.len
  by_cases c : (l.length : Int) ≤ need
  · refine Ev.pos (by simpa using c) (Ev.have ?_)
    unfold agreeB
    rw [if_pos c]
  · refine Ev.neg (by simpa using c) (Ev.pos (by omega) (Ev.pos (by simp; omega) ?_))
    rw [map_take']
    refine Ev.bind (through_ev _ (h.kd.sub (List.take_sublist _ _)) (by simp; omega)) ?_
    refine Ev.bind (lie_ev _ l (solved_in _).1 (by rw [solved_len]; simp; omega) h.kd.k (by omega)) (Ev.have ?_)
    rw [agree_same h (by omega)]
theorem okSB_of {l : List S61} (h : ∀ s ∈ l, Good s) : okSB l = true := by
  unfold okSB
  rw [List.all_eq_true]
  intro a ha
  have := h a ha
  unfold Good at this
  simp only [Bool.and_eq_true, decide_eq_true_eq]
  omega
theorem agree_f {need : Int} {l : List S61} (h : Fine need l) : vault_agree.f need l = some (agreeB need l) := by
  unfold vault_agree.f
  have := h.n0
  have := h.len
  rw [if_pos (by simp only [Bool.and_eq_true, decide_eq_true_eq]; exact ⟨⟨okSB_of h.good, by omega⟩, by omega⟩)]
theorem vcheck_f (need : Int) (l : List S61) : vault_check.f need l = some (checkE need l) := rfl
theorem numbers_ev (a b : List Int) (h : a.length ≤ 1000000) : Ev (fun k => pianolalaw09_numbers.f k a b) (decide (a = b)) := by
  unfold pianolalaw09_numbers.f
  by_cases hl : a.length = b.length
  · refine Ev.pos (by omega) ?_
    have key : ∀ (d n : Nat), n + d = a.length → Ev (fun k => pianolalaw09_numbers.l0 k a b (n : Int)) (decide (a.drop n = b.drop n)) := by
      intro d
      induction d with
      | zero =>
        intro n hd
        refine Ev.step (fun k => by rw [pianolalaw09_numbers.l0]) ?_
        refine Ev.neg (by omega) (Ev.have ?_)
        rw [List.drop_of_length_le (by omega), List.drop_of_length_le (by omega)]
        simp
      | succ d ih =>
        intro n hd
        have h1 : n < a.length := by omega
        have h2 : n < b.length := by omega
        refine Ev.step (fun k => by rw [pianolalaw09_numbers.l0]) ?_
        refine Ev.pos (by omega) (Ev.pos (by omega) (Ev.pos (by omega) ?_))
        rw [rd_at a n h1, rd_at b n h2, w_nat n (by omega), drop_at a n h1, drop_at b n h2]
        by_cases c : a[n] = b[n]
        · refine Ev.pos c ?_
          have := ih (n + 1) (by omega)
          rw [show decide (a[n] :: a.drop (n + 1) = b[n] :: b.drop (n + 1)) = decide (a.drop (n + 1) = b.drop (n + 1)) from decide_eq_decide.2 (by rw [List.cons.injEq]; exact ⟨fun h => h.2, fun h => ⟨c, h⟩⟩)]
          exact this
        · refine Ev.neg c (Ev.have ?_)
          rw [decide_eq_false (fun e => c (List.cons.inj e).1)]
    exact key a.length 0 (by omega)
  · refine Ev.neg (by omega) (Ev.have ?_)
    rw [decide_eq_false]
    intro e
    rw [e] at hl
    exact hl rfl
end Go.Proofs.Ytpfkfbbekfkcgaa.P
end
section
namespace Go.Proofs.Ytpfkfbbekfkcgaa.P
open Go.RowKit Go.Proofs.YtpfkfbbekfkcgaaW.PrintWords Go.Proofs.YtpfkfbbekfkcgaaW.PrintLast Go.Proofs.YtpfkfbbekfkcgaaW.PrintMore
set_option linter.unusedVariables false
set_option linter.unusedSimpArgs false
def powN : Nat → Int
  | 0 => 1
  | n + 1 => mn (powN n * 251) 4503599627370496
theorem powN_bd : ∀ n, 1 ≤ powN n ∧ powN n ≤ 4503599627370496
  | 0 => by unfold powN; omega
  | n + 1 => by
    have := powN_bd n
    unfold powN mn
    split <;> omega
theorem ev_zero {p : List Int} (h : all251 p) (hl : 0 < p.length) : ev p 0 = rd p 0 := by
  cases p with
  | nil => simp at hl
  | cons c p =>
    obtain ⟨c0, c1⟩ := h c (by simp)
    show ((ev p 0 * 0) % 251 + c) % 251 = c
    omega
def countR (need : Int) (l : List S61) (s : Int) : Int :=
  if (l.length : Int) < need then powN (need.toNat - 1 - l.length) else if agreeB need l = true then (if rd (itp need.toNat l) 0 = s then 1 else 0) else 0
theorem countR_bd (need : Int) (l : List S61) (s : Int) : 0 ≤ countR need l s := by
  unfold countR
  split
  · have := powN_bd (need.toNat - 1 - l.length); omega
  · split
    · split <;> omega
    · omega
theorem counted_ev {need : Int} {l : List S61} (h : Fine need l) (s : Int) : Ev (fun k => vault_counted.f k need l s) (countR need l s) := by
  have n0 := h.n0
  have n1 := h.n1
  have hl := h.len
  unfold vault_counted.f countR
  by_cases c : (l.length : Int) < need
  · refine Ev.pos c ?_
    rw [if_pos c, show wrap64 (wrap64 (need - 1) - (l.length : Int)) = need - 1 - l.length by unfold wrap64; omega]
    have key : ∀ (d n : Nat), n + d = need.toNat - 1 - l.length → Ev (fun k => vault_counted.l0 k (powN n) (need - 1 - l.length) (n : Int)) (powN (need.toNat - 1 - l.length)) := by
      intro d
      induction d with
      | zero =>
        intro n hd
        refine Ev.step (fun k => by rw [vault_counted.l0]) ?_
        refine Ev.neg (by omega) (Ev.have ?_)
        rw [show n = need.toNat - 1 - l.length by omega]
      | succ d ih =>
        intro n hd
        have := powN_bd n
        refine Ev.step (fun k => by rw [vault_counted.l0]) ?_
        refine Ev.pos (by omega) ?_
        rw [show wrap64 (powN n * 251) = powN n * 251 by unfold wrap64; omega, w_nat n (by omega)]
        exact ih (n + 1) (by omega)
    exact key (need.toNat - 1 - l.length) 0 (by omega)
  · refine Ev.neg c ?_
    rw [if_neg c, agree_f h]
    refine Ev.bind (Ev.now _) ?_
    by_cases a : agreeB need l = true
    · refine Ev.pos a ?_
      rw [if_pos a]
      refine Ev.pos (by omega) (Ev.pos (by omega) ?_)
      have e : vault_span_at.f (l.take need.toNat) 0 = some (rd (itp need.toNat l) 0) := by
        unfold vault_span_at.f
        rw [if_pos (by
          simp only [Bool.and_eq_true, decide_eq_true_eq]
          exact ⟨⟨⟨okSB_of (fun s hs => h.good s (List.mem_of_mem_take hs)), by omega⟩, by omega⟩, by rw [List.length_take]; omega⟩)]
        rw [lag_itp h.kd (by omega), ev_zero (itp_in _ _) (by rw [itp_len (by omega)]; omega)]
      rw [e]
      refine Ev.bind (Ev.now _) ?_
      by_cases q : rd (itp need.toNat l) 0 = s
      · exact Ev.pos q (Ev.have (by rw [if_pos q]))
      · exact Ev.neg q (Ev.have (by rw [if_neg q]))
    · exact Ev.neg a (Ev.have (by rw [if_neg a]))
def possTo (need : Int) (l : List S61) (n : Nat) : List Int := ((List.range n).filter fun s : Nat => decide (countR need l (s : Int) > 0)).map fun s : Nat => (s : Int)
theorem possTo_succ (need : Int) (l : List S61) (n : Nat) : possTo need l (n + 1) = if countR need l (n : Int) > 0 then possTo need l n ++ [(n : Int)] else possTo need l n := by
  unfold possTo
  rw [List.range_succ, List.filter_append, List.map_append]
  by_cases c : countR need l (n : Int) > 0
  · simp [c]
  · simp [c]
theorem possTo_len (need : Int) (l : List S61) (n : Nat) : (possTo need l n).length ≤ n := by
  unfold possTo
  rw [List.length_map]
  have := List.length_filter_le (fun s : Nat => decide (countR need l (s : Int) > 0)) (List.range n)
  simpa using this
def possR (need : Int) (l : List S61) : List Int × Int := if checkE need l = 0 then (possTo need l 251, 0) else ([], checkE need l)
theorem Possible_ev (need : Int) (l : List S61) : Ev (fun k => vault_Possible.f k need l) (possR need l) := by
  unfold vault_Possible.f possR
  rw [vcheck_f]
  refine Ev.bind (Ev.now _) ?_
  by_cases h : checkE need l = 0
  · rw [if_pos h]
    refine Ev.pos h ?_
    have hf := checkE_fine h
    have key : ∀ (d n : Nat), n + d = 251 → Ev (fun k => vault_Possible.l0 k need l (possTo need l n) (n : Int)) (possTo need l 251, 0) := by
      intro d
      induction d with
      | zero =>
        intro n hd
        refine Ev.step (fun k => by rw [vault_Possible.l0]) ?_
        refine Ev.neg (by omega) (Ev.have ?_)
        rw [show n = 251 by omega]
      | succ d ih =>
        intro n hd
        refine Ev.step (fun k => by rw [vault_Possible.l0]) ?_
        refine Ev.pos (by omega) (Ev.bind (counted_ev hf _) ?_)
        have := ih (n + 1) (by omega)
        rw [possTo_succ] at this
        have hp := possTo_len need l n
        rw [w_nat n (by omega)]
        by_cases c : countR need l (n : Int) > 0
        · rw [if_pos c] at this
          exact Ev.pos c (Ev.pos (by omega) this)
        · rw [if_neg c] at this
          exact Ev.neg c this
    exact key 251 0 (by omega)
  · exact Ev.neg h (Ev.have (by rw [if_neg h]))
def countE (need : Int) (l : List S61) (s : Int) : Int × Int := if checkE need l = 0 then (if btw 0 s 250 = true then (countR need l s, 0) else (0, 3)) else (0, checkE need l)
theorem Count_ev (need : Int) (l : List S61) (s : Int) : Ev (fun k => vault_Count.f k need l s) (countE need l s) := by
  unfold vault_Count.f countE
  rw [vcheck_f]
  refine Ev.bind (Ev.now _) ?_
  by_cases h : checkE need l = 0
  · rw [if_pos h]
    refine Ev.pos h ?_
    rw [btw_f]
    refine Ev.bind (Ev.now _) ?_
    by_cases c : btw 0 s 250 = true
    · exact Ev.pos c (Ev.bind (counted_ev (checkE_fine h) s) (Ev.have (by rw [if_pos c])))
    · exact Ev.neg c (Ev.have (by rw [if_neg c]))
  · exact Ev.neg h (Ev.have (by rw [if_neg h]))
end Go.Proofs.Ytpfkfbbekfkcgaa.P
end
section
namespace Go.Proofs.Ytpfkfbbekfkcgaa.P
open Go.RowKit Go.Proofs.YtpfkfbbekfkcgaaW.PrintWords Go.Proofs.YtpfkfbbekfkcgaaW.PrintLast Go.Proofs.YtpfkfbbekfkcgaaW.PrintMore
set_option linter.unusedVariables false
set_option linter.unusedSimpArgs false
def addS (a b : List S61) : List S61 := List.zipWith (fun s t => (⟨s.f0, (s.f1 + t.f1) % 251⟩ : S61)) a b
theorem addS_len {a b : List S61} (h : a.length = b.length) : (addS a b).length = a.length := by simp [addS, h]
theorem addS_take {a b : List S61} (h : a.length = b.length) (n : Nat) (hn : n < a.length) : (addS a b).take (n + 1) = (addS a b).take n ++ [⟨a[n].f0, (a[n].f1 + (b[n]'(by omega)).f1) % 251⟩] := by
  rw [take_at _ n (by rw [addS_len h]; exact hn)]
  simp [addS]
def addR (a b : List S61) : List S61 × Int :=
  if checkE 1 a ≠ 0 then ([], checkE 1 a) else if checkE 1 b ≠ 0 then ([], checkE 1 b) else if eqK a b = true then (addS a b, 0) else ([], 14)
theorem Add_ev (a b : List S61) : Ev (fun k => vault_Add.f k a b) (addR a b) := by
  unfold vault_Add.f addR
  refine Ev.bind (Ev.now _) ?_
  refine Ev.step (fun k => by rw [vault_Add.l0]) ?_
  refine Ev.pos (by simp) (Ev.pos (by omega) (Ev.pos (by simp) ?_))
  rw [show rd_L4 [a, b] 0 = a from rfl, vcheck_f]
  refine Ev.bind (Ev.now _) ?_
  by_cases h1 : checkE 1 a = 0
  · refine Ev.pos h1 ?_
    rw [if_neg (by simpa using h1), show wrap64 (0 + 1) = 1 by unfold wrap64; omega]
    refine Ev.step (fun k => by rw [vault_Add.l0]) ?_
    refine Ev.pos (by simp) (Ev.pos (by omega) (Ev.pos (by simp) ?_))
    rw [show rd_L4 [a, b] 1 = b from rfl, vcheck_f]
    refine Ev.bind (Ev.now _) ?_
    by_cases h2 : checkE 1 b = 0
    · refine Ev.pos h2 ?_
      rw [if_neg (by simpa using h2), show wrap64 (1 + 1) = 2 by unfold wrap64; omega]
      refine Ev.step (fun k => by rw [vault_Add.l0]) ?_
      refine Ev.neg (by simp) ?_
      have fa := checkE_fine h1
      have fb := checkE_fine h2
      have la := fa.len
      rw [show equal_keepers.f a b = some (eqK a b) by unfold equal_keepers.f; rw [if_pos (by omega)]]
      refine Ev.bind (Ev.now _) ?_
      by_cases e : eqK a b = true
      · refine Ev.pos e ?_
        rw [if_pos e]
        have hl := eqK_len e
        have key : ∀ (d n : Nat), n + d = a.length → Ev (fun k => vault_Add.l1 k b ((addS a b).take n) a (a.length : Int) (n : Int)) (addS a b, 0) := by
          intro d
          induction d with
          | zero =>
            intro n hd
            refine Ev.step (fun k => by rw [vault_Add.l1]) ?_
            refine Ev.neg (by omega) (Ev.have ?_)
            rw [List.take_of_length_le (by rw [addS_len hl]; omega)]
          | succ d ih =>
            intro n hd
            have hn : n < a.length := by omega
            have hb : n < b.length := by omega
            refine Ev.step (fun k => by rw [vault_Add.l1]) ?_
            refine Ev.pos (by omega) (Ev.pos (by omega) (Ev.pos (by omega) (Ev.pos (by omega) ?_)))
            rw [rd61_at a n hn, rd61_at b n hb, plus_f _ _ (fa.kd.v _ (List.getElem_mem hn)) (fb.kd.v _ (List.getElem_mem hb))]
            refine Ev.bind (Ev.now _) (Ev.pos (by rw [List.length_take]; omega) ?_)
            rw [w_nat n (by omega), ← addS_take hl n hn]
            exact ih (n + 1) (by omega)
        have := key a.length 0 (by omega)
        exact this
      · refine Ev.neg e (Ev.have ?_)
        rw [if_neg e]
    · refine Ev.neg h2 (Ev.have ?_)
      rw [if_pos h2]
  · refine Ev.neg h1 (Ev.have ?_)
    rw [if_pos h1]
def bytesL (l : List Int) : Prop := ∀ x ∈ l, 0 ≤ x ∧ x ≤ 255
theorem wf_u8 {x : Int} (h : (Lit.int .u8 x).wf = true) : 0 ≤ x ∧ x ≤ 255 := by
  simp only [Lit.wf, IntKind.min, IntKind.max, IntKind.signed, IntKind.bits, Bool.and_eq_true, decide_eq_true_eq, if_true] at h
  simpa using h
theorem bytes_of {l : List Int} (h : ∀ x ∈ l, (Lit.int .u8 x).wf = true) : bytesL l := fun x hx => wf_u8 (h x hx)
def madeTo (l : List Int) (n : Nat) : List Int := (l.take n).map fun x => x % 251
def madeR (l : List Int) : List Int := if l = [] then [0] else madeTo l 8
theorem madeR_in (l : List Int) : all251 (madeR l) := by
  unfold madeR
  split
  · intro x hx
    rw [List.mem_singleton] at hx
    subst hx
    exact ⟨by omega, by omega⟩
  · intro x hx
    obtain ⟨y, _, rfl⟩ := List.mem_map.1 hx
    exact mod_in _
theorem madeR_len (l : List Int) : 1 ≤ (madeR l).length ∧ (madeR l).length ≤ 8 := by
  unfold madeR
  split
  · simp
  · rename_i h
    have : 0 < l.length := List.length_pos_iff.2 h
    simp [madeTo]
    omega
theorem made_ev (l : List Int) (hb : bytesL l) (hl : l.length ≤ 4611686018427387904) : Ev (fun k => pianolalaw09_Lock_made.f k l) (madeR l) := by
  unfold pianolalaw09_Lock_made.f
  have fin : ∀ n : Nat, n ≤ l.length → (n = l.length ∨ n = 8) → n ≤ 8 → Ev (fun _ => if ((madeTo l n).length : Int) = 0 then some ([0] : List Int) else some (madeTo l n)) (madeR l) := by
    intro n hn h h8
    have e : (madeTo l n).length = n := by simp [madeTo]; omega
    have e2 : madeTo l n = madeTo l 8 := by
      rcases h with h | h
      · unfold madeTo
        rw [List.take_of_length_le (by omega), List.take_of_length_le (by omega)]
      · rw [h]
    unfold madeR
    by_cases z : l = []
    · rw [if_pos z]
      subst z
      have : n = 0 := by simpa using hn
      subst this
      exact Ev.pos (by simp [madeTo]) (Ev.now _)
    · rw [if_neg z]
      have : 0 < l.length := List.length_pos_iff.2 z
      refine Ev.neg (by rw [e]; omega) (Ev.have (by rw [e2]))
  have key : ∀ (d n : Nat), n + d = 8 → n ≤ l.length → Ev (fun k => pianolalaw09_Lock_made.l0 k l (madeTo l n) (n : Int)) (madeR l) := by
    intro d
    induction d with
    | zero =>
      intro n hd hn
      refine Ev.step (fun k => by rw [pianolalaw09_Lock_made.l0]) ?_
      by_cases c : n < l.length
      · exact Ev.pos (by omega) (Ev.neg (by omega) (fin n hn (.inr (by omega)) (by omega)))
      · exact Ev.neg (by omega) (fin n hn (.inr (by omega)) (by omega))
    | succ d ih =>
      intro n hd hn
      refine Ev.step (fun k => by rw [pianolalaw09_Lock_made.l0]) ?_
      by_cases c : n < l.length
      · refine Ev.pos (by omega) (Ev.pos (by omega) (Ev.pos (by omega) (Ev.pos (by simp [madeTo]; omega) ?_)))
        obtain ⟨x0, x1⟩ := hb l[n] (List.getElem_mem c)
        rw [rd_at l n c, show wrap64 l[n] = l[n] by unfold wrap64; omega, Int.tmod_eq_emod_of_nonneg x0, w_nat n (by omega)]
        have := ih (n + 1) (by omega) (by omega)
        unfold madeTo at this
        rw [take_at l n c, List.map_append] at this
        exact this
      · exact Ev.neg (by omega) (fin n hn (.inl (by omega)) (by omega))
  have := key 8 0 (by omega) (by omega)
  exact this
def pw (x : K251) : Nat → K251
  | 0 => 1
  | n + 1 => pw x n * x
theorem at_ev (l : List Int) (x : Int) (hx : F251 x) (hl : all251 l) (hn : l.length ≤ 1000000) : Ev (fun k => pianolalaw09_at.f k l x) (ev l x) := by
  unfold pianolalaw09_at.f
  obtain ⟨x0, x1⟩ := hx
  have key : ∀ (d n : Nat) (s : Int), n + d = l.length → F251 s → fk (ev l x) = fk s + pw (fk x) n * eF ((l.drop n).map fk) (fk x) → Ev (fun k => pianolalaw09_at.l0 k x s l (l.length : Int) (n : Int)) (ev l x) := by
    intro d
    induction d with
    | zero =>
      intro n s hd hs he
      refine Ev.step (fun k => by rw [pianolalaw09_at.l0]) ?_
      refine Ev.neg (by omega) (Ev.have ?_)
      rw [List.drop_of_length_le (by omega)] at he
      simp only [List.map_nil, eF] at he
      rw [fk_inj (ev_in l x).1 (ev_in l x).2 hs.1 hs.2 (by rw [he]; grind)]
    | succ d ih =>
      intro n s hd hs he
      have hlt : n < l.length := by omega
      have hc := hl _ (List.getElem_mem hlt)
      refine Ev.step (fun k => by rw [pianolalaw09_at.l0]) ?_
      refine Ev.pos (by omega) (Ev.pos (by omega) (Ev.pos (by omega) ?_))
      rw [rd_at l n hlt]
      have inner : ∀ (e m : Nat) (c : Int), m + e = n → F251 c → fk c = fk l[n] * pw (fk x) m → Ev (fun k => pianolalaw09_at.l1 k x s (n : Int) c (m : Int) l (l.length : Int) (n : Int)) (ev l x) := by
        intro e
        induction e with
        | zero =>
          intro m c hm hcb hce
          obtain ⟨c0, c1⟩ := hcb
          obtain ⟨s0, s1⟩ := hs
          refine Ev.step (fun k => by rw [pianolalaw09_at.l1]) ?_
          refine Ev.neg (by omega) ?_
          rw [show wrap64 (s + c) = s + c by unfold wrap64; omega, Int.tmod_eq_emod_of_nonneg (by omega), w_nat n (by omega)]
          refine ih (n + 1) _ (by omega) (mod_in _) ?_
          have : m = n := by omega
          subst this
          rw [he, drop_at l m hlt, fk_mod, fk_add, hce]
          simp only [List.map_cons, eF, pw]
          grind
        | succ e ihe =>
          intro m c hm hcb hce
          obtain ⟨p0, p1⟩ := mul_bd c x hcb ⟨x0, x1⟩
          refine Ev.step (fun k => by rw [pianolalaw09_at.l1]) ?_
          refine Ev.pos (by omega) ?_
          rw [show wrap64 (c * x) = c * x by unfold wrap64; omega, Int.tmod_eq_emod_of_nonneg p0, w_nat m (by omega)]
          refine ihe (m + 1) _ (by omega) (mod_in _) ?_
          rw [fk_mod, fk_mul, hce]
          simp only [pw]
          grind
      refine inner n 0 l[n] (by omega) hc ?_
      simp only [pw]
      grind
  refine key l.length 0 0 (by omega) ⟨by omega, by omega⟩ ?_
  rw [fk_ev, fk_zero, List.drop_zero]
  simp only [pw]
  grind
theorem nodup_len {α : Type} [DecidableEq α] : ∀ {l m : List α}, l.Nodup → (∀ x ∈ l, x ∈ m) → l.length ≤ m.length
  | [], _, _, _ => Nat.zero_le _
  | a :: l, m, h, hm => by
    rw [List.nodup_cons] at h
    have h1 := nodup_len (m := m.erase a) h.2 (fun x hx => (List.mem_erase_of_ne (fun e : x = a => h.1 (by rw [← e]; exact hx))).2 (hm x (List.mem_cons_of_mem _ hx)))
    have ha := hm a (List.mem_cons_self ..)
    have := List.length_pos_of_mem ha
    rw [List.length_erase_of_mem ha] at h1
    rw [List.length_cons]
    omega
def metL (m : List Int) : List Bool := (List.range 21).map fun j : Nat => decide ((j : Int) ∈ m)
theorem metL_rd (m : List Int) (k : Int) (k0 : 0 ≤ k) (k1 : k ≤ 20) : rdOf false (metL m) k = decide (k ∈ m) := by
  unfold rdOf metL
  rw [List.getD_eq_getElem?_getD, List.getElem?_map, List.getElem?_range (by omega)]
  simp [Int.toNat_of_nonneg k0]
theorem metL_set (m : List Int) (k : Int) (k0 : 0 ≤ k) : (metL m).set k.toNat true = metL (m ++ [k]) := by
  unfold metL
  refine List.ext_getElem (by simp) (fun j h1 h2 => ?_)
  rw [List.getElem_set]
  simp only [List.getElem_map, List.getElem_range, List.mem_append, List.mem_singleton]
  by_cases c : k.toNat = j
  · rw [if_pos c]
    have : (j : Int) = k := by omega
    simp [this]
  · rw [if_neg c]
    have : ¬ (j : Int) = k := by omega
    simp [this]
theorem metL_nil : metL [] = List.replicate 21 false := by decide
def onS (c : List Int) (kp : List Int) : List S61 := kp.map fun k => ⟨k, ev c k⟩
structure Kp (kp : List Int) (least : Int) : Prop where
  nd : kp.Nodup
  r : ∀ k ∈ kp, 1 ≤ k ∧ k ≤ 20
  le : least ≤ kp.length
theorem Kp.len {kp : List Int} {least : Int} (h : Kp kp least) : kp.length ≤ 20 := by
  have := nodup_len (m := (List.range 20).map fun j : Nat => ((j + 1 : Nat) : Int)) h.nd (fun x hx => by
    have := h.r x hx
    exact List.mem_map.2 ⟨(x - 1).toNat, List.mem_range.2 (by omega), by omega⟩)
  simpa using this
theorem some_ex (by_ : List Int) (hb : bytesL by_) (hbl : by_.length ≤ 140737488351232) (least : Int) (hl : least ≤ 20) :
    ∃ kp, Kp kp least ∧ ∀ c : List Int, all251 c → c.length ≤ 8 → Ev (fun k => pianolalaw09_some.f k c by_ least) (onS c kp) := by
  have put : ∀ (c m : List Int) (k : Int), onS c (m ++ [k]) = onS c m ++ [⟨k, ev c k⟩] := fun c m k => by simp [onS]
  have two : ∀ (d i : Nat) (m : List Int), by_.length ≤ i → i ≤ by_.length + 20 → m.Nodup → (∀ k ∈ m, 1 ≤ k ∧ k ≤ 20) → (∀ k : Int, 1 ≤ k → k ≤ 20 → k ∈ m ∨ ∃ j : Nat, i ≤ j ∧ j < i + d ∧ k = 1 + (j : Int) % 20) → i + d ≤ by_.length + 20 →
      ∃ kp, Kp kp least ∧ ∀ c : List Int, all251 c → c.length ≤ 8 → Ev (fun k => pianolalaw09_some.l0 k c by_ least (metL m) (onS c m) (i : Int)) (onS c kp) := by
    intro d
    induction d with
    | zero =>
      intro i m hi hi2 hn hr hcov hd
      have h20 : 20 ≤ m.length := by
        have := nodup_len (l := (List.range 20).map fun j : Nat => ((j + 1 : Nat) : Int)) (m := m) (nodup_map List.nodup_range (fun a _ b _ e => by omega)) (fun x hx => by
          obtain ⟨j, hj, rfl⟩ := List.mem_map.1 hx
          have hj := List.mem_range.1 hj
          rcases hcov ((j + 1 : Nat) : Int) (by omega) (by omega) with h | ⟨q, _, _, _⟩
          · exact h
          · omega)
        simpa using this
      refine ⟨m, ⟨hn, hr, by omega⟩, fun c _ _ => ?_⟩
      refine Ev.step (fun k => by rw [pianolalaw09_some.l0]) ?_
      refine Ev.neg (by omega) ?_
      refine Ev.step (fun k => by rw [pianolalaw09_some.j1]) ?_
      exact Ev.neg (by simp [onS]; omega) (Ev.now _)
    | succ d ih =>
      intro i m hi hi2 hn hr hcov hd
      by_cases c0 : (m.length : Int) < least
      · have e1 : wrap64 (1 + (Int.tmod (i : Int) 20)) = 1 + (i : Int) % 20 := by
          rw [Int.tmod_eq_emod_of_nonneg (by omega)]; unfold wrap64; omega
        by_cases cm : (1 + (i : Int) % 20) ∈ m
        · obtain ⟨kp, hk, hev⟩ := ih (i + 1) m (by omega) (by omega) hn hr (fun k k0 k1 => by
            rcases hcov k k0 k1 with h | ⟨j, j0, j1, e⟩
            · exact .inl h
            · by_cases hj : j = i
              · subst hj; exact .inl (e ▸ cm)
              · exact .inr ⟨j, by omega, by omega, e⟩) (by omega)
          refine ⟨kp, hk, fun c hc hcl => ?_⟩
          refine Ev.step (fun k => by rw [pianolalaw09_some.l0]) ?_
          refine Ev.neg (by omega) ?_
          refine Ev.step (fun k => by rw [pianolalaw09_some.j1]) ?_
          refine Ev.pos (by simp [onS]; omega) (Ev.neg (by omega) ?_)
          rw [e1]
          refine Ev.pos (by omega) (Ev.pos (by simp [metL]; omega) ?_)
          rw [metL_rd m _ (by omega) (by omega), w_nat i (by omega)]
          exact Ev.pos (by simpa using cm) (hev c hc hcl)
        · obtain ⟨kp, hk, hev⟩ := ih (i + 1) (m ++ [1 + (i : Int) % 20]) (by omega) (by omega)
            (List.nodup_append.2 ⟨hn, by simp, fun a ha b hb e => by rw [List.mem_singleton] at hb; subst hb; subst e; exact cm ha⟩)
            (fun k hk => by
              rcases List.mem_append.1 hk with h | h
              · exact hr k h
              · rw [List.mem_singleton] at h; omega)
            (fun k k0 k1 => by
              rcases hcov k k0 k1 with h | ⟨j, j0, j1, e⟩
              · exact .inl (List.mem_append_left _ h)
              · by_cases hj : j = i
                · subst hj; exact .inl (List.mem_append_right _ (by rw [e]; exact List.mem_singleton_self _))
                · exact .inr ⟨j, by omega, by omega, e⟩) (by omega)
          refine ⟨kp, hk, fun c hc hcl => ?_⟩
          have h20 : m.length ≤ 20 := (Kp.len (least := 0) ⟨hn, hr, by omega⟩)
          refine Ev.step (fun k => by rw [pianolalaw09_some.l0]) ?_
          refine Ev.neg (by omega) ?_
          refine Ev.step (fun k => by rw [pianolalaw09_some.j1]) ?_
          refine Ev.pos (by simp [onS]; omega) (Ev.neg (by omega) ?_)
          rw [e1]
          refine Ev.pos (by omega) (Ev.pos (by simp [metL]; omega) ?_)
          rw [metL_rd m _ (by omega) (by omega), w_nat i (by omega)]
          refine Ev.neg (by simpa using cm) (Ev.bind (at_ev c _ ⟨by omega, by omega⟩ hc (by omega)) (Ev.pos (by simp [onS]; omega) ?_))
          rw [metL_set m _ (by omega), ← put]
          exact hev c hc hcl
      · refine ⟨m, ⟨hn, hr, by omega⟩, fun c _ _ => ?_⟩
        refine Ev.step (fun k => by rw [pianolalaw09_some.l0]) ?_
        refine Ev.neg (by omega) ?_
        refine Ev.step (fun k => by rw [pianolalaw09_some.j1]) ?_
        exact Ev.neg (by simp [onS]; omega) (Ev.now _)
  have one : ∀ (d i : Nat) (m : List Int), i + d = by_.length → m.Nodup → (∀ k ∈ m, 1 ≤ k ∧ k ≤ 20) →
      ∃ kp, Kp kp least ∧ ∀ c : List Int, all251 c → c.length ≤ 8 → Ev (fun k => pianolalaw09_some.l0 k c by_ least (metL m) (onS c m) (i : Int)) (onS c kp) := by
    intro d
    induction d with
    | zero =>
      intro i m hi hn hr
      exact two 20 i m (by omega) (by omega) hn hr (fun k k0 k1 => .inr ⟨i + ((k - 1 - (i : Int)) % 20).toNat, by omega, by omega, by omega⟩) (by omega)
    | succ d ih =>
      intro i m hi hn hr
      have hlt : i < by_.length := by omega
      obtain ⟨b0, b1⟩ := hb by_[i] (List.getElem_mem hlt)
      have e1 : wrap64 (1 + (Int.tmod (wrap64 by_[i]) 20)) = 1 + by_[i] % 20 := by
        rw [show wrap64 by_[i] = by_[i] by unfold wrap64; omega, Int.tmod_eq_emod_of_nonneg (by omega)]; unfold wrap64; omega
      by_cases cm : (1 + by_[i] % 20) ∈ m
      · obtain ⟨kp, hk, hev⟩ := ih (i + 1) m (by omega) hn hr
        refine ⟨kp, hk, fun c hc hcl => ?_⟩
        refine Ev.step (fun k => by rw [pianolalaw09_some.l0]) ?_
        refine Ev.pos (by omega) ?_
        refine Ev.step (fun k => by rw [pianolalaw09_some.j1]) ?_
        refine Ev.pos rfl (Ev.pos (by omega) (Ev.pos (by omega) ?_))
        rw [rd_at by_ i hlt, e1]
        refine Ev.pos (by omega) (Ev.pos (by simp [metL]; omega) ?_)
        rw [metL_rd m _ (by omega) (by omega), w_nat i (by omega)]
        exact Ev.pos (by simpa using cm) (hev c hc hcl)
      · obtain ⟨kp, hk, hev⟩ := ih (i + 1) (m ++ [1 + by_[i] % 20]) (by omega)
          (List.nodup_append.2 ⟨hn, by simp, fun a ha b hb e => by rw [List.mem_singleton] at hb; subst hb; subst e; exact cm ha⟩)
          (fun k hk => by
            rcases List.mem_append.1 hk with h | h
            · exact hr k h
            · rw [List.mem_singleton] at h; omega)
        refine ⟨kp, hk, fun c hc hcl => ?_⟩
        have h20 : m.length ≤ 20 := (Kp.len (least := 0) ⟨hn, hr, by omega⟩)
        refine Ev.step (fun k => by rw [pianolalaw09_some.l0]) ?_
        refine Ev.pos (by omega) ?_
        refine Ev.step (fun k => by rw [pianolalaw09_some.j1]) ?_
        refine Ev.pos rfl (Ev.pos (by omega) (Ev.pos (by omega) ?_))
        rw [rd_at by_ i hlt, e1]
        refine Ev.pos (by omega) (Ev.pos (by simp [metL]; omega) ?_)
        rw [metL_rd m _ (by omega) (by omega), w_nat i (by omega)]
        refine Ev.neg (by simpa using cm) (Ev.bind (at_ev c _ ⟨by omega, by omega⟩ hc (by omega)) (Ev.pos (by simp [onS]; omega) ?_))
        rw [metL_set m _ (by omega), ← put]
        exact hev c hc hcl
  obtain ⟨kp, hk, hev⟩ := one by_.length 0 [] (by omega) List.nodup_nil (fun k h => by cases h)
  refine ⟨kp, hk, fun c hc hcl => ?_⟩
  unfold pianolalaw09_some.f
  refine Ev.pos (by omega) ?_
  rw [← metL_nil]
  exact hev c hc hcl
theorem onS_len (c kp : List Int) : (onS c kp).length = kp.length := by simp [onS]
theorem onS_kd {kp : List Int} {least : Int} (h : Kp kp least) (c : List Int) : KD (onS c kp) := by
  refine ⟨?_, fun s hs => ?_, fun s hs => ?_⟩
  · have : (onS c kp).map S61.f0 = kp := by simp [onS, Function.comp_def]
    rw [this]; exact h.nd
  · obtain ⟨k, hk, rfl⟩ := List.mem_map.1 hs
    have := h.r k hk
    exact ⟨by show 0 ≤ k; omega, by show k ≤ 250; omega⟩
  · obtain ⟨k, hk, rfl⟩ := List.mem_map.1 hs
    exact ev_in _ _
theorem onS_good {kp : List Int} {least : Int} (h : Kp kp least) (c : List Int) : ∀ s ∈ onS c kp, Good s := by
  intro s hs
  obtain ⟨k, hk, rfl⟩ := List.mem_map.1 hs
  have := h.r k hk
  have := ev_in c k
  exact ⟨by show 1 ≤ k; omega, by show k ≤ 20; omega, this.1, this.2⟩
theorem onS_at (c kp : List Int) : ∀ s ∈ onS c kp, eF (c.map fk) (fk s.f0) = fk s.f1 := by
  intro s hs
  obtain ⟨k, hk, rfl⟩ := List.mem_map.1 hs
  exact (fk_ev c k).symm
theorem fine_check {need : Int} {l : List S61} (h : Fine need l) : checkE need l = 0 := checkE_zero h.n0 h.n1 h.len h.good h.kd.nd
theorem onS_fine {kp : List Int} {least : Int} (h : Kp kp least) (c : List Int) {need : Int} (n0 : 1 ≤ need) (n1 : need ≤ 8) : Fine need (onS c kp) :=
  ⟨n0, n1, by rw [onS_len]; exact h.len, onS_good h c, onS_kd h c⟩
end Go.Proofs.Ytpfkfbbekfkcgaa.P
end
section
namespace Go.Proofs.Ytpfkfbbekfkcgaa.P
open Go.RowKit Go.Proofs.YtpfkfbbekfkcgaaW.PrintWords Go.Proofs.YtpfkfbbekfkcgaaW.PrintLast Go.Proofs.YtpfkfbbekfkcgaaW.PrintMore
set_option linter.unusedVariables false
set_option linter.unusedSimpArgs false
theorem asc_ext {x y : List Int} (hx : x.Pairwise (· < ·)) (hy : y.Pairwise (· < ·)) (h : ∀ i, i ∈ x ↔ i ∈ y) : x = y := by
  induction x generalizing y with
  | nil =>
    cases y with
    | nil => rfl
    | cons b y => exact absurd ((h b).2 (List.mem_cons_self ..)) (by simp)
  | cons a x ih =>
    cases y with
    | nil => exact absurd ((h a).1 (List.mem_cons_self ..)) (by simp)
    | cons b y =>
      rw [List.pairwise_cons] at hx hy
      have e : a = b := by
        rcases List.mem_cons.1 ((h a).1 (List.mem_cons_self ..)) with e | ha
        · exact e
        · rcases List.mem_cons.1 ((h b).2 (List.mem_cons_self ..)) with e | hb
          · exact e.symm
          · have := hy.1 a ha
            have := hx.1 b hb
            omega
      subst e
      congr 1
      refine ih hx.2 hy.2 (fun i => ?_)
      constructor
      · intro hi
        rcases List.mem_cons.1 ((h i).1 (List.mem_cons_of_mem _ hi)) with e | hi'
        · have := hx.1 i hi; omega
        · exact hi'
      · intro hi
        rcases List.mem_cons.1 ((h i).2 (List.mem_cons_of_mem _ hi)) with e | hi'
        · have := hy.1 i hi; omega
        · exact hi'
end Go.Proofs.Ytpfkfbbekfkcgaa.P
end
section
namespace Go.Proofs.Ytpfkfbbekfkcgaa.Pure
open Go.RowKit Go.Proofs.Ytpfkfbbekfkcgaa.P Go.Proofs.YtpfkfbbekfkcgaaW.PrintWords Go.Proofs.YtpfkfbbekfkcgaaW.PrintLast
theorem count_few {need : Int} {l : List S61} (h : (l.length : Int) < need) (x : Int) : countR need l x = powN (need.toNat - 1 - l.length) := by
  unfold countR
  rw [if_pos h]
theorem poss_all {need : Int} {l : List S61} (h : (l.length : Int) < need) : possTo need l 251 = (List.range 251).map fun s : Nat => (s : Int) := by
  unfold possTo
  rw [List.filter_eq_self.2 (fun x _ => by
    rw [count_few h]
    have := powN_bd (need.toNat - 1 - l.length)
    simp; omega)]
theorem poss_one {need : Int} {l : List S61} {v : Int} (hv : F251 v) (h : ∀ x : Int, countR need l x = if v = x then 1 else 0) : possTo need l 251 = [v] := by
  refine asc_ext ?_ (List.pairwise_singleton _ _) (fun i => ?_)
  · unfold possTo
    rw [List.pairwise_map]
    have : ((List.range 251).filter fun s : Nat => decide (countR need l (s : Int) > 0)).Pairwise (· < ·) := List.Pairwise.filter _ List.pairwise_lt_range
    exact this.imp (fun h => by omega)
  · unfold possTo
    rw [List.mem_map, List.mem_singleton]
    constructor
    · rintro ⟨j, hj, rfl⟩
      rw [List.mem_filter, h] at hj
      by_cases c : v = (j : Int)
      · exact c.symm
      · simp [c] at hj
    · rintro rfl
      refine ⟨i.toNat, ?_, by have := hv.1; omega⟩
      rw [List.mem_filter, List.mem_range, h]
      have h0 := hv.1
      have h1 := hv.2
      exact ⟨by omega, by rw [if_pos (by omega)]; simp⟩
theorem VaultHidden (l0 l1 : List Int) (a0 a1 : Int) (_ : l0.length ≤ maxLen) (y0 : l0.length * 1 ≤ 140737488351232) (w0 : ∀ x ∈ l0, (Lit.int .u8 x).wf = true) (_ : l1.length ≤ maxLen) (y1 : l1.length * 1 ≤ 140737488351232) (w1 : ∀ x ∈ l1, (Lit.int .u8 x).wf = true)
    (wa : (Lit.int .u8 a0).wf = true) (wb : (Lit.int .u8 a1).wf = true) : ∃ k, pianolalaw09_VaultHidden.f k l0 l1 a0 a1 = some true := by
  obtain ⟨a00, a01⟩ := wf_u8 wa
  obtain ⟨a10, a11⟩ := wf_u8 wb
  refine Ev.rounds ?_
  unfold pianolalaw09_VaultHidden.f
  refine Ev.bind (made_ev l0 (bytes_of w0) (by omega)) ?_
  obtain ⟨c1, c8⟩ := madeR_len l0
  have hc := madeR_in l0
  generalize madeR l0 = c at c1 c8 hc ⊢
  obtain ⟨kp, hk, hev⟩ := some_ex l1 (bytes_of w1) (by omega) (c.length : Int) (by omega)
  have hle := hk.le
  have hlen := onS_len c kp
  refine Ev.bind (hev c hc c8) (Ev.pos (by omega) (Ev.pos (by omega) (Ev.bind (Ev.now _) ?_)))
  rw [Int.toNat_natCast]
  have hs := List.take_sublist c.length (onS c kp)
  have hsl : ((onS c kp).take c.length).length = c.length := by rw [List.length_take]; omega
  have hf0 := onS_fine hk c (need := (c.length : Int)) (by omega) (by omega)
  have hf : Fine (c.length : Int) ((onS c kp).take c.length) := ⟨hf0.n0, hf0.n1, by omega, fun a ha => hf0.good a (hs.subset ha), hf0.kd.sub hs⟩
  have hon : ∀ a ∈ (onS c kp).take c.length, eF (c.map fk) (fk a.f0) = fk a.f1 := fun a ha => onS_at c kp a (hs.subset ha)
  generalize (onS c kp).take c.length = s at hsl hf hon ⊢
  have ew : wrap64 ((c.length : Int) - 1) = ((c.length - 1 : Nat) : Int) := by unfold wrap64; omega
  rw [ew]
  refine Ev.pos (by omega) (Ev.pos (by omega) (Ev.bind (Ev.now _) ?_))
  rw [Int.toNat_natCast]
  have hfs := List.take_sublist (c.length - 1) s
  have hfl : (s.take (c.length - 1)).length = c.length - 1 := by rw [List.length_take]; omega
  have hff : Fine (c.length : Int) (s.take (c.length - 1)) := ⟨hf.n0, hf.n1, by omega, fun a ha => hf.good a (hfs.subset ha), hf.kd.sub hfs⟩
  generalize s.take (c.length - 1) = few at hfl hff ⊢
  have e1 : possR (c.length : Int) few = ((List.range 251).map fun s : Nat => (s : Int), 0) := by
    unfold possR
    rw [if_pos (fine_check hff), poss_all (by omega)]
  have hi := itp_len (n := c.length) (l := s) (by omega)
  have hit : itp c.length s = c := all_fk (itp_in _ _) hc (itp_only hf.kd (by omega) (by simp) (fun a ha => hon a (List.mem_of_mem_take ha)))
  have hag : agreeB (c.length : Int) s = true := (agreeB_fit hf.kd).2 ⟨c.map fk, by simp, hon⟩
  have hr0 : F251 (rd c 0) := by
    have := rd_at c 0 (by omega)
    rw [show ((0 : Nat) : Int) = 0 from rfl] at this
    rw [this]
    exact hc _ (List.getElem_mem _)
  have e2 : possR (c.length : Int) s = ([rd c 0], 0) := by
    unfold possR
    rw [if_pos (fine_check hf), poss_one hr0 (fun x => by
      unfold countR
      rw [if_neg (by omega), if_pos hag, Int.toNat_natCast, hit])]
  have hcount : ∀ x : Int, F251 x → countE (c.length : Int) few x = (1, 0) := fun x hx => by
    unfold countE
    rw [if_pos (fine_check hff), if_pos (P.btw_iff.2 ⟨hx.1, hx.2⟩), count_few (by omega), show (c.length : Int).toNat - 1 - few.length = 0 by omega]
    rfl
  have m0 : Int.tmod (wrap64 a0) 251 = a0 % 251 := by rw [show wrap64 a0 = a0 by unfold wrap64; omega, Int.tmod_eq_emod_of_nonneg a00]
  have m1 : Int.tmod (wrap64 a1) 251 = a1 % 251 := by rw [show wrap64 a1 = a1 by unfold wrap64; omega, Int.tmod_eq_emod_of_nonneg a10]
  rw [m0, m1]
  have p1 := Possible_ev (c.length : Int) few
  have p2 := Possible_ev (c.length : Int) s
  have p3 := Count_ev (c.length : Int) few (a0 % 251)
  have p4 := Count_ev (c.length : Int) few (a1 % 251)
  rw [e1] at p1
  rw [e2] at p2
  rw [hcount _ (mod_in _)] at p3 p4
  refine Ev.bind p1 (Ev.bind p2 (Ev.bind p3 (Ev.bind p4 ?_)))
  refine Ev.pos rfl (Ev.pos rfl (Ev.pos rfl (Ev.pos rfl (Ev.pos (by simp) (Ev.pos (by omega) (Ev.bind (numbers_ev _ _ (by simp)) (Ev.pos (by simp) (Ev.pos rfl ?_))))))))
  refine Ev.step (fun k => by rw [pianolalaw09_VaultHidden.j0]) ?_
  refine Ev.neg (by simp) ?_
  have key : ∀ (d n : Nat), n + d = 251 → Ev (fun k => pianolalaw09_VaultHidden.l0 k c few ((List.range 251).map fun s : Nat => (s : Int)) (((List.range 251).map fun s : Nat => (s : Int)).length : Int) (n : Int) a0 a1) true := by
    intro d
    induction d with
    | zero =>
      intro n hd
      refine Ev.step (fun k => by rw [pianolalaw09_VaultHidden.l0]) ?_
      refine Ev.neg (by simp; omega) ?_
      by_cases z : few.length = 0
      · exact Ev.pos (by omega) (Ev.have rfl)
      · refine Ev.neg (by omega) ?_
        rw [show wrap64 ((few.length : Int) - 1) = ((few.length - 1 : Nat) : Int) by unfold wrap64; omega]
        refine Ev.pos (by omega) (Ev.pos (by omega) ?_)
        rw [Int.toNat_natCast, m0]
        have ht := List.take_sublist (few.length - 1) few
        have htl : (few.take (few.length - 1)).length = few.length - 1 := by rw [List.length_take]; omega
        have hft : Fine (c.length : Int) (few.take (few.length - 1)) := ⟨hff.n0, hff.n1, by omega, fun a ha => hff.good a (ht.subset ha), hff.kd.sub ht⟩
        have p5 := Count_ev (c.length : Int) (few.take (few.length - 1)) (a0 % 251)
        have e5 : countE (c.length : Int) (few.take (few.length - 1)) (a0 % 251) = (251, 0) := by
          unfold countE
          have hx := mod_in a0
          rw [if_pos (fine_check hft), if_pos (P.btw_iff.2 ⟨hx.1, hx.2⟩), count_few (by omega), show (c.length : Int).toNat - 1 - (few.take (few.length - 1)).length = 1 by omega]
          rfl
        rw [e5] at p5
        exact Ev.bind p5 (Ev.pos rfl (Ev.pos rfl (Ev.have rfl)))
    | succ d ih =>
      intro n hd
      refine Ev.step (fun k => by rw [pianolalaw09_VaultHidden.l0]) ?_
      refine Ev.pos (by simp; omega) (Ev.pos (by omega) (Ev.pos (by simp; omega) (Ev.pos ?_ ?_)))
      · rw [rd_at _ n (by simp; omega)]
        simp
      · rw [w_nat n (by omega)]
        exact ih (n + 1) (by omega)
  exact key 251 0 (by omega)
end Go.Proofs.Ytpfkfbbekfkcgaa.Pure
end
