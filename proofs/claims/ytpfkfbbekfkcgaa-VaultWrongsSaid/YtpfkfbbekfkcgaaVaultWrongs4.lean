/- Words and contracts for a claim. -/
import Derived.Test.YtpfkfbbekfkcgaaVaultWrongs3
import Derived.StillTailTactics
section
namespace Go.Proofs.Ytpfkfbbekfkcgaa.P
open Go.RowKit Go.Proofs.YtpfkfbbekfkcgaaW.PrintWords Go.Proofs.YtpfkfbbekfkcgaaW.PrintLast Go.Proofs.YtpfkfbbekfkcgaaW.PrintMore
attribute [local go_sem] max2_int min2_int max_two min_two max_three min_three max_four min_four
set_option linter.unusedVariables false
set_option linter.unusedSimpArgs false
attribute [local go_sem high] eqA61
theorem vault_read.mono_l : ∀ k, (∀ y0 y1 y2 y3, LeO (vault_read.l0 k y0 y1 y2 y3) (vault_read.l0 (k + 1) y0 y1 y2 y3))
  | 0 => fun _ _ _ _ r h => by simp [vault_read.l0] at h
  | k + 1 => by
    have ih0 := vault_read.mono_l k
    · intro y0 y1 y2 y3
      unfold vault_read.l0
      repeat' first
      | (with_reducible exact ih0 _ _ _ _)
      | (with_reducible exact LeO.refl _)
      | (with_reducible exact LeO.none _)
      | (with_reducible refine LeO.ite ?_ ?_)
      | (with_reducible refine LeO.bind ?_ (fun _ => ?_))
      | exact ih0 _ _ _ _
      | exact LeO.none _
      | refine LeO.ite ?_ ?_
      | refine LeO.bind ?_ (fun _ => ?_)
theorem pianolaref09_inverse.mono_l : ∀ k, (∀ y0 y1, LeO (pianolaref09_inverse.l0 k y0 y1) (pianolaref09_inverse.l0 (k + 1) y0 y1))
  | 0 => fun _ _ r h => by simp [pianolaref09_inverse.l0] at h
  | k + 1 => by
    have ih0 := pianolaref09_inverse.mono_l k
    · intro y0 y1
      unfold pianolaref09_inverse.l0
      repeat' first
      | (with_reducible exact ih0 _ _)
      | (with_reducible exact LeO.refl _)
      | (with_reducible exact LeO.none _)
      | (with_reducible refine LeO.ite ?_ ?_)
      | (with_reducible refine LeO.bind ?_ (fun _ => ?_))
      | exact ih0 _ _
      | exact LeO.none _
      | refine LeO.ite ?_ ?_
      | refine LeO.bind ?_ (fun _ => ?_)
theorem pianolaref09_inverse.mono : ∀ a0 k, LeO (pianolaref09_inverse.f k a0) (pianolaref09_inverse.f (k + 1) a0) := by
  intro a0 k
  have ih0 := pianolaref09_inverse.mono_l k
  unfold pianolaref09_inverse.f
  repeat' first
      | (with_reducible exact ih0 _ _)
      | (with_reducible exact LeO.refl _)
      | (with_reducible exact LeO.none _)
      | (with_reducible refine LeO.ite ?_ ?_)
      | (with_reducible refine LeO.bind ?_ (fun _ => ?_))
      | exact ih0 _ _
      | exact LeO.none _
      | refine LeO.ite ?_ ?_
      | refine LeO.bind ?_ (fun _ => ?_)
end Go.Proofs.Ytpfkfbbekfkcgaa.P
end
section
namespace Go.Proofs.Ytpfkfbbekfkcgaa.P
open Go.RowKit Go.Proofs.YtpfkfbbekfkcgaaW.PrintWords Go.Proofs.YtpfkfbbekfkcgaaW.PrintLast Go.Proofs.YtpfkfbbekfkcgaaW.PrintMore
attribute [local go_sem] max2_int min2_int max_two min_two max_three min_three max_four min_four
set_option linter.unusedVariables false
set_option linter.unusedSimpArgs false
def pianolaref09_agree.f (k : Nat) (a0 : Int) (l1 : List (S91)) : Option (Bool) := if (l1.length : Int) ≤ a0 then (some true) else (if 0 ≤ a0 then (if a0 ≤ (l1.length : Int) then ((pianolaref09_through.f k (l1.take (a0 : Int).toNat)).bind fun t215 => ((pianolaref09_lie.f k t215 l1).bind fun t218 => (some t218))) else (none)) else (none))
set_option maxHeartbeats 8000000 in
set_option maxRecDepth 100000 in
theorem pianolaref09_agree.calls (k : Nat) (a0 : Int) (A1 : Option Addr) (c1 : Nat) (l1 : List (S91)) (r : Bool) (w : World) (hr1 : Kd.C k91 w A1 l1.length l1) (hc1 : l1.length ≤ c1) (h : pianolaref09_agree.f k a0 l1 = some r) :
    Calls Try.prog 59 #[.int .i64 a0, .slice A1 l1.length c1] w fun e w' => e = .returned (.bool r) ∧ Below w.heap.size w w' := by
  have HR1 := Aside0.mk hr1
  have HC1 := Aside0.mk hc1
  clear hr1 hc1
  have HB := Aside0.mk (Below.refl w.heap.size w)
  have H : (if (l1.length : Int) ≤ a0 then (some true) else (if 0 ≤ a0 then (if a0 ≤ (l1.length : Int) then ((pianolaref09_through.f k (l1.take (a0 : Int).toNat)).bind fun t215 => ((pianolaref09_lie.f k t215 l1).bind fun t218 => (some t218))) else (none)) else (none))) = some r := h
  clear h
  by_cases c3 : (l1.length : Int) ≤ a0
  · rw [if_pos c3] at H
    have c3b0 : decide ((l1.length : Int) ≤ a0) = true := decide_eq_true c3
    clear c3
    obtain rfl := Option.some.inj H
    go_enter Try.func59, Try.ntmps59
    go_wp2
    go_ret
    exact ⟨by first | rfl | (simp [errW_none, errW_some] <;> rfl) | (simp [*, errW_none, errW_some] <;> rfl), by repeat (first | (with_reducible first | exact HB.out | apply below_alloc | apply pw_below_drewN | apply below_drew1) | exact HB.out)⟩
  · rw [if_neg c3] at H
    have c3b0 : decide ((l1.length : Int) ≤ a0) = false := decide_eq_false c3
    clear c3
    by_cases c4 : 0 ≤ a0
    · rw [if_pos c4] at H
      have c4b0 := eq_true c4
      have c4b1 : decide (0 ≤ a0) = true := decide_eq_true c4
      clear c4
      by_cases c5 : a0 ≤ (l1.length : Int)
      · rw [if_pos c5] at H
        have c5b0 := eq_true c5
        have c5b1 : decide (a0 ≤ (l1.length : Int)) = true := decide_eq_true c5
        clear c5
        obtain ⟨y211, hy211⟩ : ∃ y_ : List (S91), y_ = (l1.take (a0 : Int).toNat) := ⟨_, rfl⟩
        replace H : ((pianolaref09_through.f k y211).bind fun t215 => ((pianolaref09_lie.f k t215 l1).bind fun t218 => (some t218))) = some r := by first | (rw [hy211]; with_reducible exact H) | (have H2_ := (Option.bind_some _ _).symm.trans H; rw [hy211]; with_reducible exact H2_) | (have H2_ := (Option.bind_some _ _).symm.trans H; with_reducible exact H2_) | with_reducible exact H | (rw [hy211]; exact H) | exact H
        have Ny211 := Aside0.mk hy211
        clear hy211
        replace H := Option.bind_eq_some_iff.mp H
        obtain ⟨t215, A60, H⟩ := H
        replace H : ((pianolaref09_lie.f k t215 l1).bind fun t218 => (some t218)) = some r := H
        have A6 := Aside0.mk A60
        clear A60
        replace H := Option.bind_eq_some_iff.mp H
        obtain ⟨t218, A70, H⟩ := H
        replace H : (some t218) = some r := H
        have A7 := Aside0.mk A70
        clear A70
        obtain rfl := Option.some.inj H
        have q8 : (a0 : Int) ≤ ((l1.length : Int) : Int) := of_decide_eq_true (by first | (with_reducible assumption) | assumption)
        obtain ⟨i08, hi08, _, hsz8, _⟩ := info_parts info91
        have hroom8 : l1.length ≤ c1 := HC1.out
        have hC8 : Kd.C k91 _ A1 l1.length l1 := HR1.out
        have hcut8 := cut_to (P := Try.prog) 31 91 .i64 Try.underlying31 hi08 A1 l1.length c1 a0 (of_decide_eq_true (by first | (with_reducible assumption) | assumption)) q8 hroom8
        have hr8 := Kd.C_take (m := (a0 : Int).toNat) hC8 (by omega)
        have hy8 : y211.length = (a0 : Int).toNat := (by rw [Ny211.out, List.length_take]; omega)
        rw [← Ny211.out] at hr8
        rw [← hy8] at hcut8
        have HR214 := Aside0.mk hr8
        have HC214 := Aside0.mk (show y211.length ≤ c1 from by omega)
        clear hr8 hC8 hroom8 hi08 hsz8
        have KY8 := Aside0.mk hy8
        clear hy8
        replace q8 := eq_true q8
        go_enter Try.func59, Try.ntmps59
        go_wp2_with (first | (go_at_call 64; (with_reducible refine (pianolaref09_through.calls k _ _ y211 t215 _ ?side1 ?side2 A6.out).mono ?_); (case side1 => repeat (first | exact HR214.out | (with_reducible refine Kd.C_alloc ?_ _) | (with_reducible refine Kd.C_drewN ?_ _) | (with_reducible refine Kd.C_drew ?_))); (case side2 => exact HC214.out); rintro e w9 ⟨v216, rfl, ho0, hb⟩; have n0_ := Aside0.mk (Kd.R_lower ho0 (below_size (by repeat (first | (with_reducible first | exact HB.out | apply below_alloc | apply pw_below_drewN | apply below_drew1) | exact HB.out)))); have n1_ := Aside0.mk (below_step (by repeat (first | (with_reducible first | exact HB.out | apply below_alloc | apply pw_below_drewN | apply below_drew1) | exact HB.out)) hb); clear HB; have HO217 := n0_; have HB := n1_; clear n0_ n1_; (try clear hb); (try clear hb2); (try clear hk); (try clear hi); (try clear ho0); obtain ⟨Ao10, co10, eo10⟩ := Kd.R_slice HO217.out; subst eo10) | (go_at_call 80; (with_reducible refine (pianolaref09_lie.calls k _ _ t215 _ _ l1 t218 _ ?side1 ?side2 ?side3 ?side4 A7.out).mono ?_); (case side1 => repeat (first | exact (Kd.R_reads' HO217.out).2.2 | (with_reducible refine Kd.C_alloc ?_ _) | (with_reducible refine Kd.C_drewN ?_ _) | (with_reducible refine Kd.C_drew ?_))); (case side2 => exact (Kd.R_reads' HO217.out).2.1); (case side3 => repeat (first | exact (Kd.C_below HR1.out HB.out) | (with_reducible refine Kd.C_alloc ?_ _) | (with_reducible refine Kd.C_drewN ?_ _) | (with_reducible refine Kd.C_drew ?_))); (case side4 => exact HC1.out); rintro e w' ⟨rfl, ⟨nd, rfl⟩⟩))
        go_ret
        exact ⟨by first | rfl | (simp [errW_none, errW_some] <;> rfl) | (simp [*, errW_none, errW_some] <;> rfl), by repeat (first | (with_reducible first | exact HB.out | apply below_alloc | apply pw_below_drewN | apply below_drew1) | exact HB.out)⟩
      · rw [if_neg c5] at H
        exact absurd H (by simp)
    · rw [if_neg c4] at H
      exact absurd H (by simp)
def pianolalaw09_given.l0 : Nat → List (S61) → List (S91) → Int → Option ((List (S91)))
  | 0, _, _, _ => none
  | k + 1, x0, x3, x4 => if x4 < (x0.length : Int) then (if 0 ≤ x4 then (if x3.length < 8796093022208 then (pianolalaw09_given.l0 k x0 (x3 ++ [(⟨(rd_T61 x0 x4).f0, (rd_T61 x0 x4).f1⟩ : S91)]) (wrap64 (x4 + 1))) else (none)) else (none)) else (some x3)
def pianolalaw09_given.f (k : Nat) (l0 : List (S61)) : Option ((List (S91))) := pianolalaw09_given.l0 k l0 ([] : List (S91)) 0
set_option maxHeartbeats 8000000 in
set_option maxRecDepth 100000 in
theorem pianolalaw09_given.calls (k : Nat) (A0 : Option Addr) (c0 : Nat) (l0 : List (S61)) (r : List (S91)) (w : World) (hr0 : Kd.C k61 w A0 l0.length l0) (hc0 : l0.length ≤ c0) (h : pianolalaw09_given.f k l0 = some r) :
    Calls Try.prog 27 #[.slice A0 l0.length c0] w fun e w' => ∃ v0_ : Value, e = .returned (v0_) ∧ Kd.R k91 91 w' w.heap.size (fun _ => True) v0_ r ∧ Below w.heap.size w w' := by
  have hu61 := Try.underlying61
  have HR0 := Aside0.mk hr0
  have HC0 := Aside0.mk hc0
  clear hr0 hc0
  have HB := Aside0.mk (Below.refl w.heap.size w)
  have H : (pianolalaw09_given.l0 k l0 ([] : List (S91)) 0) = some r := h
  clear h
  have H' := Aside0.mk H
  clear H
  go_enter Try.func27, Try.ntmps27
  go_wp2
  go_loopg [3, 4] k (fun kq v3 v4 w' => ∃ (x3_1 : List (S91)) (x4_1 : Int), v4 = .int .i64 x4_1 ∧ Aside0 (pianolalaw09_given.l0 kq l0 x3_1 x4_1 = some r) ∧ Aside0 (kq ≤ k) ∧ Aside0 (Kd.R k91 91 w' w.heap.size (fun _ => True) v3 x3_1) ∧ Aside0 (Below w.heap.size w w'))
  case atStart => exact ⟨(([] : List (S91))), (0), (by first | rfl | (simp; done) | (simp [*]; done)), H', ⟨Nat.le_refl _⟩, ⟨by first | exact Kd.R_nil _ _ _ _ _ | exact Kd.N_nil _ _ _ _ _ | exact Kd.V_nil _ _ _ _ _ | exact Kd.Q_nil _ _ _ _ _ | exact Kd.S_nil _ _ _ _ _⟩, ⟨by repeat (first | (with_reducible first | exact HB.out | apply below_alloc | apply pw_below_drewN | apply below_drew1) | exact HB.out)⟩⟩
  case round =>
    clear H'
    obtain ⟨x3_1, x4_1, rfl, HA, HK1, HO_3, HB⟩ := hrel
    cases gk with
    | zero => exact absurd HA.out (by simp [pianolalaw09_given.l0])
    | succ k1 =>
      have H := HA.out
      clear HA
      simp only [pianolalaw09_given.l0] at H
      by_cases c2 : x4_1 < (l0.length : Int)
      · rw [if_pos c2] at H
        have c2b0 : decide (x4_1 < (l0.length : Int)) = true := decide_eq_true c2
        clear c2
        by_cases c3 : 0 ≤ x4_1
        · rw [if_pos c3] at H
          have c3b0 : decide (0 ≤ x4_1) = true := decide_eq_true c3
          clear c3
          by_cases c4 : x3_1.length < 8796093022208
          · rw [if_pos c4] at H
            have LMc4 := Aside0.mk c4
            clear c4
            obtain ⟨y222, hy222⟩ : ∃ y_ : List (S91), y_ = (x3_1 ++ [(⟨(rd_T61 l0 x4_1).f0, (rd_T61 l0 x4_1).f1⟩ : S91)]) := ⟨_, rfl⟩
            replace H : (pianolalaw09_given.l0 k1 l0 y222 (wrap64 (x4_1 + 1))) = some r := by first | (rw [hy222]; with_reducible exact H) | (have H2_ := (Option.bind_some _ _).symm.trans H; rw [hy222]; with_reducible exact H2_) | (have H2_ := (Option.bind_some _ _).symm.trans H; with_reducible exact H2_) | with_reducible exact H | (rw [hy222]; exact H) | exact H
            have Ny222 := Aside0.mk hy222
            clear hy222
            have H' := Aside0.mk H
            clear H
            have p221 : 0 ≤ (x4_1 : Int) := of_decide_eq_true (by first | (with_reducible assumption) | assumption)
            have q221 : x4_1 < (l0.length : Int) := of_decide_eq_true (by first | (with_reducible assumption) | assumption)
            obtain ⟨ad221, e221, hx221_0, hx221_1⟩ := at_T61 HR0.out x4_1 p221 q221
            cases e221
            replace hx221_0 := (HB.out.cell (World.block_lt_of_cell? w _ hx221_0)).trans hx221_0
            replace hx221_1 := (HB.out.cell (World.block_lt_of_cell? w _ hx221_1)).trans hx221_1
            replace p221 := eq_true p221
            replace q221 := eq_true q221
            go_wp2_with (first | ((with_reducible refine gate_builtin (b := .append) (xs := #[.tmp 11, .tmp 16]) rfl ?_); at_builtin; refine Kd.R_append k91 (w0 := w) w.heap.size rfl (.tmp 11) (.tmp 16) 31 91 (.agg #[(.int .i64 0), (.int .i64 0)]) 16 rfl Try.underlying31 info91 rfl (by decide) (by omega) u3 x3_1 (⟨(rd_T61 l0 x4_1).f0, (rd_T61 l0 x4_1).f1⟩ : S91) [.int .i64 ((rd_T61 l0 x4_1).f0), .int .i64 ((rd_T61 l0 x4_1).f1)] (fun _ => True) (fun _ => False) rfl rfl ?aP (fun _ hk => hk.elim) ?aF ?aO ?aB ?aS ?aL ?_; (case aP => exact k91_mkM _ _ _ (⟨(rd_T61 l0 x4_1).f0, (rd_T61 l0 x4_1).f1⟩ : S91)); (case aB => exact (by repeat (first | (with_reducible first | exact HB.out | apply below_alloc | apply pw_below_drewN | apply below_drew1) | exact HB.out))); (case aF => exact (fun _ _ => trivial)); (case aO => exact (by (with_reducible repeat (first | apply Kd.R_alloc | apply Kd.R_drewN | apply Kd.R_drew)); exact HO_3.out)); (case aS => exact (below_size (by repeat (first | (with_reducible first | exact HB.out | apply below_alloc | apply pw_below_drewN | apply below_drew1) | exact HB.out)))); (case aL => have := LMc4.out; omega); intro v223 w5 ho hb hg hat; rw [← Ny222.out] at ho; have n0_ := Aside0.mk (hb); have n1_ := Aside0.mk (ho); clear HB; clear HO_3; have HB := n0_; have HO224 := n1_; clear n0_ n1_; clear ho hb hg hat))
            go_roundg k1
            case measure => have := HK1.out; omega
            case rel => exact ⟨(y222), (wrap64 (x4_1 + 1)), (by first | rfl | (simp; done) | (simp [*]; done)), H', ⟨by have := HK1.out; omega⟩, ⟨by (with_reducible repeat (first | apply Kd.R_alloc | apply Kd.R_drewN | apply Kd.R_drew)); exact HO224.out⟩, ⟨by repeat (first | (with_reducible first | exact HB.out | apply below_alloc | apply pw_below_drewN | apply below_drew1) | exact HB.out)⟩⟩
          · rw [if_neg c4] at H
            exact absurd H (by simp)
        · rw [if_neg c3] at H
          exact absurd H (by simp)
      · rw [if_neg c2] at H
        have c2b0 : decide (x4_1 < (l0.length : Int)) = false := decide_eq_false c2
        clear c2
        obtain rfl := Option.some.inj H
        go_wp2
        go_ret
        exact ⟨_, by first | rfl | (simp [errW_none, errW_some] <;> rfl) | (simp [*, errW_none, errW_some] <;> rfl), by (with_reducible repeat (first | apply Kd.R_alloc | apply Kd.R_drewN | apply Kd.R_drew)); exact HO_3.out, by repeat (first | (with_reducible first | exact HB.out | apply below_alloc | apply pw_below_drewN | apply below_drew1) | exact HB.out)⟩
end Go.Proofs.Ytpfkfbbekfkcgaa.P
end
section
namespace Go.Proofs.Ytpfkfbbekfkcgaa.P
open Go.RowKit Go.Proofs.YtpfkfbbekfkcgaaW.PrintWords Go.Proofs.YtpfkfbbekfkcgaaW.PrintLast Go.Proofs.YtpfkfbbekfkcgaaW.PrintMore
attribute [local go_sem] max2_int min2_int max_two min_two max_three min_three max_four min_four
set_option linter.unusedVariables false
set_option linter.unusedSimpArgs false
def pianolaref09_count.l0 : Nat → Int → Int → Int → Option (Int)
  | 0, _, _, _ => none
  | k + 1, x0, x8, x9 => if x9 < x0 then (pianolaref09_count.l0 k x0 (mn (wrap64 (x8 * 251)) 4503599627370496) (wrap64 (x9 + 1))) else (some x8)
def pianolaref09_count.f (k : Nat) (a0 : Int) (l1 : List (S91)) (a2 : Int) : Option (Int) := if (l1.length : Int) ≥ a0 then (if 0 ≤ a0 then (if a0 ≤ (l1.length : Int) then ((pianolaref09_through.f k (l1.take (a0 : Int).toNat)).bind fun t289 => ((pianolaref09_lie.f k t289 l1).bind fun t292 => (if t292 = true then (if 0 < (t289.length : Int) then (if (rd t289 0) = a2 then (some 1) else (some 0)) else (none)) else (some 0)))) else (none)) else (none)) else (pianolaref09_count.l0 k a0 1 (wrap64 ((l1.length : Int) + 1)))
set_option maxHeartbeats 8000000 in
set_option maxRecDepth 100000 in
theorem pianolaref09_count.calls (k : Nat) (a0 : Int) (A1 : Option Addr) (c1 : Nat) (l1 : List (S91)) (a2 : Int) (r : Int) (w : World) (hr1 : Kd.C k91 w A1 l1.length l1) (hc1 : l1.length ≤ c1) (h : pianolaref09_count.f k a0 l1 a2 = some r) :
    Calls Try.prog 66 #[.int .i64 a0, .slice A1 l1.length c1, .int .i64 a2] w fun e w' => e = .returned (.int .i64 r) ∧ Below w.heap.size w w' := by
  have HR1 := Aside0.mk hr1
  have HC1 := Aside0.mk hc1
  clear hr1 hc1
  have HB := Aside0.mk (Below.refl w.heap.size w)
  have H : (if (l1.length : Int) ≥ a0 then (if 0 ≤ a0 then (if a0 ≤ (l1.length : Int) then ((pianolaref09_through.f k (l1.take (a0 : Int).toNat)).bind fun t289 => ((pianolaref09_lie.f k t289 l1).bind fun t292 => (if t292 = true then (if 0 < (t289.length : Int) then (if (rd t289 0) = a2 then (some 1) else (some 0)) else (none)) else (some 0)))) else (none)) else (none)) else (pianolaref09_count.l0 k a0 1 (wrap64 ((l1.length : Int) + 1)))) = some r := h
  clear h
  by_cases c4 : (l1.length : Int) ≥ a0
  · rw [if_pos c4] at H
    have c4b0 : decide (a0 ≤ (l1.length : Int)) = true := decide_eq_true c4
    clear c4
    by_cases c5 : 0 ≤ a0
    · rw [if_pos c5] at H
      have c5b0 := eq_true c5
      have c5b1 : decide (0 ≤ a0) = true := decide_eq_true c5
      clear c5
      by_cases c6 : a0 ≤ (l1.length : Int)
      · rw [if_pos c6] at H
        have c6b0 := eq_true c6
        have c6b1 : decide (a0 ≤ (l1.length : Int)) = true := decide_eq_true c6
        clear c6
        obtain ⟨y285, hy285⟩ : ∃ y_ : List (S91), y_ = (l1.take (a0 : Int).toNat) := ⟨_, rfl⟩
        replace H : ((pianolaref09_through.f k y285).bind fun t289 => ((pianolaref09_lie.f k t289 l1).bind fun t292 => (if t292 = true then (if 0 < (t289.length : Int) then (if (rd t289 0) = a2 then (some 1) else (some 0)) else (none)) else (some 0)))) = some r := by first | (rw [hy285]; with_reducible exact H) | (have H2_ := (Option.bind_some _ _).symm.trans H; rw [hy285]; with_reducible exact H2_) | (have H2_ := (Option.bind_some _ _).symm.trans H; with_reducible exact H2_) | with_reducible exact H | (rw [hy285]; exact H) | exact H
        have Ny285 := Aside0.mk hy285
        clear hy285
        replace H := Option.bind_eq_some_iff.mp H
        obtain ⟨t289, A70, H⟩ := H
        replace H : ((pianolaref09_lie.f k t289 l1).bind fun t292 => (if t292 = true then (if 0 < (t289.length : Int) then (if (rd t289 0) = a2 then (some 1) else (some 0)) else (none)) else (some 0))) = some r := H
        have A7 := Aside0.mk A70
        clear A70
        replace H := Option.bind_eq_some_iff.mp H
        obtain ⟨t292, A80, H⟩ := H
        replace H : (if t292 = true then (if 0 < (t289.length : Int) then (if (rd t289 0) = a2 then (some 1) else (some 0)) else (none)) else (some 0)) = some r := H
        have A8 := Aside0.mk A80
        clear A80
        by_cases c9 : t292 = true
        · subst c9
          have H1 : (if 0 < (t289.length : Int) then (if (rd t289 0) = a2 then (some 1) else (some 0)) else (none)) = some r := by rw [if_pos rfl] at H; exact H
          clear H
          have H := H1
          clear H1
          by_cases c10 : 0 < (t289.length : Int)
          · rw [if_pos c10] at H
            have c10b0 : decide (0 < (t289.length : Int)) = true := decide_eq_true c10
            have c10b1 : decide (0 < t289.length) = true := decide_eq_true (by omega)
            clear c10
            by_cases c11 : (rd t289 0) = a2
            · rw [if_pos c11] at H
              have c11b0 : ((rd t289 0) == a2) = true := beq_iff_eq.mpr c11
              have c11b1 : ((rd t289 0) != a2) = false := bne_eq_false_iff_eq.mpr c11
              clear c11
              obtain rfl := Option.some.inj H
              have q12 : (a0 : Int) ≤ ((l1.length : Int) : Int) := of_decide_eq_true (by first | (with_reducible assumption) | assumption)
              obtain ⟨i012, hi012, _, hsz12, _⟩ := info_parts info91
              have hroom12 : l1.length ≤ c1 := HC1.out
              have hC12 : Kd.C k91 _ A1 l1.length l1 := HR1.out
              have hcut12 := cut_to (P := Try.prog) 31 91 .i64 Try.underlying31 hi012 A1 l1.length c1 a0 (of_decide_eq_true (by first | (with_reducible assumption) | assumption)) q12 hroom12
              have hr12 := Kd.C_take (m := (a0 : Int).toNat) hC12 (by omega)
              have hy12 : y285.length = (a0 : Int).toNat := (by rw [Ny285.out, List.length_take]; omega)
              rw [← Ny285.out] at hr12
              rw [← hy12] at hcut12
              have HR288 := Aside0.mk hr12
              have HC288 := Aside0.mk (show y285.length ≤ c1 from by omega)
              clear hr12 hC12 hroom12 hi012 hsz12
              have KY12 := Aside0.mk hy12
              clear hy12
              replace q12 := eq_true q12
              go_enter Try.func66, Try.ntmps66
              go_wp2_with (first | ((with_reducible refine gate_callee (f := 64) rfl ?_); refine goesL_ (some 17) rfl rfl Try.func64 (by kernel_rfl) rfl #[.slice A1 y285.length c1] rfl (by (try simp only [List.map_toArray, List.map_cons, List.map_nil]); first | done | rfl | (simp only [List.length_drop, List.length_take]; rfl)) ?_; (with_reducible refine (pianolaref09_through.calls k _ _ y285 t289 _ ?side1 ?side2 A7.out).mono ?_); (case side1 => repeat (first | exact HR288.out | (with_reducible refine Kd.C_alloc ?_ _) | (with_reducible refine Kd.C_drewN ?_ _) | (with_reducible refine Kd.C_drew ?_))); (case side2 => exact HC288.out); rintro e w13 ⟨v290, rfl, ho0, hb⟩; refine ⟨_, rfl, ?_⟩; have n0_ := Aside0.mk (Kd.R_lower ho0 (below_size (by repeat (first | (with_reducible first | exact HB.out | apply below_alloc | apply pw_below_drewN | apply below_drew1) | exact HB.out)))); have n1_ := Aside0.mk (below_step (by repeat (first | (with_reducible first | exact HB.out | apply below_alloc | apply pw_below_drewN | apply below_drew1) | exact HB.out)) hb); clear HB; have HO291 := n0_; have HB := n1_; clear n0_ n1_; (try clear hb); (try clear hb2); (try clear hk); (try clear hi); (try clear ho0); obtain ⟨Ao14, co14, eo14⟩ := Kd.R_slice HO291.out; subst eo14) | ((with_reducible refine gate_callee (f := 80) rfl ?_); refine goesL_ (some 20) rfl rfl Try.func80 (by kernel_rfl) rfl #[.slice Ao14 t289.length co14, .slice A1 l1.length c1] rfl (by (try simp only [List.map_toArray, List.map_cons, List.map_nil]); first | done | rfl | (simp only [List.length_drop, List.length_take]; rfl)) ?_; (with_reducible refine (pianolaref09_lie.calls k _ _ t289 _ _ l1 true _ ?side1 ?side2 ?side3 ?side4 A8.out).mono ?_); (case side1 => repeat (first | exact (Kd.R_reads' HO291.out).2.2 | (with_reducible refine Kd.C_alloc ?_ _) | (with_reducible refine Kd.C_drewN ?_ _) | (with_reducible refine Kd.C_drew ?_))); (case side2 => exact (Kd.R_reads' HO291.out).2.1); (case side3 => repeat (first | exact (Kd.C_below HR1.out HB.out) | (with_reducible refine Kd.C_alloc ?_ _) | (with_reducible refine Kd.C_drewN ?_ _) | (with_reducible refine Kd.C_drew ?_))); (case side4 => exact HC1.out); rintro e w' ⟨rfl, ⟨nd, rfl⟩⟩; refine ⟨_, rfl, ?_⟩; have p293 : 0 ≤ (0 : Int) := (by omega); have q293 : 0 < (t289.length : Int) := of_decide_eq_true (by first | (with_reducible assumption) | assumption); obtain ⟨ad293, e293, hx293_0⟩ := Kd.at_int (Kd.R_reads' HO291.out).2.2 0 p293 q293; cases e293; have qi293 : (0 < t289.length) = True := eq_true (by omega); (try rw [show ((0 : Int)).toNat = 0 from rfl] at hx293_0); (try rw [Addr.add_zero'] at hx293_0); replace p293 := eq_true p293; replace q293 := eq_true q293))
              go_ret
              exact ⟨by first | rfl | (simp [errW_none, errW_some] <;> rfl) | (simp [*, errW_none, errW_some] <;> rfl), by repeat (first | (with_reducible first | exact HB.out | apply below_alloc | apply pw_below_drewN | apply below_drew1) | exact HB.out)⟩
            · rw [if_neg c11] at H
              have c11b0 : ((rd t289 0) == a2) = false := beq_eq_false_iff_ne.mpr c11
              have c11b1 : ((rd t289 0) != a2) = true := bne_iff_ne.mpr c11
              obtain rfl := Option.some.inj H
              have q15 : (a0 : Int) ≤ ((l1.length : Int) : Int) := of_decide_eq_true (by first | (with_reducible assumption) | assumption)
              obtain ⟨i015, hi015, _, hsz15, _⟩ := info_parts info91
              have hroom15 : l1.length ≤ c1 := HC1.out
              have hC15 : Kd.C k91 _ A1 l1.length l1 := HR1.out
              have hcut15 := cut_to (P := Try.prog) 31 91 .i64 Try.underlying31 hi015 A1 l1.length c1 a0 (of_decide_eq_true (by first | (with_reducible assumption) | assumption)) q15 hroom15
              have hr15 := Kd.C_take (m := (a0 : Int).toNat) hC15 (by omega)
              have hy15 : y285.length = (a0 : Int).toNat := (by rw [Ny285.out, List.length_take]; omega)
              rw [← Ny285.out] at hr15
              rw [← hy15] at hcut15
              have HR288 := Aside0.mk hr15
              have HC288 := Aside0.mk (show y285.length ≤ c1 from by omega)
              clear hr15 hC15 hroom15 hi015 hsz15
              have KY15 := Aside0.mk hy15
              clear hy15
              replace q15 := eq_true q15
              go_enter Try.func66, Try.ntmps66
              go_wp2_with (first | ((with_reducible refine gate_callee (f := 64) rfl ?_); refine goesL_ (some 17) rfl rfl Try.func64 (by kernel_rfl) rfl #[.slice A1 y285.length c1] rfl (by (try simp only [List.map_toArray, List.map_cons, List.map_nil]); first | done | rfl | (simp only [List.length_drop, List.length_take]; rfl)) ?_; (with_reducible refine (pianolaref09_through.calls k _ _ y285 t289 _ ?side1 ?side2 A7.out).mono ?_); (case side1 => repeat (first | exact HR288.out | (with_reducible refine Kd.C_alloc ?_ _) | (with_reducible refine Kd.C_drewN ?_ _) | (with_reducible refine Kd.C_drew ?_))); (case side2 => exact HC288.out); rintro e w16 ⟨v290, rfl, ho0, hb⟩; refine ⟨_, rfl, ?_⟩; have n0_ := Aside0.mk (Kd.R_lower ho0 (below_size (by repeat (first | (with_reducible first | exact HB.out | apply below_alloc | apply pw_below_drewN | apply below_drew1) | exact HB.out)))); have n1_ := Aside0.mk (below_step (by repeat (first | (with_reducible first | exact HB.out | apply below_alloc | apply pw_below_drewN | apply below_drew1) | exact HB.out)) hb); clear HB; have HO291 := n0_; have HB := n1_; clear n0_ n1_; (try clear hb); (try clear hb2); (try clear hk); (try clear hi); (try clear ho0); obtain ⟨Ao17, co17, eo17⟩ := Kd.R_slice HO291.out; subst eo17) | ((with_reducible refine gate_callee (f := 80) rfl ?_); refine goesL_ (some 20) rfl rfl Try.func80 (by kernel_rfl) rfl #[.slice Ao17 t289.length co17, .slice A1 l1.length c1] rfl (by (try simp only [List.map_toArray, List.map_cons, List.map_nil]); first | done | rfl | (simp only [List.length_drop, List.length_take]; rfl)) ?_; (with_reducible refine (pianolaref09_lie.calls k _ _ t289 _ _ l1 true _ ?side1 ?side2 ?side3 ?side4 A8.out).mono ?_); (case side1 => repeat (first | exact (Kd.R_reads' HO291.out).2.2 | (with_reducible refine Kd.C_alloc ?_ _) | (with_reducible refine Kd.C_drewN ?_ _) | (with_reducible refine Kd.C_drew ?_))); (case side2 => exact (Kd.R_reads' HO291.out).2.1); (case side3 => repeat (first | exact (Kd.C_below HR1.out HB.out) | (with_reducible refine Kd.C_alloc ?_ _) | (with_reducible refine Kd.C_drewN ?_ _) | (with_reducible refine Kd.C_drew ?_))); (case side4 => exact HC1.out); rintro e w' ⟨rfl, ⟨nd, rfl⟩⟩; refine ⟨_, rfl, ?_⟩; have p293 : 0 ≤ (0 : Int) := (by omega); have q293 : 0 < (t289.length : Int) := of_decide_eq_true (by first | (with_reducible assumption) | assumption); obtain ⟨ad293, e293, hx293_0⟩ := Kd.at_int (Kd.R_reads' HO291.out).2.2 0 p293 q293; cases e293; have qi293 : (0 < t289.length) = True := eq_true (by omega); (try rw [show ((0 : Int)).toNat = 0 from rfl] at hx293_0); (try rw [Addr.add_zero'] at hx293_0); replace p293 := eq_true p293; replace q293 := eq_true q293))
              go_ret
              exact ⟨by first | rfl | (simp [errW_none, errW_some] <;> rfl) | (simp [*, errW_none, errW_some] <;> rfl), by repeat (first | (with_reducible first | exact HB.out | apply below_alloc | apply pw_below_drewN | apply below_drew1) | exact HB.out)⟩
          · rw [if_neg c10] at H
            exact absurd H (by simp)
        · replace c9 := Bool.eq_false_iff.mpr c9
          subst c9
          have H1 : (some 0) = some r := by rw [if_neg (show ¬ (false = true) by decide)] at H; exact H
          clear H
          have H := H1
          clear H1
          obtain rfl := Option.some.inj H
          have q18 : (a0 : Int) ≤ ((l1.length : Int) : Int) := of_decide_eq_true (by first | (with_reducible assumption) | assumption)
          obtain ⟨i018, hi018, _, hsz18, _⟩ := info_parts info91
          have hroom18 : l1.length ≤ c1 := HC1.out
          have hC18 : Kd.C k91 _ A1 l1.length l1 := HR1.out
          have hcut18 := cut_to (P := Try.prog) 31 91 .i64 Try.underlying31 hi018 A1 l1.length c1 a0 (of_decide_eq_true (by first | (with_reducible assumption) | assumption)) q18 hroom18
          have hr18 := Kd.C_take (m := (a0 : Int).toNat) hC18 (by omega)
          have hy18 : y285.length = (a0 : Int).toNat := (by rw [Ny285.out, List.length_take]; omega)
          rw [← Ny285.out] at hr18
          rw [← hy18] at hcut18
          have HR288 := Aside0.mk hr18
          have HC288 := Aside0.mk (show y285.length ≤ c1 from by omega)
          clear hr18 hC18 hroom18 hi018 hsz18
          have KY18 := Aside0.mk hy18
          clear hy18
          replace q18 := eq_true q18
          go_enter Try.func66, Try.ntmps66
          go_wp2_with (first | ((with_reducible refine gate_callee (f := 64) rfl ?_); refine goesL_ (some 17) rfl rfl Try.func64 (by kernel_rfl) rfl #[.slice A1 y285.length c1] rfl (by (try simp only [List.map_toArray, List.map_cons, List.map_nil]); first | done | rfl | (simp only [List.length_drop, List.length_take]; rfl)) ?_; (with_reducible refine (pianolaref09_through.calls k _ _ y285 t289 _ ?side1 ?side2 A7.out).mono ?_); (case side1 => repeat (first | exact HR288.out | (with_reducible refine Kd.C_alloc ?_ _) | (with_reducible refine Kd.C_drewN ?_ _) | (with_reducible refine Kd.C_drew ?_))); (case side2 => exact HC288.out); rintro e w19 ⟨v290, rfl, ho0, hb⟩; refine ⟨_, rfl, ?_⟩; have n0_ := Aside0.mk (Kd.R_lower ho0 (below_size (by repeat (first | (with_reducible first | exact HB.out | apply below_alloc | apply pw_below_drewN | apply below_drew1) | exact HB.out)))); have n1_ := Aside0.mk (below_step (by repeat (first | (with_reducible first | exact HB.out | apply below_alloc | apply pw_below_drewN | apply below_drew1) | exact HB.out)) hb); clear HB; have HO291 := n0_; have HB := n1_; clear n0_ n1_; (try clear hb); (try clear hb2); (try clear hk); (try clear hi); (try clear ho0); obtain ⟨Ao20, co20, eo20⟩ := Kd.R_slice HO291.out; subst eo20) | ((with_reducible refine gate_callee (f := 80) rfl ?_); refine goesL_ (some 20) rfl rfl Try.func80 (by kernel_rfl) rfl #[.slice Ao20 t289.length co20, .slice A1 l1.length c1] rfl (by (try simp only [List.map_toArray, List.map_cons, List.map_nil]); first | done | rfl | (simp only [List.length_drop, List.length_take]; rfl)) ?_; (with_reducible refine (pianolaref09_lie.calls k _ _ t289 _ _ l1 false _ ?side1 ?side2 ?side3 ?side4 A8.out).mono ?_); (case side1 => repeat (first | exact (Kd.R_reads' HO291.out).2.2 | (with_reducible refine Kd.C_alloc ?_ _) | (with_reducible refine Kd.C_drewN ?_ _) | (with_reducible refine Kd.C_drew ?_))); (case side2 => exact (Kd.R_reads' HO291.out).2.1); (case side3 => repeat (first | exact (Kd.C_below HR1.out HB.out) | (with_reducible refine Kd.C_alloc ?_ _) | (with_reducible refine Kd.C_drewN ?_ _) | (with_reducible refine Kd.C_drew ?_))); (case side4 => exact HC1.out); rintro e w' ⟨rfl, ⟨nd, rfl⟩⟩; refine ⟨_, rfl, ?_⟩))
          go_ret
          exact ⟨by first | rfl | (simp [errW_none, errW_some] <;> rfl) | (simp [*, errW_none, errW_some] <;> rfl), by repeat (first | (with_reducible first | exact HB.out | apply below_alloc | apply pw_below_drewN | apply below_drew1) | exact HB.out)⟩
      · rw [if_neg c6] at H
        exact absurd H (by simp)
    · rw [if_neg c5] at H
      exact absurd H (by simp)
  · rw [if_neg c4] at H
    have c4b0 : decide (a0 ≤ (l1.length : Int)) = false := decide_eq_false c4
    clear c4
    have H' := Aside0.mk H
    clear H
    go_enter Try.func66, Try.ntmps66
    go_wp2
    go_loopg [8, 9] k (fun kq v8 v9 w' => ∃ (x8_1 : Int) (x9_1 : Int), v8 = .int .i64 x8_1 ∧ v9 = .int .i64 x9_1 ∧ Aside0 (pianolaref09_count.l0 kq a0 x8_1 x9_1 = some r) ∧ Aside0 (kq ≤ k) ∧ Aside0 (Below w.heap.size w w'))
    case atStart => exact ⟨(1), (wrap64 ((l1.length : Int) + 1)), (by first | rfl | (simp; done) | (simp [*]; done)), (by first | rfl | (simp; done) | (simp [*]; done)), H', ⟨Nat.le_refl _⟩, ⟨by repeat (first | (with_reducible first | exact HB.out | apply below_alloc | apply pw_below_drewN | apply below_drew1) | exact HB.out)⟩⟩
    case round =>
      clear H'
      try clear c1
      try clear q1
      try clear p2
      try clear q2
      try clear hx2
      try clear qi2
      try clear c4
      try clear c4b0
      try clear c5
      try clear c5b0
      try clear c5b1
      try clear c6
      try clear c6b0
      try clear c6b1
      try clear p6
      try clear c8
      try clear c9
      try clear c10
      try clear c10b0
      try clear c10b1
      try clear c11
      try clear c11b0
      try clear c11b1
      try clear q12
      try clear q15
      try clear q18
      try clear hx293_0
      try clear p293
      try clear q12
      try clear q15
      try clear q18
      try clear q293
      obtain ⟨x8_1, x9_1, rfl, rfl, HA, HK1, HB⟩ := hrel
      cases gk with
      | zero => exact absurd HA.out (by simp [pianolaref09_count.l0])
      | succ k1 =>
        have H := HA.out
        clear HA
        simp only [pianolaref09_count.l0] at H
        by_cases c21 : x9_1 < a0
        · rw [if_pos c21] at H
          have c21b0 : decide (x9_1 < a0) = true := decide_eq_true c21
          clear c21
          obtain ⟨ji22, hji22⟩ : ∃ j_ : Int, (mn (wrap64 (x8_1 * 251)) 4503599627370496) = j_ := ⟨_, rfl⟩
          replace H : (pianolaref09_count.l0 k1 a0 ji22 (wrap64 (x9_1 + 1))) = some r := by first | (rw [hji22] at H; exact H) | (simp only [hji22] at H ⊢; exact H)
          have hji22_ : (if 4503599627370496 < (wrap64 (x8_1 * 251)) then 4503599627370496 else (wrap64 (x8_1 * 251))) = ji22 := hji22
          have H' := Aside0.mk H
          clear H
          go_wp2
          go_roundg k1
          case measure => have := HK1.out; omega
          case rel => exact ⟨(ji22), (wrap64 (x9_1 + 1)), (by first | rfl | (simp; done) | (simp only [← hji22] <;> (first | rfl | simp)) | (simp [*]; done)), (by first | rfl | (simp; done) | (simp [*]; done)), H', ⟨by have := HK1.out; omega⟩, ⟨by repeat (first | (with_reducible first | exact HB.out | apply below_alloc | apply pw_below_drewN | apply below_drew1) | exact HB.out)⟩⟩
        · rw [if_neg c21] at H
          have c21b0 : decide (x9_1 < a0) = false := decide_eq_false c21
          clear c21
          obtain rfl := Option.some.inj H
          go_wp2
          go_ret
          exact ⟨by first | rfl | (simp [errW_none, errW_some] <;> rfl) | (simp [*, errW_none, errW_some] <;> rfl), by repeat (first | (with_reducible first | exact HB.out | apply below_alloc | apply pw_below_drewN | apply below_drew1) | exact HB.out)⟩
def pianolaref09_Count.j0 : Nat → Int → List (S91) → Int → Int → Bool → Option (Int × Int)
  | 0, _, _, _, _, _ => none
  | k + 1, x0, x1, x2, x8, x18 => if x18 = true then (if 3 = 0 then ((pianolaref09_count.f k x0 x1 x2).bind fun t304 => (some (t304, 0))) else (some (0, 3))) else (if x8 = 0 then ((pianolaref09_count.f k x0 x1 x2).bind fun t305 => (some (t305, 0))) else (some (0, x8)))
def pianolaref09_Count.f (k : Nat) (a0 : Int) (l1 : List (S91)) (a2 : Int) : Option (Int × Int) := (pianolaref09_check.f k a0 l1).bind fun t302 => (if t302 = 0 then ((pianolaref09_is.f a2 0 250).bind fun t303 => (pianolaref09_Count.j0 k a0 l1 a2 t302 (!t303))) else (pianolaref09_Count.j0 k a0 l1 a2 t302 false))
set_option maxHeartbeats 8000000 in
set_option maxRecDepth 100000 in
theorem pianolaref09_Count.calls (k : Nat) (a0 : Int) (A1 : Option Addr) (c1 : Nat) (l1 : List (S91)) (a2 : Int) (r1 : Int) (r2 : Int) (w : World) (hr1 : Kd.C k91 w A1 l1.length l1) (hc1 : l1.length ≤ c1) (h : pianolaref09_Count.f k a0 l1 a2 = some (r1, r2)) :
    Calls Try.prog 36 #[.int .i64 a0, .slice A1 l1.length c1, .int .i64 a2] w fun e w' => e = .returned (.tuple #[.int .i64 r1, .int .i64 r2]) ∧ Below w.heap.size w w' := by
  have HR1 := Aside0.mk hr1
  have HC1 := Aside0.mk hc1
  clear hr1 hc1
  have HB := Aside0.mk (Below.refl w.heap.size w)
  have H : ((pianolaref09_check.f k a0 l1).bind fun t302 => (if t302 = 0 then ((pianolaref09_is.f a2 0 250).bind fun t303 => (pianolaref09_Count.j0 k a0 l1 a2 t302 (!t303))) else (pianolaref09_Count.j0 k a0 l1 a2 t302 false))) = some (r1, r2) := h
  clear h
  replace H := Option.bind_eq_some_iff.mp H
  obtain ⟨t302, A40, H⟩ := H
  replace H : (if t302 = 0 then ((pianolaref09_is.f a2 0 250).bind fun t303 => (pianolaref09_Count.j0 k a0 l1 a2 t302 (!t303))) else (pianolaref09_Count.j0 k a0 l1 a2 t302 false)) = some (r1, r2) := H
  have A4 := Aside0.mk A40
  clear A40
  have HC5 := Aside0.mk H
  clear H
  go_enter Try.func36, Try.ntmps36
  go_upto_region 2 with (first | ((with_reducible refine gate_callee (f := 58) rfl ?_); refine goesL_ (some 11) rfl rfl Try.func58 (by kernel_rfl) rfl #[.int .i64 a0, .slice A1 l1.length c1] rfl (by (try simp only [List.map_toArray, List.map_cons, List.map_nil]); first | done | rfl | (simp only [List.length_drop, List.length_take]; rfl)) ?_; (with_reducible refine (pianolaref09_check.calls k a0 _ _ l1 t302 _ ?side1 ?side2 A4.out).mono ?_); (case side1 => repeat (first | exact HR1.out | (with_reducible refine Kd.C_alloc ?_ _) | (with_reducible refine Kd.C_drewN ?_ _) | (with_reducible refine Kd.C_drew ?_))); (case side2 => exact HC1.out); rintro e w' ⟨rfl, ⟨nd, rfl⟩⟩; refine ⟨_, rfl, ?_⟩))
  (try simp only [Act.put, List.setIfInBounds_toArray, List.set_cons_zero, List.set_cons_succ])
  go_cut [18] (fun v18 wc => ∃ (kq : Nat) (x18_4 : Bool), v18 = .bool x18_4 ∧ Aside0 (pianolaref09_Count.j0 kq a0 l1 a2 t302 x18_4 = some (r1, r2)) ∧ Aside0 (kq ≤ k) ∧ Aside0 (Below w.heap.size w wc))
  case first =>
    have H := HC5.out
    clear HC5
    by_cases c6 : t302 = 0
    · rw [if_pos c6] at H
      have c6b0 : (t302 == 0) = true := beq_iff_eq.mpr c6
      have c6b1 : (t302 != 0) = false := bne_eq_false_iff_eq.mpr c6
      clear c6
      (first | rw [c6b0] | (simp only [i64_w, i32_w]; rw [c6b0]) | skip)
      replace H := Option.bind_eq_some_iff.mp H
      obtain ⟨t303, A70, H⟩ := H
      replace H : (pianolaref09_Count.j0 k a0 l1 a2 t302 (!t303)) = some (r1, r2) := H
      have A7 := Aside0.mk A70
      clear A70
      have H' := Aside0.mk H
      clear H
      go_wp2_with (first | (go_at_call 52; (with_reducible refine (pianolaref09_is.calls a2 0 250 t303 _ A7.out).mono ?_); rintro e w' ⟨rfl, ⟨nd, rfl⟩⟩))
      go_meet
      case rel => exact ⟨_, (!t303), (by first | rfl | (simp; done) | (simp [*]; done)), H', ⟨by first | omega | exact Nat.le_refl _⟩, ⟨by repeat (first | (with_reducible first | exact HB.out | apply below_alloc | apply pw_below_drewN | apply below_drew1) | exact HB.out)⟩⟩
    · rw [if_neg c6] at H
      have c6b0 : (t302 == 0) = false := beq_eq_false_iff_ne.mpr c6
      have c6b1 : (t302 != 0) = true := bne_iff_ne.mpr c6
      (first | rw [c6b0] | (simp only [i64_w, i32_w]; rw [c6b0]) | skip)
      have H' := Aside0.mk H
      clear H
      go_wp2
      go_meet
      case rel => exact ⟨_, (false), (by first | rfl | (simp; done) | (simp [*]; done)), H', ⟨by first | omega | exact Nat.le_refl _⟩, ⟨by repeat (first | (with_reducible first | exact HB.out | apply below_alloc | apply pw_below_drewN | apply below_drew1) | exact HB.out)⟩⟩
  case rest =>
    clear HC5
    try clear c1
    try clear p2
    try clear c3
    try clear c5
    try clear c6
    try clear c6b0
    try clear c6b1
    obtain ⟨kq, x18_4, rfl, HA, HJ4, HB⟩ := hcut
    cases kq with
    | zero => exact absurd HA.out (by simp [pianolaref09_Count.j0])
    | succ kj4 =>
      have H := HA.out
      clear HA
      simp only [pianolaref09_Count.j0] at H
      by_cases c8 : x18_4 = true
      · subst c8
        have H1 : (if 3 = 0 then ((pianolaref09_count.f kj4 a0 l1 a2).bind fun t304 => (some (t304, 0))) else (some (0, 3))) = some (r1, r2) := by rw [if_pos rfl] at H; exact H
        clear H
        have H := H1
        clear H1
        by_cases c9 : 3 = 0
        · exact absurd c9 (by decide)
        · rw [if_neg c9] at H
          have c9b0 : (3 == 0) = false := beq_eq_false_iff_ne.mpr c9
          have c9b1 : (3 != 0) = true := bne_iff_ne.mpr c9
          simp only [Option.some.injEq, Prod.mk.injEq] at H
          obtain ⟨rfl, rfl⟩ := H
          go_wp2
          go_ret2
          exact ⟨by first | rfl | (simp [errW_none, errW_some] <;> rfl) | (simp [*, errW_none, errW_some] <;> rfl), by repeat (first | (with_reducible first | exact HB.out | apply below_alloc | apply pw_below_drewN | apply below_drew1) | exact HB.out)⟩
      · replace c8 := Bool.eq_false_iff.mpr c8
        subst c8
        have H1 : (if t302 = 0 then ((pianolaref09_count.f kj4 a0 l1 a2).bind fun t305 => (some (t305, 0))) else (some (0, t302))) = some (r1, r2) := by rw [if_neg (show ¬ (false = true) by decide)] at H; exact H
        clear H
        have H := H1
        clear H1
        by_cases c12 : t302 = 0
        · rw [if_pos c12] at H
          have c12b0 : (t302 == 0) = true := beq_iff_eq.mpr c12
          have c12b1 : (t302 != 0) = false := bne_eq_false_iff_eq.mpr c12
          clear c12
          replace H := Option.bind_eq_some_iff.mp H
          obtain ⟨t305, A130, H⟩ := H
          replace H : (some (t305, 0)) = some (r1, r2) := H
          have A13 := Aside0.mk A130
          clear A130
          simp only [Option.some.injEq, Prod.mk.injEq] at H
          obtain ⟨rfl, rfl⟩ := H
          go_wp2_with (first | ((with_reducible refine gate_callee (f := 66) rfl ?_); refine goesL_ (some 25) rfl rfl Try.func66 (by kernel_rfl) rfl #[.int .i64 a0, .slice A1 l1.length c1, .int .i64 a2] rfl (by (try simp only [List.map_toArray, List.map_cons, List.map_nil]); first | done | rfl | (simp only [List.length_drop, List.length_take]; rfl)) ?_; (with_reducible refine (pianolaref09_count.calls kj4 a0 _ _ l1 a2 t305 _ ?side1 ?side2 A13.out).mono ?_); (case side1 => repeat (first | exact (Kd.C_below HR1.out HB.out) | (with_reducible refine Kd.C_alloc ?_ _) | (with_reducible refine Kd.C_drewN ?_ _) | (with_reducible refine Kd.C_drew ?_))); (case side2 => exact HC1.out); rintro e w14 ⟨rfl, hb⟩; refine ⟨_, rfl, ?_⟩; have n0_ := Aside0.mk (below_step (by repeat (first | (with_reducible first | exact HB.out | apply below_alloc | apply pw_below_drewN | apply below_drew1) | exact HB.out)) hb); clear HB; have HB := n0_; clear n0_; (try clear hb); (try clear hb2); (try clear hk); (try clear hi)))
          go_ret2
          exact ⟨by first | rfl | (simp [errW_none, errW_some] <;> rfl) | (simp [*, errW_none, errW_some] <;> rfl), by repeat (first | (with_reducible first | exact HB.out | apply below_alloc | apply pw_below_drewN | apply below_drew1) | exact HB.out)⟩
        · rw [if_neg c12] at H
          have c12b0 : (t302 == 0) = false := beq_eq_false_iff_ne.mpr c12
          have c12b1 : (t302 != 0) = true := bne_iff_ne.mpr c12
          simp only [Option.some.injEq, Prod.mk.injEq] at H
          obtain ⟨rfl, rfl⟩ := H
          go_wp2
          go_ret2
          exact ⟨by first | rfl | (simp [errW_none, errW_some] <;> rfl) | (simp [*, errW_none, errW_some] <;> rfl), by repeat (first | (with_reducible first | exact HB.out | apply below_alloc | apply pw_below_drewN | apply below_drew1) | exact HB.out)⟩
def pianolaref09_left.l0 : Nat → List (S91) → Int → List (S91) → List (S91) → Int → Option ((List (S91)) × (List (S91)))
  | 0, _, _, _, _, _ => none
  | k + 1, x0, x1, x6, x7, x8 => if x8 < (x0.length : Int) then (if 0 ≤ x8 then (if (Go.bits .and .i64 (shr .i64 x1 x8) 1) = 0 then (if x6.length < 8796093022208 then (pianolaref09_left.l0 k x0 x1 (x6 ++ [(⟨(rd_T91 x0 x8).f0, (rd_T91 x0 x8).f1⟩ : S91)]) x7 (wrap64 (x8 + 1))) else (none)) else (if x7.length < 8796093022208 then (pianolaref09_left.l0 k x0 x1 x6 (x7 ++ [(⟨(rd_T91 x0 x8).f0, (rd_T91 x0 x8).f1⟩ : S91)]) (wrap64 (x8 + 1))) else (none))) else (none)) else (some (x6, x7))
def pianolaref09_left.f (k : Nat) (l0 : List (S91)) (a1 : Int) : Option ((List (S91)) × (List (S91))) := pianolaref09_left.l0 k l0 a1 ([] : List (S91)) ([] : List (S91)) 0
set_option maxHeartbeats 8000000 in
set_option maxRecDepth 100000 in
theorem pianolaref09_left.calls (k : Nat) (A0 : Option Addr) (c0 : Nat) (l0 : List (S91)) (a1 : Int) (r1 : List (S91)) (r2 : List (S91)) (w : World) (hr0 : Kd.C k91 w A0 l0.length l0) (hc0 : l0.length ≤ c0) (h : pianolaref09_left.f k l0 a1 = some (r1, r2)) :
    Calls Try.prog 70 #[.slice A0 l0.length c0, .int .i64 a1] w fun e w' => ∃ v0_ v1_ : Value, e = .returned (.tuple #[v0_, v1_]) ∧ Kd.R k91 91 w' w.heap.size (fun k_ => some k_ ≠ (v1_ : Value).ownBlock) v0_ r1 ∧ Kd.R k91 91 w' w.heap.size (fun k_ => some k_ ≠ (v0_ : Value).ownBlock) v1_ r2 ∧ Below w.heap.size w w' := by
  have hu91 := Try.underlying91
  have HR0 := Aside0.mk hr0
  have HC0 := Aside0.mk hc0
  clear hr0 hc0
  have HB := Aside0.mk (Below.refl w.heap.size w)
  have H : (pianolaref09_left.l0 k l0 a1 ([] : List (S91)) ([] : List (S91)) 0) = some (r1, r2) := h
  clear h
  have H' := Aside0.mk H
  clear H
  go_enter Try.func70, Try.ntmps70
  go_wp2
  go_loopg [6, 7, 8] k (fun kq v6 v7 v8 w' => ∃ (x6_1 : List (S91)) (x7_1 : List (S91)) (x8_1 : Int), v8 = .int .i64 x8_1 ∧ Aside0 (pianolaref09_left.l0 kq l0 a1 x6_1 x7_1 x8_1 = some (r1, r2)) ∧ Aside0 (kq ≤ k) ∧ Aside0 (Kd.R k91 91 w' w.heap.size (fun k_ => some k_ ≠ (v7 : Value).ownBlock) v6 x6_1) ∧ Aside0 (Kd.R k91 91 w' w.heap.size (fun k_ => some k_ ≠ (v6 : Value).ownBlock) v7 x7_1) ∧ Aside0 (Below w.heap.size w w'))
  case atStart => exact ⟨(([] : List (S91))), (([] : List (S91))), (0), (by first | rfl | (simp; done) | (simp [*]; done)), H', ⟨Nat.le_refl _⟩, ⟨by first | exact Kd.R_nil _ _ _ _ _ | exact Kd.N_nil _ _ _ _ _ | exact Kd.V_nil _ _ _ _ _ | exact Kd.Q_nil _ _ _ _ _ | exact Kd.S_nil _ _ _ _ _⟩, ⟨by first | exact Kd.R_nil _ _ _ _ _ | exact Kd.N_nil _ _ _ _ _ | exact Kd.V_nil _ _ _ _ _ | exact Kd.Q_nil _ _ _ _ _ | exact Kd.S_nil _ _ _ _ _⟩, ⟨by repeat (first | (with_reducible first | exact HB.out | apply below_alloc | apply pw_below_drewN | apply below_drew1) | exact HB.out)⟩⟩
  case round =>
    clear H'
    try clear p2
    obtain ⟨x6_1, x7_1, x8_1, rfl, HA, HK1, HO_6, HO_7, HB⟩ := hrel
    cases gk with
    | zero => exact absurd HA.out (by simp [pianolaref09_left.l0])
    | succ k1 =>
      have H := HA.out
      clear HA
      simp only [pianolaref09_left.l0] at H
      by_cases c3 : x8_1 < (l0.length : Int)
      · rw [if_pos c3] at H
        have c3b0 : decide (x8_1 < (l0.length : Int)) = true := decide_eq_true c3
        clear c3
        by_cases c4 : 0 ≤ x8_1
        · rw [if_pos c4] at H
          have c4b0 := eq_true c4
          have c4b1 : decide (0 ≤ x8_1) = true := decide_eq_true c4
          clear c4
          obtain ⟨ji5, hji5⟩ : ∃ j_ : Int, (shr .i64 a1 x8_1) = j_ := ⟨_, rfl⟩
          replace H : (if (Go.bits .and .i64 (ji5) 1) = 0 then (if x6_1.length < 8796093022208 then (pianolaref09_left.l0 k1 l0 a1 (x6_1 ++ [(⟨(rd_T91 l0 x8_1).f0, (rd_T91 l0 x8_1).f1⟩ : S91)]) x7_1 (wrap64 (x8_1 + 1))) else (none)) else (if x7_1.length < 8796093022208 then (pianolaref09_left.l0 k1 l0 a1 x6_1 (x7_1 ++ [(⟨(rd_T91 l0 x8_1).f0, (rd_T91 l0 x8_1).f1⟩ : S91)]) (wrap64 (x8_1 + 1))) else (none))) = some (r1, r2) := by first | (rw [hji5] at H; exact H) | (simp only [hji5] at H ⊢; exact H)
          have hji5_ : (a1 / 2 ^ min x8_1.toNat 64) = ji5 := hji5
          have hji5z : x8_1 ≤ 64 → (a1 / 2 ^ x8_1.toNat) = ji5 := shr_small hji5
          by_cases c6 : (Go.bits .and .i64 (ji5) 1) = 0
          · rw [if_pos c6] at H
            have c6b0 : ((Go.bits .and .i64 (ji5) 1) == 0) = true := beq_iff_eq.mpr c6
            have c6b1 : ((Go.bits .and .i64 (ji5) 1) != 0) = false := bne_eq_false_iff_eq.mpr c6
            clear c6
            by_cases c7 : x6_1.length < 8796093022208
            · rw [if_pos c7] at H
              have LMc7 := Aside0.mk c7
              clear c7
              obtain ⟨y328, hy328⟩ : ∃ y_ : List (S91), y_ = (x6_1 ++ [(⟨(rd_T91 l0 x8_1).f0, (rd_T91 l0 x8_1).f1⟩ : S91)]) := ⟨_, rfl⟩
              replace H : (pianolaref09_left.l0 k1 l0 a1 y328 x7_1 (wrap64 (x8_1 + 1))) = some (r1, r2) := by first | (rw [hy328]; with_reducible exact H) | (have H2_ := (Option.bind_some _ _).symm.trans H; rw [hy328]; with_reducible exact H2_) | (have H2_ := (Option.bind_some _ _).symm.trans H; with_reducible exact H2_) | with_reducible exact H | (rw [hy328]; exact H) | exact H
              have Ny328 := Aside0.mk hy328
              clear hy328
              have H' := Aside0.mk H
              clear H
              have p327 : 0 ≤ (x8_1 : Int) := of_decide_eq_true (by first | (with_reducible assumption) | assumption)
              have q327 : x8_1 < (l0.length : Int) := of_decide_eq_true (by first | (with_reducible assumption) | assumption)
              obtain ⟨ad327, e327, hx327_0, hx327_1⟩ := at_T91 HR0.out x8_1 p327 q327
              cases e327
              replace hx327_0 := (HB.out.cell (World.block_lt_of_cell? w _ hx327_0)).trans hx327_0
              replace hx327_1 := (HB.out.cell (World.block_lt_of_cell? w _ hx327_1)).trans hx327_1
              replace p327 := eq_true p327
              replace q327 := eq_true q327
              go_wp2_with (first | ((with_reducible refine gate_builtin (b := .append) (xs := #[.tmp 20, .tmp 25]) rfl ?_); at_builtin; refine Kd.R_append k91 (w0 := w) w.heap.size rfl (.tmp 20) (.tmp 25) 31 91 (.agg #[(.int .i64 0), (.int .i64 0)]) 16 rfl Try.underlying31 info91 rfl (by decide) (by omega) u6 x6_1 (⟨(rd_T91 l0 x8_1).f0, (rd_T91 l0 x8_1).f1⟩ : S91) [.int .i64 ((rd_T91 l0 x8_1).f0), .int .i64 ((rd_T91 l0 x8_1).f1)] (fun k_ => some k_ ≠ (u7 : Value).ownBlock) (fun _ => False) rfl rfl ?aP (fun _ hk => hk.elim) ?aF ?aO ?aB ?aS ?aL ?_; (case aP => exact k91_mkM _ _ _ (⟨(rd_T91 l0 x8_1).f0, (rd_T91 l0 x8_1).f1⟩ : S91)); (case aB => exact (by repeat (first | (with_reducible first | exact HB.out | apply below_alloc | apply pw_below_drewN | apply below_drew1) | exact HB.out))); (case aF => exact (fun k_ hk => Kd.fresh' (Kd.R_lt (by (with_reducible repeat (first | apply Kd.R_alloc | apply Kd.R_drewN | apply Kd.R_drew)); exact HO_7.out)) k_ hk)); (case aO => exact (by (with_reducible repeat (first | apply Kd.R_alloc | apply Kd.R_drewN | apply Kd.R_drew)); exact HO_6.out)); (case aS => exact (below_size (by repeat (first | (with_reducible first | exact HB.out | apply below_alloc | apply pw_below_drewN | apply below_drew1) | exact HB.out)))); (case aL => have := LMc7.out; omega); intro v329 w8 ho hb hg hat; rw [← Ny328.out] at ho; have n0_ := Aside0.mk (Kd.R_after (ok := (fun _ => True)) (by (with_reducible repeat (first | apply Kd.R_alloc | apply Kd.R_drewN | apply Kd.R_drew)); exact Kd.R_mono HO_7.out (fun _ hk => ⟨trivial, hk⟩)) hg hat); have n1_ := Aside0.mk (hb); have n2_ := Aside0.mk (ho); clear HO_7; clear HB; clear HO_6; have HO_7 := n0_; have HB := n1_; have HO330 := n2_; clear n0_ n1_ n2_; clear ho hb hg hat))
              go_roundg k1
              case measure => have := HK1.out; omega
              case rel => exact ⟨(y328), (x7_1), (wrap64 (x8_1 + 1)), (by first | rfl | (simp; done) | (simp [*]; done)), H', ⟨by have := HK1.out; omega⟩, ⟨by (with_reducible repeat (first | apply Kd.R_alloc | apply Kd.R_drewN | apply Kd.R_drew)); exact HO330.out⟩, ⟨by (with_reducible repeat (first | apply Kd.R_alloc | apply Kd.R_drewN | apply Kd.R_drew)); exact Kd.R_mono HO_7.out (fun _ hk => hk.2)⟩, ⟨by repeat (first | (with_reducible first | exact HB.out | apply below_alloc | apply pw_below_drewN | apply below_drew1) | exact HB.out)⟩⟩
            · rw [if_neg c7] at H
              exact absurd H (by simp)
          · rw [if_neg c6] at H
            have c6b0 : ((Go.bits .and .i64 (ji5) 1) == 0) = false := beq_eq_false_iff_ne.mpr c6
            have c6b1 : ((Go.bits .and .i64 (ji5) 1) != 0) = true := bne_iff_ne.mpr c6
            by_cases c9 : x7_1.length < 8796093022208
            · rw [if_pos c9] at H
              have LMc9 := Aside0.mk c9
              clear c9
              obtain ⟨y332, hy332⟩ : ∃ y_ : List (S91), y_ = (x7_1 ++ [(⟨(rd_T91 l0 x8_1).f0, (rd_T91 l0 x8_1).f1⟩ : S91)]) := ⟨_, rfl⟩
              replace H : (pianolaref09_left.l0 k1 l0 a1 x6_1 y332 (wrap64 (x8_1 + 1))) = some (r1, r2) := by first | (rw [hy332]; with_reducible exact H) | (have H2_ := (Option.bind_some _ _).symm.trans H; rw [hy332]; with_reducible exact H2_) | (have H2_ := (Option.bind_some _ _).symm.trans H; with_reducible exact H2_) | with_reducible exact H | (rw [hy332]; exact H) | exact H
              have Ny332 := Aside0.mk hy332
              clear hy332
              have H' := Aside0.mk H
              clear H
              have p331 : 0 ≤ (x8_1 : Int) := of_decide_eq_true (by first | (with_reducible assumption) | assumption)
              have q331 : x8_1 < (l0.length : Int) := of_decide_eq_true (by first | (with_reducible assumption) | assumption)
              obtain ⟨ad331, e331, hx331_0, hx331_1⟩ := at_T91 HR0.out x8_1 p331 q331
              cases e331
              replace hx331_0 := (HB.out.cell (World.block_lt_of_cell? w _ hx331_0)).trans hx331_0
              replace hx331_1 := (HB.out.cell (World.block_lt_of_cell? w _ hx331_1)).trans hx331_1
              replace p331 := eq_true p331
              replace q331 := eq_true q331
              go_wp2_with (first | ((with_reducible refine gate_builtin (b := .append) (xs := #[.tmp 27, .tmp 32]) rfl ?_); at_builtin; refine Kd.R_append k91 (w0 := w) w.heap.size rfl (.tmp 27) (.tmp 32) 31 91 (.agg #[(.int .i64 0), (.int .i64 0)]) 16 rfl Try.underlying31 info91 rfl (by decide) (by omega) u7 x7_1 (⟨(rd_T91 l0 x8_1).f0, (rd_T91 l0 x8_1).f1⟩ : S91) [.int .i64 ((rd_T91 l0 x8_1).f0), .int .i64 ((rd_T91 l0 x8_1).f1)] (fun k_ => some k_ ≠ (u6 : Value).ownBlock) (fun _ => False) rfl rfl ?aP (fun _ hk => hk.elim) ?aF ?aO ?aB ?aS ?aL ?_; (case aP => exact k91_mkM _ _ _ (⟨(rd_T91 l0 x8_1).f0, (rd_T91 l0 x8_1).f1⟩ : S91)); (case aB => exact (by repeat (first | (with_reducible first | exact HB.out | apply below_alloc | apply pw_below_drewN | apply below_drew1) | exact HB.out))); (case aF => exact (fun k_ hk => Kd.fresh' (Kd.R_lt (by (with_reducible repeat (first | apply Kd.R_alloc | apply Kd.R_drewN | apply Kd.R_drew)); exact HO_6.out)) k_ hk)); (case aO => exact (by (with_reducible repeat (first | apply Kd.R_alloc | apply Kd.R_drewN | apply Kd.R_drew)); exact HO_7.out)); (case aS => exact (below_size (by repeat (first | (with_reducible first | exact HB.out | apply below_alloc | apply pw_below_drewN | apply below_drew1) | exact HB.out)))); (case aL => have := LMc9.out; omega); intro v333 w10 ho hb hg hat; rw [← Ny332.out] at ho; have n0_ := Aside0.mk (Kd.R_after (ok := (fun _ => True)) (by (with_reducible repeat (first | apply Kd.R_alloc | apply Kd.R_drewN | apply Kd.R_drew)); exact Kd.R_mono HO_6.out (fun _ hk => ⟨trivial, hk⟩)) hg hat); have n1_ := Aside0.mk (hb); have n2_ := Aside0.mk (ho); clear HO_6; clear HB; clear HO_7; have HO_6 := n0_; have HB := n1_; have HO334 := n2_; clear n0_ n1_ n2_; clear ho hb hg hat))
              go_roundg k1
              case measure => have := HK1.out; omega
              case rel => exact ⟨(x6_1), (y332), (wrap64 (x8_1 + 1)), (by first | rfl | (simp; done) | (simp [*]; done)), H', ⟨by have := HK1.out; omega⟩, ⟨by (with_reducible repeat (first | apply Kd.R_alloc | apply Kd.R_drewN | apply Kd.R_drew)); exact Kd.R_mono HO_6.out (fun _ hk => hk.2)⟩, ⟨by (with_reducible repeat (first | apply Kd.R_alloc | apply Kd.R_drewN | apply Kd.R_drew)); exact HO334.out⟩, ⟨by repeat (first | (with_reducible first | exact HB.out | apply below_alloc | apply pw_below_drewN | apply below_drew1) | exact HB.out)⟩⟩
            · rw [if_neg c9] at H
              exact absurd H (by simp)
        · rw [if_neg c4] at H
          exact absurd H (by simp)
      · rw [if_neg c3] at H
        have c3b0 : decide (x8_1 < (l0.length : Int)) = false := decide_eq_false c3
        clear c3
        simp only [Option.some.injEq, Prod.mk.injEq] at H
        obtain ⟨rfl, rfl⟩ := H
        go_wp2
        go_ret2
        exact ⟨_, _, by first | rfl | (simp [errW_none, errW_some] <;> rfl) | (simp [*, errW_none, errW_some] <;> rfl), by (with_reducible repeat (first | apply Kd.R_alloc | apply Kd.R_drewN | apply Kd.R_drew)); exact HO_6.out, by (with_reducible repeat (first | apply Kd.R_alloc | apply Kd.R_drewN | apply Kd.R_drew)); exact HO_7.out, by repeat (first | (with_reducible first | exact HB.out | apply below_alloc | apply pw_below_drewN | apply below_drew1) | exact HB.out)⟩
mutual
def pianolaref09_Wrong.j0 : Nat → Int → Int → List (S91) → Int → Bool → Option (List Int × Int)
  | 0, _, _, _, _, _ => none
  | k + 1, x0, x1, x2, x8, x25 => if x25 = true then (pianolaref09_Wrong.j1 k x0 x1 x2 3) else (pianolaref09_Wrong.j1 k x0 x1 x2 x8)
def pianolaref09_Wrong.j1 : Nat → Int → Int → List (S91) → Int → Option (List Int × Int)
  | 0, _, _, _, _ => none
  | k + 1, x0, x1, x2, x8 => if x8 = 0 then (if (x2.length : Int) < (wrap64 (x0 + (wrap64 (2 * x1)))) then (some (([] : List Int), 8)) else (pianolaref09_Wrong.l0 k x0 x1 x2 0)) else (some (([] : List Int), x8))
def pianolaref09_Wrong.l0 : Nat → Int → Int → List (S91) → Int → Option (List Int × Int)
  | 0, _, _, _, _ => none
  | k + 1, x0, x1, x2, x9 => if x9 ≤ x1 then (pianolaref09_Wrong.l1 k x0 x1 x2 x9 0) else (some (([] : List Int), 15))
def pianolaref09_Wrong.l1 : Nat → Int → Int → List (S91) → Int → Int → Option (List Int × Int)
  | 0, _, _, _, _, _ => none
  | k + 1, x0, x1, x2, x9, x10 => if x10 < (shl .i64 1 (x2.length : Int)) then ((pianolaref09_left.f k x2 x10).bind fun bt337 => (if (bt337.2.length : Int) = x9 then ((pianolaref09_agree.f k x0 bt337.1).bind fun t343 => (pianolaref09_Wrong.j4 k x0 x1 x2 x9 x10 bt337.2 (!t343))) else (pianolaref09_Wrong.j4 k x0 x1 x2 x9 x10 bt337.2 true))) else (pianolaref09_Wrong.l0 k x0 x1 x2 (wrap64 (x9 + 1)))
def pianolaref09_Wrong.j4 : Nat → Int → Int → List (S91) → Int → Int → List (S91) → Bool → Option (List Int × Int)
  | 0, _, _, _, _, _, _, _ => none
  | k + 1, x0, x1, x2, x9, x10, x12, x63 => if x63 = true then (pianolaref09_Wrong.l1 k x0 x1 x2 x9 (wrap64 (x10 + 1))) else (pianolaref09_Wrong.l2 k x12 ([] : List Int) 0)
def pianolaref09_Wrong.l2 : Nat → List (S91) → List Int → Int → Option (List Int × Int)
  | 0, _, _, _ => none
  | k + 1, x12, x13, x14 => if x14 < (x12.length : Int) then (if 0 ≤ x14 then (if x13.length < 17592186044416 then ((some (x13 ++ [(rd_T91 x12 x14).f0] : List Int)).bind fun y345 => (pianolaref09_Wrong.l3 k x12 y345 x14 (wrap64 ((y345.length : Int) - 1)))) else (none)) else (none)) else (some (x13, 0))
def pianolaref09_Wrong.l3 : Nat → List (S91) → List Int → Int → Int → Option (List Int × Int)
  | 0, _, _, _, _ => none
  | k + 1, x12, x13, x14, x15 => if x15 > 0 then (if 0 ≤ x15 then (if x15 < (x13.length : Int) then (if 0 ≤ (wrap64 (x15 - 1)) then (if (wrap64 (x15 - 1)) < (x13.length : Int) then (if (rd x13 x15) < (rd x13 (wrap64 (x15 - 1))) then (pianolaref09_Wrong.l3 k x12 ((x13.set (x15 : Int).toNat (rd x13 (wrap64 (x15 - 1)))).set ((wrap64 (x15 - 1)) : Int).toNat (rd x13 x15)) x14 (wrap64 (x15 - 1))) else (pianolaref09_Wrong.l2 k x12 x13 (wrap64 (x14 + 1)))) else (none)) else (none)) else (none)) else (none)) else (pianolaref09_Wrong.l2 k x12 x13 (wrap64 (x14 + 1)))
end
def pianolaref09_Wrong.f (k : Nat) (a0 : Int) (a1 : Int) (l2 : List (S91)) : Option (List Int × Int) := (pianolaref09_check.f k a0 l2).bind fun t335 => (if t335 = 0 then ((pianolaref09_is.f a1 0 3).bind fun t336 => (pianolaref09_Wrong.j0 k a0 a1 l2 t335 (!t336))) else (pianolaref09_Wrong.j0 k a0 a1 l2 t335 false))
def pianolaref09_Wrong.T22 : Bool × List (List Nat × List Nat) := (true, [([], []), ([0], [0]), ([1], [1]), ([2], [2]), ([2], [2]), ([3, 4, 2], [2, 3, 4]), ([5, 2], [2, 5]), ([2], [2]), ([2], [2]), ([8, 2], [2, 8]), ([7, 9, 2], [2, 7, 9]), ([10, 2], [2, 10]), ([6, 11, 2], [2, 6, 11]), ([2, 12], [2, 12])])
def pianolaref09_Wrong.B22 : List Nat := [0, 1, 3, 7, 7, 31, 63, 7, 7, 263, 903, 1927, 4095, 8191]
theorem pianolaref09_Wrong.tab22 : rtab .any (opsOf Try.f38 22) = pianolaref09_Wrong.T22 := by kernel_rfl
theorem pianolaref09_Wrong.bits22 : waitsOk pianolaref09_Wrong.T22.2 pianolaref09_Wrong.B22 = true := by kernel_rfl
def pianolaref09_Wrong.T24 : Bool × List (List Nat × List Nat) := (true, [([], []), ([], []), ([], []), ([], []), ([3], [3]), ([], []), ([], []), ([6], [6]), ([5, 7], [5, 7]), ([8], [8]), ([], []), ([], []), ([10, 11], [10, 11]), ([12], [12]), ([0, 1, 0, 1, 5, 6, 7, 8, 9, 13], [0, 1]), ([14, 9, 0, 1, 5, 6, 7, 8, 9, 13], [9, 14]), ([2, 4, 0, 1, 2, 3, 4, 5, 6, 7, 8, 9, 10, 11, 12, 13, 14, 15], [2, 4]), ([16, 13, 15, 0, 1, 2, 3, 4, 5, 6, 7, 8, 9, 10, 11, 12, 13, 14, 15], [13, 16])])
def pianolaref09_Wrong.B24 : List Nat := [0, 0, 0, 0, 8, 0, 0, 64, 224, 480, 0, 0, 3072, 7168, 16355, 32739, 65535, 131071]
theorem pianolaref09_Wrong.tab24 : rtab .any (opsOf Try.f38 24) = pianolaref09_Wrong.T24 := by kernel_rfl
theorem pianolaref09_Wrong.bits24 : waitsOk pianolaref09_Wrong.T24.2 pianolaref09_Wrong.B24 = true := by kernel_rfl
set_option maxHeartbeats 8000000 in
set_option maxRecDepth 100000 in
theorem pianolaref09_Wrong.calls (k : Nat) (a0 : Int) (a1 : Int) (A2 : Option Addr) (c2 : Nat) (l2 : List (S91)) (r1 : List Int) (r2 : Int) (w : World) (hr2 : Kd.C k91 w A2 l2.length l2) (hc2 : l2.length ≤ c2) (h : pianolaref09_Wrong.f k a0 a1 l2 = some (r1, r2)) :
    Calls Try.prog 38 #[.int .i64 a0, .int .i64 a1, .slice A2 l2.length c2] w fun e w' => ∃ v0_ : Value, e = .returned (.tuple #[v0_, .int .i64 r2]) ∧ Kd.R (Kd.int .i64) 3 w' w.heap.size (fun _ => True) v0_ r1 ∧ Below w.heap.size w w' := by
  have HR2 := Aside0.mk hr2
  have HC2 := Aside0.mk hc2
  clear hr2 hc2
  have HB := Aside0.mk (Below.refl w.heap.size w)
  have H : ((pianolaref09_check.f k a0 l2).bind fun t335 => (if t335 = 0 then ((pianolaref09_is.f a1 0 3).bind fun t336 => (pianolaref09_Wrong.j0 k a0 a1 l2 t335 (!t336))) else (pianolaref09_Wrong.j0 k a0 a1 l2 t335 false))) = some (r1, r2) := h
  clear h
  replace H := Option.bind_eq_some_iff.mp H
  obtain ⟨t335, A40, H⟩ := H
  replace H : (if t335 = 0 then ((pianolaref09_is.f a1 0 3).bind fun t336 => (pianolaref09_Wrong.j0 k a0 a1 l2 t335 (!t336))) else (pianolaref09_Wrong.j0 k a0 a1 l2 t335 false)) = some (r1, r2) := H
  have A4 := Aside0.mk A40
  clear A40
  have HC5 := Aside0.mk H
  clear H
  go_enter Try.func38, Try.ntmps38
  go_upto_region 2 with (first | ((with_reducible refine gate_callee (f := 58) rfl ?_); refine goesL_ (some 18) rfl rfl Try.func58 (by kernel_rfl) rfl #[.int .i64 a0, .slice A2 l2.length c2] rfl (by (try simp only [List.map_toArray, List.map_cons, List.map_nil]); first | done | rfl | (simp only [List.length_drop, List.length_take]; rfl)) ?_; (with_reducible refine (pianolaref09_check.calls k a0 _ _ l2 t335 _ ?side1 ?side2 A4.out).mono ?_); (case side1 => repeat (first | exact HR2.out | (with_reducible refine Kd.C_alloc ?_ _) | (with_reducible refine Kd.C_drewN ?_ _) | (with_reducible refine Kd.C_drew ?_))); (case side2 => exact HC2.out); rintro e w' ⟨rfl, ⟨nd, rfl⟩⟩; refine ⟨_, rfl, ?_⟩))
  (try simp only [Act.put, List.setIfInBounds_toArray, List.set_cons_zero, List.set_cons_succ])
  go_cut [25] (fun v25 wc => ∃ (kq : Nat) (x25_4 : Bool), v25 = .bool x25_4 ∧ Aside0 (pianolaref09_Wrong.j0 kq a0 a1 l2 t335 x25_4 = some (r1, r2)) ∧ Aside0 (kq ≤ k) ∧ Aside0 (Below w.heap.size w wc))
  case first =>
    have H := HC5.out
    clear HC5
    by_cases c6 : t335 = 0
    · rw [if_pos c6] at H
      have c6b0 : (t335 == 0) = true := beq_iff_eq.mpr c6
      have c6b1 : (t335 != 0) = false := bne_eq_false_iff_eq.mpr c6
      clear c6
      (first | rw [c6b0] | (simp only [i64_w, i32_w]; rw [c6b0]) | skip)
      replace H := Option.bind_eq_some_iff.mp H
      obtain ⟨t336, A70, H⟩ := H
      replace H : (pianolaref09_Wrong.j0 k a0 a1 l2 t335 (!t336)) = some (r1, r2) := H
      have A7 := Aside0.mk A70
      clear A70
      have H' := Aside0.mk H
      clear H
      go_wp2_with (first | (go_at_call 52; (with_reducible refine (pianolaref09_is.calls a1 0 3 t336 _ A7.out).mono ?_); rintro e w' ⟨rfl, ⟨nd, rfl⟩⟩))
      go_meet
      case rel => exact ⟨_, (!t336), (by first | rfl | (simp; done) | (simp [*]; done)), H', ⟨by first | omega | exact Nat.le_refl _⟩, ⟨by repeat (first | (with_reducible first | exact HB.out | apply below_alloc | apply pw_below_drewN | apply below_drew1) | exact HB.out)⟩⟩
    · rw [if_neg c6] at H
      have c6b0 : (t335 == 0) = false := beq_eq_false_iff_ne.mpr c6
      have c6b1 : (t335 != 0) = true := bne_iff_ne.mpr c6
      (first | rw [c6b0] | (simp only [i64_w, i32_w]; rw [c6b0]) | skip)
      have H' := Aside0.mk H
      clear H
      go_wp2
      go_meet
      case rel => exact ⟨_, (false), (by first | rfl | (simp; done) | (simp [*]; done)), H', ⟨by first | omega | exact Nat.le_refl _⟩, ⟨by repeat (first | (with_reducible first | exact HB.out | apply below_alloc | apply pw_below_drewN | apply below_drew1) | exact HB.out)⟩⟩
  case rest =>
    clear HC5
    try clear c2
    try clear p2
    try clear c3
    try clear c5
    try clear c6
    try clear c6b0
    try clear c6b1
    obtain ⟨kq, x25_4, rfl, HA, HJ4, HB⟩ := hcut
    cases kq with
    | zero => exact absurd HA.out (by simp [pianolaref09_Wrong.j0])
    | succ kj4 =>
      have H := HA.out
      clear HA
      simp only [pianolaref09_Wrong.j0] at H
      have HC8 := Aside0.mk H
      clear H
      go_upto_if 25 with (fail)
      go_cut [8] (fun v8 wc => ∃ (kq : Nat) (x8_7 : Int), v8 = .int .i64 x8_7 ∧ Aside0 (pianolaref09_Wrong.j1 kq a0 a1 l2 x8_7 = some (r1, r2)) ∧ Aside0 (kq ≤ kj4) ∧ Aside0 (Below w.heap.size w wc))
      case first =>
        have H := HC8.out
        clear HC8
        by_cases c9 : x25_4 = true
        · subst c9
          have H1 : (pianolaref09_Wrong.j1 kj4 a0 a1 l2 3) = some (r1, r2) := by rw [if_pos rfl] at H; exact H
          clear H
          have H := H1
          clear H1
          have H' := Aside0.mk H
          clear H
          go_wp2
          go_meet
          case rel => exact ⟨_, (3), (by first | rfl | (simp; done) | (simp [*]; done)), H', ⟨by have := HJ4.out; first | omega | exact Nat.le_refl _⟩, ⟨by repeat (first | (with_reducible first | exact HB.out | apply below_alloc | apply pw_below_drewN | apply below_drew1) | exact HB.out)⟩⟩
        · replace c9 := Bool.eq_false_iff.mpr c9
          subst c9
          have H1 : (pianolaref09_Wrong.j1 kj4 a0 a1 l2 t335) = some (r1, r2) := by rw [if_neg (show ¬ (false = true) by decide)] at H; exact H
          clear H
          have H := H1
          clear H1
          have H' := Aside0.mk H
          clear H
          go_wp2
          go_meet
          case rel => exact ⟨_, (t335), (by first | rfl | (simp; done) | (simp [*]; done)), H', ⟨by have := HJ4.out; first | omega | exact Nat.le_refl _⟩, ⟨by repeat (first | (with_reducible first | exact HB.out | apply below_alloc | apply pw_below_drewN | apply below_drew1) | exact HB.out)⟩⟩
      case rest =>
        clear HC8
        try clear c2
        try clear p2
        try clear c3
        try clear c5
        try clear c6
        try clear c6b0
        try clear c6b1
        try clear c9
        try clear p2
        obtain ⟨kq, x8_7, rfl, HA, HJ7, HB⟩ := hcut
        cases kq with
        | zero => exact absurd HA.out (by simp [pianolaref09_Wrong.j1])
        | succ kj7 =>
          have H := HA.out
          clear HA
          simp only [pianolaref09_Wrong.j1] at H
          by_cases c10 : x8_7 = 0
          · rw [if_pos c10] at H
            have c10b0 : (x8_7 == 0) = true := beq_iff_eq.mpr c10
            have c10b1 : (x8_7 != 0) = false := bne_eq_false_iff_eq.mpr c10
            clear c10
            by_cases c11 : (l2.length : Int) < (wrap64 (a0 + (wrap64 (2 * a1))))
            · rw [if_pos c11] at H
              have c11b0 : decide ((l2.length : Int) < (wrap64 (a0 + (wrap64 (2 * a1))))) = true := decide_eq_true c11
              clear c11
              simp only [Option.some.injEq, Prod.mk.injEq] at H
              obtain ⟨rfl, rfl⟩ := H
              go_wp2
              go_ret2
              exact ⟨_, by first | rfl | (simp [errW_none, errW_some] <;> rfl) | (simp [*, errW_none, errW_some] <;> rfl), by first | exact Kd.R_nil _ _ _ _ _ | exact Kd.N_nil _ _ _ _ _ | exact Kd.V_nil _ _ _ _ _ | exact Kd.Q_nil _ _ _ _ _ | exact Kd.S_nil _ _ _ _ _, by repeat (first | (with_reducible first | exact HB.out | apply below_alloc | apply pw_below_drewN | apply below_drew1) | exact HB.out)⟩
            · rw [if_neg c11] at H
              have c11b0 : decide ((l2.length : Int) < (wrap64 (a0 + (wrap64 (2 * a1))))) = false := decide_eq_false c11
              clear c11
              have H' := Aside0.mk H
              clear H
              go_wp2
              go_loopg [9] kj7 (fun kq v9 w' => ∃ (x9_3 : Int), v9 = .int .i64 x9_3 ∧ Aside0 (pianolaref09_Wrong.l0 kq a0 a1 l2 x9_3 = some (r1, r2)) ∧ Aside0 (kq ≤ kj7) ∧ Aside0 (Below w.heap.size w w'))
              case atStart => exact ⟨(0), (by first | rfl | (simp; done) | (simp [*]; done)), H', ⟨Nat.le_refl _⟩, ⟨by repeat (first | (with_reducible first | exact HB.out | apply below_alloc | apply pw_below_drewN | apply below_drew1) | exact HB.out)⟩⟩
              case round =>
                clear H'
                try clear c1
                try clear c2
                try clear p2
                try clear c3
                try clear c5
                try clear c6
                try clear c6b0
                try clear c6b1
                try clear p6
                try clear c9
                try clear c10
                try clear c10b0
                try clear c10b1
                try clear c11
                try clear c11b0
                try clear p2
                obtain ⟨x9_3, rfl, HA, HK3, HB⟩ := hrel
                cases gk with
                | zero => exact absurd HA.out (by simp [pianolaref09_Wrong.l0])
                | succ k3 =>
                  have H := HA.out
                  clear HA
                  simp only [pianolaref09_Wrong.l0] at H
                  by_cases c12 : x9_3 ≤ a1
                  · rw [if_pos c12] at H
                    have c12b0 : decide (x9_3 ≤ a1) = true := decide_eq_true c12
                    clear c12
                    have H' := Aside0.mk H
                    clear H
                    go_wp2
                    go_loopg [10] k3 (fun kq v10 w' => ∃ (x10_4 : Int), v10 = .int .i64 x10_4 ∧ Aside0 (pianolaref09_Wrong.l1 kq a0 a1 l2 x9_3 x10_4 = some (r1, r2)) ∧ Aside0 (kq ≤ k3) ∧ Aside0 (Below w.heap.size w w'))
                    case atStart => exact ⟨(0), (by first | rfl | (simp; done) | (simp [*]; done)), H', ⟨Nat.le_refl _⟩, ⟨by repeat (first | (with_reducible first | exact HB.out | apply below_alloc | apply pw_below_drewN | apply below_drew1) | exact HB.out)⟩⟩
                    case round =>
                      clear H'
                      try clear c1
                      try clear c2
                      try clear p2
                      try clear c3
                      try clear c5
                      try clear c6
                      try clear c6b0
                      try clear c6b1
                      try clear p6
                      try clear c9
                      try clear c10
                      try clear c10b0
                      try clear c10b1
                      try clear c11
                      try clear c11b0
                      try clear c12
                      try clear c12b0
                      try clear p2
                      try clear p6
                      obtain ⟨x10_4, rfl, HA, HK4, HB⟩ := hrel
                      cases gk with
                      | zero => exact absurd HA.out (by simp [pianolaref09_Wrong.l1])
                      | succ k4 =>
                        have H := HA.out
                        clear HA
                        simp only [pianolaref09_Wrong.l1] at H
                        obtain ⟨ji13, hji13⟩ : ∃ j_ : Int, (shl .i64 1 (l2.length : Int)) = j_ := ⟨_, rfl⟩
                        replace H : (if x10_4 < (ji13) then ((pianolaref09_left.f k4 l2 x10_4).bind fun bt337 => (if (bt337.2.length : Int) = x9_3 then ((pianolaref09_agree.f k4 a0 bt337.1).bind fun t343 => (pianolaref09_Wrong.j4 k4 a0 a1 l2 x9_3 x10_4 bt337.2 (!t343))) else (pianolaref09_Wrong.j4 k4 a0 a1 l2 x9_3 x10_4 bt337.2 true))) else (pianolaref09_Wrong.l0 k4 a0 a1 l2 (wrap64 (x9_3 + 1)))) = some (r1, r2) := by first | (rw [hji13] at H; exact H) | (simp only [hji13] at H ⊢; exact H)
                        have hji13_ : (IntKind.i64.wrap (1 * 2 ^ min (l2.length : Int).toNat 64)) = ji13 := hji13
                        have hji13z : (l2.length : Int) ≤ 64 → (IntKind.i64.wrap (1 * 2 ^ (l2.length : Int).toNat)) = ji13 := shl_small hji13
                        have hji13p : (IntKind.i64.wrap (1 * 2 ^ min l2.length 64)) = ji13 := hji13_
                        have hji13q : (l2.length : Int) ≤ 64 → (IntKind.i64.wrap (1 * 2 ^ l2.length)) = ji13 := hji13z
                        have hji13r : (IntKind.i64.wrap (2 ^ min l2.length 64)) = ji13 := by have h_ := hji13p; rw [Int.one_mul] at h_; exact h_
                        have hji13s : (l2.length : Int) ≤ 64 → (IntKind.i64.wrap (2 ^ l2.length)) = ji13 := fun hle_ => by have h_ := hji13q hle_; rw [Int.one_mul] at h_; exact h_
                        have hji13u : (IntKind.i64.wrap (2 ^ min (l2.length : Int).toNat 64)) = ji13 := by have h_ := hji13_; rw [Int.one_mul] at h_; exact h_
                        have hji13v : (l2.length : Int) ≤ 64 → (IntKind.i64.wrap (2 ^ (l2.length : Int).toNat)) = ji13 := fun hle_ => by have h_ := hji13z hle_; rw [Int.one_mul] at h_; exact h_
                        have hji13y : (wrap64 (1 * 2 ^ min (l2.length : Int).toNat 64)) = ji13 := (i64_w _).symm.trans hji13_
                        have hji13x : (l2.length : Int) ≤ 64 → (wrap64 (1 * 2 ^ (l2.length : Int).toNat)) = ji13 := fun h_ => (i64_w _).symm.trans (hji13z h_)
                        by_cases c14 : x10_4 < (ji13)
                        · rw [if_pos c14] at H
                          have c14b0 : decide (x10_4 < (ji13)) = true := decide_eq_true c14
                          clear c14
                          replace H := Option.bind_eq_some_iff.mp H
                          obtain ⟨⟨t337, t338⟩, A150, H⟩ := H
                          replace H : (if (t338.length : Int) = x9_3 then ((pianolaref09_agree.f k4 a0 t337).bind fun t343 => (pianolaref09_Wrong.j4 k4 a0 a1 l2 x9_3 x10_4 t338 (!t343))) else (pianolaref09_Wrong.j4 k4 a0 a1 l2 x9_3 x10_4 t338 true)) = some (r1, r2) := H
                          have A15 := Aside0.mk A150
                          clear A150
                          have HC16 := Aside0.mk H
                          clear H
                          go_upto_region 15 with (first | ((with_reducible refine gate_callee (f := 70) rfl ?_); refine goesL_ (some 51) rfl rfl Try.func70 (by kernel_rfl) rfl #[.slice A2 l2.length c2, .int .i64 x10_4] rfl (by (try simp only [List.map_toArray, List.map_cons, List.map_nil]); first | done | rfl | (simp only [List.length_drop, List.length_take]; rfl)) ?_; (with_reducible refine (pianolaref09_left.calls k4 _ _ l2 x10_4 t337 t338 _ ?side1 ?side2 A15.out).mono ?_); (case side1 => repeat (first | exact (Kd.C_below HR2.out HB.out) | (with_reducible refine Kd.C_alloc ?_ _) | (with_reducible refine Kd.C_drewN ?_ _) | (with_reducible refine Kd.C_drew ?_))); (case side2 => exact HC2.out); rintro e w17 ⟨v339, v341, rfl, ho0, ho1, hb⟩; refine ⟨_, rfl, ?_⟩; have n0_ := Aside0.mk (Kd.R_lower ho0 (below_size (by repeat (first | (with_reducible first | exact HB.out | apply below_alloc | apply pw_below_drewN | apply below_drew1) | exact HB.out)))); have n1_ := Aside0.mk (Kd.R_lower ho1 (below_size (by repeat (first | (with_reducible first | exact HB.out | apply below_alloc | apply pw_below_drewN | apply below_drew1) | exact HB.out)))); have n2_ := Aside0.mk (below_step (by repeat (first | (with_reducible first | exact HB.out | apply below_alloc | apply pw_below_drewN | apply below_drew1) | exact HB.out)) hb); clear HB; have HO340 := n0_; have HO342 := n1_; have HB := n2_; clear n0_ n1_ n2_; (try clear hb); (try clear hb2); (try clear hk); (try clear hi); (try clear ho0); (try clear ho1)))
                          (try simp only [Act.put, List.setIfInBounds_toArray, List.set_cons_zero, List.set_cons_succ])
                          go_cut [63] (fun v63 wc => ∃ (kq : Nat) (x63_15 : Bool), v63 = .bool x63_15 ∧ Aside0 (pianolaref09_Wrong.j4 kq a0 a1 l2 x9_3 x10_4 t338 x63_15 = some (r1, r2)) ∧ Aside0 (kq ≤ k4) ∧ Aside0 (Kd.R k91 91 wc w.heap.size (fun _ => True) v341 t338) ∧ Aside0 (Below w.heap.size w wc))
                          case first =>
                            have H := HC16.out
                            clear HC16
                            by_cases c18 : (t338.length : Int) = x9_3
                            · rw [if_pos c18] at H
                              have c18b0 : ((t338.length : Int) == x9_3) = true := beq_iff_eq.mpr c18
                              have c18b1 : ((t338.length : Int) != x9_3) = false := bne_eq_false_iff_eq.mpr c18
                              clear c18
                              (first | rw [c18b0] | (simp only [i64_w, i32_w]; rw [c18b0]) | skip)
                              replace H := Option.bind_eq_some_iff.mp H
                              obtain ⟨t343, A190, H⟩ := H
                              replace H : (pianolaref09_Wrong.j4 k4 a0 a1 l2 x9_3 x10_4 t338 (!t343)) = some (r1, r2) := H
                              have A19 := Aside0.mk A190
                              clear A190
                              have H' := Aside0.mk H
                              clear H
                              obtain ⟨Ao20, co20, eo20⟩ := Kd.R_slice HO342.out
                              subst eo20
                              obtain ⟨Ao21, co21, eo21⟩ := Kd.R_slice HO340.out
                              subst eo21
                              go_wp2_with (first | (go_at_call 59; (with_reducible refine (pianolaref09_agree.calls k4 a0 _ _ t337 t343 _ ?side1 ?side2 A19.out).mono ?_); (case side1 => repeat (first | exact (Kd.R_reads' HO340.out).2.2 | (with_reducible refine Kd.C_alloc ?_ _) | (with_reducible refine Kd.C_drewN ?_ _) | (with_reducible refine Kd.C_drew ?_))); (case side2 => exact (Kd.R_reads' HO340.out).2.1); rintro e w22 ⟨rfl, hb⟩; have n0_ := Aside0.mk (Kd.R_below (by (with_reducible repeat (first | apply Kd.R_alloc | apply Kd.R_drewN | apply Kd.R_drew)); exact HO340.out) hb); have n1_ := Aside0.mk (Kd.R_below (by (with_reducible repeat (first | apply Kd.R_alloc | apply Kd.R_drewN | apply Kd.R_drew)); exact HO342.out) hb); have n2_ := Aside0.mk (below_step (by repeat (first | (with_reducible first | exact HB.out | apply below_alloc | apply pw_below_drewN | apply below_drew1) | exact HB.out)) hb); clear HO340; clear HO342; clear HB; have HO340 := n0_; have HO342 := n1_; have HB := n2_; clear n0_ n1_ n2_; (try clear hb); (try clear hb2); (try clear hk); (try clear hi)))
                              go_meet
                              case rel => exact ⟨_, (!t343), (by first | rfl | (simp; done) | (simp [*]; done)), H', ⟨by have := HJ4.out; have := HJ7.out; have := HK3.out; have := HK4.out; first | omega | exact Nat.le_refl _⟩, ⟨by (with_reducible repeat (first | apply Kd.R_alloc | apply Kd.R_drewN | apply Kd.R_drew)); exact Kd.R_mono HO342.out (fun _ hk => trivial)⟩, ⟨by repeat (first | (with_reducible first | exact HB.out | apply below_alloc | apply pw_below_drewN | apply below_drew1) | exact HB.out)⟩⟩
                            · rw [if_neg c18] at H
                              have c18b0 : ((t338.length : Int) == x9_3) = false := beq_eq_false_iff_ne.mpr c18
                              have c18b1 : ((t338.length : Int) != x9_3) = true := bne_iff_ne.mpr c18
                              (first | rw [c18b0] | (simp only [i64_w, i32_w]; rw [c18b0]) | skip)
                              have H' := Aside0.mk H
                              clear H
                              obtain ⟨Ao23, co23, eo23⟩ := Kd.R_slice HO342.out
                              subst eo23
                              go_wp2
                              go_meet
                              case rel => exact ⟨_, (true), (by first | rfl | (simp; done) | (simp [*]; done)), H', ⟨by have := HJ4.out; have := HJ7.out; have := HK3.out; have := HK4.out; first | omega | exact Nat.le_refl _⟩, ⟨by (with_reducible repeat (first | apply Kd.R_alloc | apply Kd.R_drewN | apply Kd.R_drew)); exact Kd.R_mono HO342.out (fun _ hk => trivial)⟩, ⟨by repeat (first | (with_reducible first | exact HB.out | apply below_alloc | apply pw_below_drewN | apply below_drew1) | exact HB.out)⟩⟩
                          case rest =>
                            clear HC16
                            try clear c1
                            try clear c2
                            try clear p2
                            try clear c3
                            try clear c5
                            try clear c6
                            try clear c6b0
                            try clear c6b1
                            try clear p6
                            try clear c7
                            try clear c9
                            try clear c10
                            try clear c10b0
                            try clear c10b1
                            try clear c11
                            try clear c11b0
                            try clear c12
                            try clear c12b0
                            try clear c14
                            try clear c14b0
                            try clear c18
                            try clear c18b0
                            try clear c18b1
                            try clear p2
                            try clear p6
                            obtain ⟨kq, x63_15, rfl, HA, HJ15, HO_12, HB⟩ := hcut
                            cases kq with
                            | zero => exact absurd HA.out (by simp [pianolaref09_Wrong.j4])
                            | succ kj15 =>
                              have H := HA.out
                              clear HA
                              simp only [pianolaref09_Wrong.j4] at H
                              by_cases c24 : x63_15 = true
                              · subst c24
                                have H1 : (pianolaref09_Wrong.l1 kj15 a0 a1 l2 x9_3 (wrap64 (x10_4 + 1))) = some (r1, r2) := by rw [if_pos rfl] at H; exact H
                                clear H
                                have H := H1
                                clear H1
                                have H' := Aside0.mk H
                                clear H
                                go_wp2
                                go_roundg kj15
                                case measure => have := HJ4.out; have := HJ7.out; have := HK3.out; have := HK4.out; have := HJ15.out; omega
                                case rel => exact ⟨(wrap64 (x10_4 + 1)), (by first | rfl | (simp; done) | (simp [*]; done)), H', ⟨by have := HJ4.out; have := HJ7.out; have := HK3.out; have := HK4.out; have := HJ15.out; omega⟩, ⟨by repeat (first | (with_reducible first | exact HB.out | apply below_alloc | apply pw_below_drewN | apply below_drew1) | exact HB.out)⟩⟩
                              · replace c24 := Bool.eq_false_iff.mpr c24
                                subst c24
                                have H1 : (pianolaref09_Wrong.l2 kj15 t338 ([] : List Int) 0) = some (r1, r2) := by rw [if_neg (show ¬ (false = true) by decide)] at H; exact H
                                clear H
                                have H := H1
                                clear H1
                                have H' := Aside0.mk H
                                clear H
                                go_wp2
                                go_loopg [13, 14] kj15 (fun kq v13 v14 w' => ∃ (x13_6 : List Int) (x14_6 : Int), v14 = .int .i64 x14_6 ∧ Aside0 (pianolaref09_Wrong.l2 kq t338 x13_6 x14_6 = some (r1, r2)) ∧ Aside0 (kq ≤ kj15) ∧ Aside0 (Kd.R k91 91 w' w.heap.size (fun _ => True) v341 t338) ∧ Aside0 (Kd.R (Kd.int .i64) 3 w' w.heap.size (fun _ => True) v13 x13_6) ∧ Aside0 (Below w.heap.size w w'))
                                case atStart => exact ⟨(([] : List Int)), (0), (by first | rfl | (simp; done) | (simp [*]; done)), H', ⟨Nat.le_refl _⟩, ⟨by (with_reducible repeat (first | apply Kd.R_alloc | apply Kd.R_drewN | apply Kd.R_drew)); exact HO_12.out⟩, ⟨by first | exact Kd.R_nil _ _ _ _ _ | exact Kd.N_nil _ _ _ _ _ | exact Kd.V_nil _ _ _ _ _ | exact Kd.Q_nil _ _ _ _ _ | exact Kd.S_nil _ _ _ _ _⟩, ⟨by repeat (first | (with_reducible first | exact HB.out | apply below_alloc | apply pw_below_drewN | apply below_drew1) | exact HB.out)⟩⟩
                                case round =>
                                  clear H'
                                  try clear c1
                                  try clear c2
                                  try clear p2
                                  try clear c3
                                  try clear c5
                                  try clear c6
                                  try clear c6b0
                                  try clear c6b1
                                  try clear p6
                                  try clear c7
                                  try clear c9
                                  try clear c10
                                  try clear c10b0
                                  try clear c10b1
                                  try clear c11
                                  try clear c11b0
                                  try clear c12
                                  try clear c12b0
                                  try clear c14
                                  try clear c14b0
                                  try clear c18
                                  try clear c18b0
                                  try clear c18b1
                                  try clear c24
                                  try clear p2
                                  try clear p6
                                  obtain ⟨x13_6, x14_6, rfl, HA, HK6, HO_12, HO_13, HB⟩ := hrel
                                  cases gk with
                                  | zero => exact absurd HA.out (by simp [pianolaref09_Wrong.l2])
                                  | succ k6 =>
                                    have H := HA.out
                                    clear HA
                                    simp only [pianolaref09_Wrong.l2] at H
                                    by_cases c25 : x14_6 < (t338.length : Int)
                                    · rw [if_pos c25] at H
                                      have c25b0 : decide (x14_6 < (t338.length : Int)) = true := decide_eq_true c25
                                      clear c25
                                      by_cases c26 : 0 ≤ x14_6
                                      · rw [if_pos c26] at H
                                        have c26b0 : decide (0 ≤ x14_6) = true := decide_eq_true c26
                                        clear c26
                                        by_cases c27 : x13_6.length < 17592186044416
                                        · rw [if_pos c27] at H
                                          have LMc27 := Aside0.mk c27
                                          clear c27
                                          obtain ⟨y345, hy345⟩ : ∃ y_ : List Int, y_ = (x13_6 ++ [(rd_T91 t338 x14_6).f0]) := ⟨_, rfl⟩
                                          replace H : (pianolaref09_Wrong.l3 k6 t338 y345 x14_6 (wrap64 ((y345.length : Int) - 1))) = some (r1, r2) := by first | (rw [hy345]; with_reducible exact H) | (have H2_ := (Option.bind_some _ _).symm.trans H; rw [hy345]; with_reducible exact H2_) | (have H2_ := (Option.bind_some _ _).symm.trans H; with_reducible exact H2_) | with_reducible exact H | (rw [hy345]; exact H) | exact H
                                          have Ny345 := Aside0.mk hy345
                                          clear hy345
                                          have H' := Aside0.mk H
                                          clear H
                                          obtain ⟨Ao28, co28, eo28⟩ := Kd.R_slice HO_12.out
                                          subst eo28
                                          have p344 : 0 ≤ (x14_6 : Int) := of_decide_eq_true (by first | (with_reducible assumption) | assumption)
                                          have q344 : x14_6 < (t338.length : Int) := of_decide_eq_true (by first | (with_reducible assumption) | assumption)
                                          obtain ⟨ad344, e344, hx344_0, hx344_1⟩ := at_T91 (Kd.R_reads' HO_12.out).2.2 x14_6 p344 q344
                                          cases e344
                                          replace p344 := eq_true p344
                                          replace q344 := eq_true q344
                                          go_wp2_with (first | ((with_reducible refine gate_builtin (b := .append) (xs := #[.tmp 70, .tmp 76]) rfl ?_); at_builtin; refine Kd.R_append (Kd.int .i64) (w0 := w) w.heap.size rfl (.tmp 70) (.tmp 76) 22 3 (.int .i64 0) 8 rfl Try.underlying22 info3 rfl (by decide) (by omega) u13 x13_6 ((rd_T91 t338 x14_6).f0) [.int .i64 ((rd_T91 t338 x14_6).f0)] (fun _ => True) (fun _ => False) rfl rfl ?aP (fun _ hk => hk.elim) ?aF ?aO ?aB ?aS ?aL ?_; (case aP => exact rfl); (case aB => exact (by repeat (first | (with_reducible first | exact HB.out | apply below_alloc | apply pw_below_drewN | apply below_drew1) | exact HB.out))); (case aF => exact (fun _ _ => trivial)); (case aO => exact (by (with_reducible repeat (first | apply Kd.R_alloc | apply Kd.R_drewN | apply Kd.R_drew)); exact HO_13.out)); (case aS => exact (below_size (by repeat (first | (with_reducible first | exact HB.out | apply below_alloc | apply pw_below_drewN | apply below_drew1) | exact HB.out)))); (case aL => have := LMc27.out; omega); intro v346 w29 ho hb hg hat; rw [← Ny345.out] at ho; have n0_ := Aside0.mk (Kd.R_over' (by (with_reducible repeat (first | apply Kd.R_alloc | apply Kd.R_drewN | apply Kd.R_drew)); exact HO_12.out) (Kd.R_typed (by (with_reducible repeat (first | apply Kd.R_alloc | apply Kd.R_drewN | apply Kd.R_drew)); exact HO_13.out)) (by decide) hg); have n1_ := Aside0.mk (hb); have n2_ := Aside0.mk (ho); clear HO_12; clear HB; clear HO_13; have HO_12 := n0_; have HB := n1_; have HO347 := n2_; clear n0_ n1_ n2_; clear ho hb hg hat; obtain ⟨Ao30, co30, eo30⟩ := Kd.R_slice HO347.out; subst eo30))
                                          go_loopg [15] k6 (fun kq v15 w' => ∃ (x13_7 : List Int) (x15_7 : Int), v15 = .int .i64 x15_7 ∧ Aside0 (pianolaref09_Wrong.l3 kq t338 x13_7 x14_6 x15_7 = some (r1, r2)) ∧ Aside0 (kq ≤ k6) ∧ Aside0 (Kd.R k91 91 w' w.heap.size (fun _ => True) (.slice (some ad344) t338.length co28) t338) ∧ Aside0 (Kd.R (Kd.int .i64) 3 w' w.heap.size (fun _ => True) (.slice Ao30 y345.length co30) x13_7) ∧ Aside0 (Below w.heap.size w w'))
                                          case atStart => exact ⟨(y345), (wrap64 ((y345.length : Int) - 1)), (by first | rfl | (simp; done) | (simp [*]; done)), H', ⟨Nat.le_refl _⟩, ⟨by (with_reducible repeat (first | apply Kd.R_alloc | apply Kd.R_drewN | apply Kd.R_drew)); exact HO_12.out⟩, ⟨by (with_reducible repeat (first | apply Kd.R_alloc | apply Kd.R_drewN | apply Kd.R_drew)); exact HO347.out⟩, ⟨by repeat (first | (with_reducible first | exact HB.out | apply below_alloc | apply pw_below_drewN | apply below_drew1) | exact HB.out)⟩⟩
                                          case round =>
                                            clear H'
                                            try clear c1
                                            try clear c2
                                            try clear p2
                                            try clear c3
                                            try clear p3
                                            try clear q3
                                            try clear hx3
                                            try clear c5
                                            try clear c6
                                            try clear c6b0
                                            try clear c6b1
                                            try clear p6
                                            try clear c7
                                            try clear c9
                                            try clear c10
                                            try clear c10b0
                                            try clear c10b1
                                            try clear c11
                                            try clear c11b0
                                            try clear c12
                                            try clear c12b0
                                            try clear c14
                                            try clear c14b0
                                            try clear c18
                                            try clear c18b0
                                            try clear c18b1
                                            try clear c24
                                            try clear c25
                                            try clear c25b0
                                            try clear c26
                                            try clear c26b0
                                            try clear c27
                                            try clear hx344_0
                                            try clear hx344_1
                                            try clear p2
                                            try clear p344
                                            try clear p6
                                            try clear q344
                                            obtain ⟨x13_7, x15_7, rfl, HA, HK7, HO_12, HO_13, HB⟩ := hrel
                                            have hl13_7 := (Kd.R_reads' HO_13.out).1
                                            rw [hl13_7] at HO_13
                                            (try simp only [hl13_7])
                                            (try simp only [hl13_7] at HO_12)
                                            cases gk with
                                            | zero => exact absurd HA.out (by simp [pianolaref09_Wrong.l3])
                                            | succ k7 =>
                                              have H := HA.out
                                              clear HA
                                              simp only [pianolaref09_Wrong.l3] at H
                                              by_cases c31 : x15_7 > 0
                                              · rw [if_pos c31] at H
                                                have c31b0 : decide (0 < x15_7) = true := decide_eq_true c31
                                                clear c31
                                                by_cases c32 : 0 ≤ x15_7
                                                · rw [if_pos c32] at H
                                                  have c32b0 : decide (0 ≤ x15_7) = true := decide_eq_true c32
                                                  clear c32
                                                  by_cases c33 : x15_7 < (x13_7.length : Int)
                                                  · rw [if_pos c33] at H
                                                    have c33b0 : decide (x15_7 < (x13_7.length : Int)) = true := decide_eq_true c33
                                                    clear c33
                                                    obtain ⟨ji34, hji34⟩ : ∃ j_ : Int, (wrap64 (x15_7 - 1)) = j_ := ⟨_, rfl⟩
                                                    replace H : (if 0 ≤ (ji34) then (if (ji34) < (x13_7.length : Int) then (if (rd x13_7 x15_7) < (rd x13_7 (ji34)) then (pianolaref09_Wrong.l3 k7 t338 ((x13_7.set (x15_7 : Int).toNat (rd x13_7 (ji34))).set ((ji34) : Int).toNat (rd x13_7 x15_7)) x14_6 ji34) else (pianolaref09_Wrong.l2 k7 t338 x13_7 (wrap64 (x14_6 + 1)))) else (none)) else (none)) = some (r1, r2) := by first | (rw [hji34] at H; exact H) | (simp only [hji34] at H ⊢; exact H)
                                                    have hji34w : (IntKind.i64.wrap (x15_7 - 1)) = ji34 := (i64_w _).trans hji34
                                                    by_cases c35 : 0 ≤ (ji34)
                                                    · rw [if_pos c35] at H
                                                      have c35b0 : decide (0 ≤ (ji34)) = true := decide_eq_true c35
                                                      clear c35
                                                      by_cases c36 : (ji34) < (x13_7.length : Int)
                                                      · rw [if_pos c36] at H
                                                        have c36b0 : decide ((ji34) < (x13_7.length : Int)) = true := decide_eq_true c36
                                                        clear c36
                                                        by_cases c37 : (rd x13_7 x15_7) < (rd x13_7 (ji34))
                                                        · rw [if_pos c37] at H
                                                          have c37b0 : decide ((rd x13_7 x15_7) < (rd x13_7 (ji34))) = true := decide_eq_true c37
                                                          clear c37
                                                          obtain ⟨y352, hy352⟩ : ∃ y_ : List Int, y_ = (x13_7.set (x15_7 : Int).toNat (rd x13_7 (ji34))) := ⟨_, rfl⟩
                                                          replace H : (pianolaref09_Wrong.l3 k7 t338 (y352.set ((ji34) : Int).toNat (rd x13_7 x15_7)) x14_6 ji34) = some (r1, r2) := by first | (rw [hy352]; with_reducible exact H) | (have H2_ := (Option.bind_some _ _).symm.trans H; rw [hy352]; with_reducible exact H2_) | (have H2_ := (Option.bind_some _ _).symm.trans H; with_reducible exact H2_) | with_reducible exact H | (rw [hy352]; exact H) | exact H
                                                          have Ny352 := Aside0.mk hy352
                                                          clear hy352
                                                          obtain ⟨y353, hy353⟩ : ∃ y_ : List Int, y_ = (y352.set ((ji34) : Int).toNat (rd x13_7 x15_7)) := ⟨_, rfl⟩
                                                          replace H : (pianolaref09_Wrong.l3 k7 t338 y353 x14_6 ji34) = some (r1, r2) := by first | (rw [hy353]; with_reducible exact H) | (have H2_ := (Option.bind_some _ _).symm.trans H; rw [hy353]; with_reducible exact H2_) | (have H2_ := (Option.bind_some _ _).symm.trans H; with_reducible exact H2_) | with_reducible exact H | (rw [hy353]; exact H) | exact H
                                                          have Ny353 := Aside0.mk hy353
                                                          clear hy353
                                                          have H' := Aside0.mk H
                                                          clear H
                                                          try go_wp2
                                                          have n0_ := Aside0.mk (Kd.R_drew HO_12.out)
                                                          have n1_ := Aside0.mk (Kd.R_drew HO_13.out)
                                                          have n2_ := Aside0.mk (below_drew1 HB.out)
                                                          clear HO_12
                                                          clear HO_13
                                                          clear HB
                                                          have HO_12 := n0_
                                                          have HO_13 := n1_
                                                          have HB := n2_
                                                          clear n0_ n1_ n2_
                                                          have p348 : 0 ≤ (x15_7 : Int) := of_decide_eq_true (by first | (with_reducible assumption) | assumption)
                                                          have q348 : x15_7 < (x13_7.length : Int) := of_decide_eq_true (by first | (with_reducible assumption) | assumption)
                                                          obtain ⟨ad348, e348, hx348_0⟩ := Kd.at_int (Kd.R_reads' HO_13.out).2.2 x15_7 p348 q348
                                                          cases e348
                                                          replace p348 := eq_true p348
                                                          replace q348 := eq_true q348
                                                          have p349 : 0 ≤ ((ji34) : Int) := of_decide_eq_true (by first | (with_reducible assumption) | assumption)
                                                          have q349 : (ji34) < (x13_7.length : Int) := of_decide_eq_true (by first | (with_reducible assumption) | assumption)
                                                          obtain ⟨ad349, e349, hx349_0⟩ := Kd.at_int (Kd.R_reads' HO_13.out).2.2 (ji34) p349 q349
                                                          obtain rfl : ad348 = ad349 := (by injection e349)
                                                          replace p349 := eq_true p349
                                                          replace q349 := eq_true q349
                                                          refine start_ (n := 14) (S := fun w' => w'.cell? (ad348.add (x15_7).toNat) = some (.int .i64 (rd x13_7 x15_7)) ∧ w'.cell? (ad348.add ((ji34)).toNat) = some (.int .i64 (rd x13_7 (ji34)))) (ds := []) #[false, false, false, false, false, false, false, false, false, false, false, false, false, false] (by kernel_rfl) rfl rfl ⟨hx348_0, hx349_0⟩ (fun hHeld => ?_); refine with_tabW pianolaref09_Wrong.tab22 pianolaref09_Wrong.bits22 (fun HT_ HW_ => ?_)
                                                          generalize wr.drew = w40 at HO_12 HO_13 HB hx348_0 hx349_0 hHeld ⊢
                                                          refine pure_ (i := 0) (N := some 81) (v := ?_) (a' := ?_) #[true, false, false, false, false, false, false, false, false, false, false, false, false, false] rfl rfl (any_of HT_.out (by kernel_rfl)) (fun _ _ _ h => h) (Or.inl ⟨by rfl, ?_⟩) ?_ ?_
                                                          rotate_left
                                                          · intro w'
                                                            go_simp
                                                            with_reducible rfl
                                                          rotate_left
                                                          · simp only [Act.put, List.setIfInBounds_toArray, List.set_cons_zero, List.set_cons_succ, i64_w, i32_w]
                                                            rfl
                                                          refine pure_ (i := 1) (N := some 82) (v := ?_) (a' := ?_) #[true, true, false, false, false, false, false, false, false, false, false, false, false, false] rfl rfl (any_of HT_.out (by kernel_rfl)) (fun _ _ _ h => h) (Or.inl ⟨by rfl, ?_⟩) ?_ ?_
                                                          rotate_left
                                                          · intro w'
                                                            go_simp
                                                            with_reducible rfl
                                                          rotate_left
                                                          · simp only [Act.put, List.setIfInBounds_toArray, List.set_cons_zero, List.set_cons_succ, i64_w, i32_w]
                                                            rfl
                                                          refine pure_ (i := 2) (N := some 83) (v := ?_) (a' := ?_) #[true, true, true, false, false, false, false, false, false, false, false, false, false, false] rfl rfl (any_of HT_.out (by kernel_rfl)) (fun _ _ _ h => h) (Or.inl ⟨by rfl, ?_⟩) ?_ ?_
                                                          rotate_left
                                                          · intro w'
                                                            go_simp
                                                            with_reducible rfl
                                                          rotate_left
                                                          · simp only [Act.put, List.setIfInBounds_toArray, List.set_cons_zero, List.set_cons_succ, i64_w, i32_w]
                                                            rfl
                                                          refine pure_ (i := 3) (N := some 84) (v := ?_) (a' := ?_) #[true, true, true, true, false, false, false, false, false, false, false, false, false, false] rfl rfl (any_of HT_.out (by kernel_rfl)) (fun _ _ _ h => h) (Or.inl ⟨by rfl, ?_⟩) ?_ ?_
                                                          rotate_left
                                                          · intro w'
                                                            go_simp
                                                            with_reducible rfl
                                                          rotate_left
                                                          · simp only [Act.put, List.setIfInBounds_toArray, List.set_cons_zero, List.set_cons_succ, i64_w, i32_w]
                                                            rfl
                                                          refine pure_ (i := 4) (N := some 85) (v := ?_) (a' := ?_) #[true, true, true, true, true, false, false, false, false, false, false, false, false, false] rfl rfl (any_of HT_.out (by kernel_rfl)) (fun _ _ _ h => h) (Or.inl ⟨by rfl, ?_⟩) ?_ ?_
                                                          rotate_left
                                                          · intro w'
                                                            go_simp
                                                            with_reducible rfl
                                                          rotate_left
                                                          · simp only [Act.put, List.setIfInBounds_toArray, List.set_cons_zero, List.set_cons_succ, i64_w, i32_w]
                                                            rfl
                                                          refine pure_ (i := 5) (N := some 86) (v := ?_) (a' := ?_) #[true, true, true, true, true, true, false, false, false, false, false, false, false, false] rfl rfl (any_of HT_.out (by kernel_rfl)) (fun _ _ _ h => h) (Or.inl ⟨by rfl, ?_⟩) ?_ ?_
                                                          rotate_left
                                                          · intro w'
                                                            go_simp
                                                            with_reducible rfl
                                                          rotate_left
                                                          · simp only [Act.put, List.setIfInBounds_toArray, List.set_cons_zero, List.set_cons_succ, i64_w, i32_w]
                                                            rfl
                                                          refine pure_ (i := 7) (N := some 88) (v := ?_) (a' := ?_) #[true, true, true, true, true, true, false, true, false, false, false, false, false, false] rfl rfl (any_of HT_.out (by kernel_rfl)) (fun _ _ _ h => h) (Or.inl ⟨by rfl, ?_⟩) ?_ ?_
                                                          rotate_left
                                                          · intro w'
                                                            go_simp
                                                            with_reducible rfl
                                                          rotate_left
                                                          · simp only [Act.put, List.setIfInBounds_toArray, List.set_cons_zero, List.set_cons_succ, i64_w, i32_w]
                                                            rfl
                                                          refine pure_ (i := 8) (N := some 89) (v := ?_) (a' := ?_) #[true, true, true, true, true, true, false, true, true, false, false, false, false, false] rfl rfl (any_of HT_.out (by kernel_rfl)) (fun _ _ _ h => h) (Or.inl ⟨by rfl, ?_⟩) ?_ ?_
                                                          rotate_left
                                                          · intro w'
                                                            go_simp
                                                            with_reducible rfl
                                                          rotate_left
                                                          · simp only [Act.put, List.setIfInBounds_toArray, List.set_cons_zero, List.set_cons_succ, i64_w, i32_w]
                                                            rfl
                                                          refine pure_ (i := 9) (N := some 90) (v := ?_) (a' := ?_) #[true, true, true, true, true, true, false, true, true, true, false, false, false, false] rfl rfl (any_of HT_.out (by kernel_rfl)) (fun _ _ _ h => h) (Or.inl ⟨by rfl, ?_⟩) ?_ ?_
                                                          rotate_left
                                                          · intro w'
                                                            go_simp
                                                            with_reducible rfl
                                                          rotate_left
                                                          · simp only [Act.put, List.setIfInBounds_toArray, List.set_cons_zero, List.set_cons_succ, i64_w, i32_w]
                                                            rfl
                                                          refine pure_ (i := 10) (N := some 91) (v := ?_) (a' := ?_) #[true, true, true, true, true, true, false, true, true, true, true, false, false, false] rfl rfl (any_of HT_.out (by kernel_rfl)) (fun _ _ _ h => h) (Or.inl ⟨by rfl, ?_⟩) ?_ ?_
                                                          rotate_left
                                                          · intro w'
                                                            go_simp
                                                            with_reducible rfl
                                                          rotate_left
                                                          · simp only [Act.put, List.setIfInBounds_toArray, List.set_cons_zero, List.set_cons_succ, i64_w, i32_w]
                                                            rfl
                                                          refine take_ (i := 6) (N := some 87) (v := ?_) (a' := ?_) #[true, true, true, true, true, true, true, true, true, true, true, false, false, false] rfl rfl (take_ofW HT_.out HW_.out (by kernel_rfl)) (fun _ _ _ h => h) (Or.inl ⟨by rfl, ?_⟩) hHeld ?_ ?_
                                                          rotate_left
                                                          · rintro w' ⟨s0, s1⟩
                                                            go_simp
                                                            with_reducible rfl
                                                          rotate_left
                                                          · simp only [Act.put, List.setIfInBounds_toArray, List.set_cons_zero, List.set_cons_succ, i64_w, i32_w]
                                                            rfl
                                                          refine take_ (i := 11) (N := some 92) (v := ?_) (a' := ?_) #[true, true, true, true, true, true, true, true, true, true, true, true, false, false] rfl rfl (take_ofW HT_.out HW_.out (by kernel_rfl)) (fun _ _ _ h => h) (Or.inl ⟨by rfl, ?_⟩) hHeld ?_ ?_
                                                          rotate_left
                                                          · rintro w' ⟨s0, s1⟩
                                                            go_simp
                                                            with_reducible rfl
                                                          rotate_left
                                                          · simp only [Act.put, List.setIfInBounds_toArray, List.set_cons_zero, List.set_cons_succ, i64_w, i32_w]
                                                            rfl
                                                          refine pure_ (i := 12) (N := some 93) (v := ?_) (a' := ?_) #[true, true, true, true, true, true, true, true, true, true, true, true, true, false] rfl rfl (any_of HT_.out (by kernel_rfl)) (fun _ _ _ h => h) (Or.inl ⟨by rfl, ?_⟩) ?_ ?_
                                                          rotate_left
                                                          · intro w'
                                                            go_simp
                                                            with_reducible rfl
                                                          rotate_left
                                                          · simp only [Act.put, List.setIfInBounds_toArray, List.set_cons_zero, List.set_cons_succ, i64_w, i32_w]
                                                            rfl
                                                          refine pure_ (i := 13) (N := some 94) (v := ?_) (a' := ?_) #[true, true, true, true, true, true, true, true, true, true, true, true, true, true] rfl rfl (any_of HT_.out (by kernel_rfl)) (fun _ _ _ h => h) (Or.inl ⟨by rfl, ?_⟩) ?_ ?_
                                                          rotate_left
                                                          · intro w'
                                                            go_simp
                                                            with_reducible rfl
                                                          rotate_left
                                                          · simp only [Act.put, List.setIfInBounds_toArray, List.set_cons_zero, List.set_cons_succ, i64_w, i32_w]
                                                            rfl
                                                          refine done_ (done_of HT_.out (by kernel_rfl)) ?_
                                                          try go_wp2
                                                          have n0_ := Aside0.mk (Kd.R_drew HO_12.out)
                                                          have n1_ := Aside0.mk (Kd.R_drew HO_13.out)
                                                          have n2_ := Aside0.mk (below_drew1 HB.out)
                                                          clear HO_12
                                                          clear HO_13
                                                          clear HB
                                                          have HO_12 := n0_
                                                          have HO_13 := n1_
                                                          have HB := n2_
                                                          clear n0_ n1_ n2_
                                                          have p350 : 0 ≤ ((ji34) : Int) := of_decide_eq_true (by first | (with_reducible assumption) | assumption)
                                                          have q350 : (ji34) < (x13_7.length : Int) := of_decide_eq_true (by first | (with_reducible assumption) | assumption)
                                                          obtain ⟨ad350, e350, hx350_0⟩ := Kd.at_int (Kd.R_reads' HO_13.out).2.2 (ji34) p350 q350
                                                          obtain rfl : ad348 = ad350 := (by injection e350)
                                                          replace p350 := eq_true p350
                                                          replace q350 := eq_true q350
                                                          have p351 : 0 ≤ (x15_7 : Int) := of_decide_eq_true (by first | (with_reducible assumption) | assumption)
                                                          have q351 : x15_7 < (x13_7.length : Int) := of_decide_eq_true (by first | (with_reducible assumption) | assumption)
                                                          obtain ⟨ad351, e351, hx351_0⟩ := Kd.at_int (Kd.R_reads' HO_13.out).2.2 x15_7 p351 q351
                                                          obtain rfl : ad348 = ad351 := (by injection e351)
                                                          replace p351 := eq_true p351
                                                          replace q351 := eq_true q351
                                                          have p38 : 0 ≤ (x15_7 : Int) := of_decide_eq_true (by first | (with_reducible assumption) | assumption)
                                                          have q38 : (x15_7 : Int) < ((x13_7.length : Int) : Int) := of_decide_eq_true (by first | (with_reducible assumption) | assumption)
                                                          obtain ⟨go38, co38, eo38, gb38, gl38, cl38, HG38⟩ := Kd.R_form HO_13.out (by omega)
                                                          (first | cases eo38 | (injection eo38 with ea_ en_ ec_; (first | subst ea_ | (injection ea_ with ea_; subst ea_)); subst ec_; clear en_))
                                                          have GB38 := Aside0.mk gb38
                                                          have GG38 := Aside0.mk HG38
                                                          clear gb38 gl38 HG38
                                                          (first | simp only [add_plain] at hx348_0 | skip)
                                                          (first | simp only [add_plain] at hx349_0 | skip)
                                                          (first | simp only [add_plain] at hx350_0 | skip)
                                                          (first | simp only [add_plain] at hx351_0 | skip)
                                                          obtain ⟨hx38_0, hf38_0⟩ := Kd.R_celln 0 HO_13.out (x15_7 : Int) p38 q38
                                                          replace p38 := eq_true p38
                                                          replace q38 := eq_true q38
                                                          have HP42 := Kd.R_putn HO_13.out (x15_7 : Int) (rd x13_7 (ji34))
                                                          rw [← Ny352.out] at HP42
                                                          have HQ42 := Aside0.mk HP42
                                                          clear HP42
                                                          have p39 : 0 ≤ ((ji34) : Int) := of_decide_eq_true (by first | (with_reducible assumption) | assumption)
                                                          have q39 : ((ji34) : Int) < ((x13_7.length : Int) : Int) := of_decide_eq_true (by first | (with_reducible assumption) | assumption)
                                                          obtain ⟨hx39_0, hf39_0⟩ := Kd.R_celln 0 HQ42.out ((ji34) : Int) p39 q39
                                                          replace p39 := eq_true p39
                                                          replace q39 := eq_true q39
                                                          have HP43 := Kd.R_putn HQ42.out ((ji34) : Int) (rd x13_7 x15_7)
                                                          rw [← Ny353.out] at HP43
                                                          have HQ43 := Aside0.mk HP43
                                                          clear HP43
                                                          refine start_ (n := 18) (S := fun w' => w'.cell? ⟨go38, ((ji34)).toNat, none⟩ = some (.int .i64 (rd x13_7 (ji34))) ∧ w'.cell? ⟨go38, (x15_7).toNat, none⟩ = some (.int .i64 (rd x13_7 x15_7))) (ds := [15, 17]) #[false, false, false, false, false, false, false, false, false, false, false, false, false, false, false, false, false, false] (by kernel_rfl) rfl rfl ⟨hx350_0, hx351_0⟩ (fun hHeld => ?_); refine with_tabW pianolaref09_Wrong.tab24 pianolaref09_Wrong.bits24 (fun HT_ HW_ => ?_)
                                                          generalize w40.drew = w41 at HO_12 HO_13 HB GG38 HQ42 HQ43 hf38_0 hf39_0 hx348_0 hx349_0 hx350_0 hx351_0 hx38_0 hx39_0 hHeld ⊢
                                                          refine pure_ (i := 0) (N := some 97) (v := ?_) (a' := ?_) #[true, false, false, false, false, false, false, false, false, false, false, false, false, false, false, false, false, false] rfl rfl (any_of HT_.out (by kernel_rfl)) (fun _ _ _ h => h) (Or.inl ⟨by rfl, ?_⟩) ?_ ?_
                                                          rotate_left
                                                          · intro w'
                                                            go_simp
                                                            with_reducible rfl
                                                          rotate_left
                                                          · simp only [Act.put, List.setIfInBounds_toArray, List.set_cons_zero, List.set_cons_succ, i64_w, i32_w]
                                                            rfl
                                                          refine pure_ (i := 1) (N := some 98) (v := ?_) (a' := ?_) #[true, true, false, false, false, false, false, false, false, false, false, false, false, false, false, false, false, false] rfl rfl (any_of HT_.out (by kernel_rfl)) (fun _ _ _ h => h) (Or.inl ⟨by rfl, ?_⟩) ?_ ?_
                                                          rotate_left
                                                          · intro w'
                                                            go_simp
                                                            with_reducible rfl
                                                          rotate_left
                                                          · simp only [Act.put, List.setIfInBounds_toArray, List.set_cons_zero, List.set_cons_succ, i64_w, i32_w]
                                                            rfl
                                                          refine pure_ (i := 2) (N := some 99) (v := ?_) (a' := ?_) #[true, true, true, false, false, false, false, false, false, false, false, false, false, false, false, false, false, false] rfl rfl (any_of HT_.out (by kernel_rfl)) (fun _ _ _ h => h) (Or.inl ⟨by rfl, ?_⟩) ?_ ?_
                                                          rotate_left
                                                          · intro w'
                                                            go_simp
                                                            with_reducible rfl
                                                          rotate_left
                                                          · simp only [Act.put, List.setIfInBounds_toArray, List.set_cons_zero, List.set_cons_succ, i64_w, i32_w]
                                                            rfl
                                                          refine pure_ (i := 3) (N := some 100) (v := ?_) (a' := ?_) #[true, true, true, true, false, false, false, false, false, false, false, false, false, false, false, false, false, false] rfl rfl (any_of HT_.out (by kernel_rfl)) (fun _ _ _ h => h) (Or.inl ⟨by rfl, ?_⟩) ?_ ?_
                                                          rotate_left
                                                          · intro w'
                                                            go_simp
                                                            with_reducible rfl
                                                          rotate_left
                                                          · simp only [Act.put, List.setIfInBounds_toArray, List.set_cons_zero, List.set_cons_succ, i64_w, i32_w]
                                                            rfl
                                                          refine pure_ (i := 4) (N := some 101) (v := ?_) (a' := ?_) #[true, true, true, true, true, false, false, false, false, false, false, false, false, false, false, false, false, false] rfl rfl (any_of HT_.out (by kernel_rfl)) (fun _ _ _ h => h) (Or.inl ⟨by rfl, ?_⟩) ?_ ?_
                                                          rotate_left
                                                          · intro w'
                                                            go_simp
                                                            with_reducible rfl
                                                          rotate_left
                                                          · simp only [Act.put, List.setIfInBounds_toArray, List.set_cons_zero, List.set_cons_succ, i64_w, i32_w]
                                                            rfl
                                                          refine pure_ (i := 5) (N := some 102) (v := ?_) (a' := ?_) #[true, true, true, true, true, true, false, false, false, false, false, false, false, false, false, false, false, false] rfl rfl (any_of HT_.out (by kernel_rfl)) (fun _ _ _ h => h) (Or.inl ⟨by rfl, ?_⟩) ?_ ?_
                                                          rotate_left
                                                          · intro w'
                                                            go_simp
                                                            with_reducible rfl
                                                          rotate_left
                                                          · simp only [Act.put, List.setIfInBounds_toArray, List.set_cons_zero, List.set_cons_succ, i64_w, i32_w]
                                                            rfl
                                                          refine pure_ (i := 6) (N := some 103) (v := ?_) (a' := ?_) #[true, true, true, true, true, true, true, false, false, false, false, false, false, false, false, false, false, false] rfl rfl (any_of HT_.out (by kernel_rfl)) (fun _ _ _ h => h) (Or.inl ⟨by rfl, ?_⟩) ?_ ?_
                                                          rotate_left
                                                          · intro w'
                                                            go_simp
                                                            with_reducible rfl
                                                          rotate_left
                                                          · simp only [Act.put, List.setIfInBounds_toArray, List.set_cons_zero, List.set_cons_succ, i64_w, i32_w]
                                                            rfl
                                                          refine pure_ (i := 7) (N := some 104) (v := ?_) (a' := ?_) #[true, true, true, true, true, true, true, true, false, false, false, false, false, false, false, false, false, false] rfl rfl (any_of HT_.out (by kernel_rfl)) (fun _ _ _ h => h) (Or.inl ⟨by rfl, ?_⟩) ?_ ?_
                                                          rotate_left
                                                          · intro w'
                                                            go_simp
                                                            with_reducible rfl
                                                          rotate_left
                                                          · simp only [Act.put, List.setIfInBounds_toArray, List.set_cons_zero, List.set_cons_succ, i64_w, i32_w]
                                                            rfl
                                                          refine pure_ (i := 8) (N := some 105) (v := ?_) (a' := ?_) #[true, true, true, true, true, true, true, true, true, false, false, false, false, false, false, false, false, false] rfl rfl (any_of HT_.out (by kernel_rfl)) (fun _ _ _ h => h) (Or.inl ⟨by rfl, ?_⟩) ?_ ?_
                                                          rotate_left
                                                          · intro w'
                                                            go_simp
                                                            with_reducible rfl
                                                          rotate_left
                                                          · simp only [Act.put, List.setIfInBounds_toArray, List.set_cons_zero, List.set_cons_succ, i64_w, i32_w]
                                                            rfl
                                                          refine pure_ (i := 10) (N := some 107) (v := ?_) (a' := ?_) #[true, true, true, true, true, true, true, true, true, false, true, false, false, false, false, false, false, false] rfl rfl (any_of HT_.out (by kernel_rfl)) (fun _ _ _ h => h) (Or.inl ⟨by rfl, ?_⟩) ?_ ?_
                                                          rotate_left
                                                          · intro w'
                                                            go_simp
                                                            with_reducible rfl
                                                          rotate_left
                                                          · simp only [Act.put, List.setIfInBounds_toArray, List.set_cons_zero, List.set_cons_succ, i64_w, i32_w]
                                                            rfl
                                                          refine pure_ (i := 11) (N := some 108) (v := ?_) (a' := ?_) #[true, true, true, true, true, true, true, true, true, false, true, true, false, false, false, false, false, false] rfl rfl (any_of HT_.out (by kernel_rfl)) (fun _ _ _ h => h) (Or.inl ⟨by rfl, ?_⟩) ?_ ?_
                                                          rotate_left
                                                          · intro w'
                                                            go_simp
                                                            with_reducible rfl
                                                          rotate_left
                                                          · simp only [Act.put, List.setIfInBounds_toArray, List.set_cons_zero, List.set_cons_succ, i64_w, i32_w]
                                                            rfl
                                                          refine pure_ (i := 12) (N := some 109) (v := ?_) (a' := ?_) #[true, true, true, true, true, true, true, true, true, false, true, true, true, false, false, false, false, false] rfl rfl (any_of HT_.out (by kernel_rfl)) (fun _ _ _ h => h) (Or.inl ⟨by rfl, ?_⟩) ?_ ?_
                                                          rotate_left
                                                          · intro w'
                                                            go_simp
                                                            with_reducible rfl
                                                          rotate_left
                                                          · simp only [Act.put, List.setIfInBounds_toArray, List.set_cons_zero, List.set_cons_succ, i64_w, i32_w]
                                                            rfl
                                                          refine take_ (i := 9) (N := some 106) (v := ?_) (a' := ?_) #[true, true, true, true, true, true, true, true, true, true, true, true, true, false, false, false, false, false] rfl rfl (take_ofW HT_.out HW_.out (by kernel_rfl)) (fun _ _ _ h => h) (Or.inl ⟨by rfl, ?_⟩) hHeld ?_ ?_
                                                          rotate_left
                                                          · rintro w' ⟨s0, s1⟩
                                                            go_simp
                                                            with_reducible rfl
                                                          rotate_left
                                                          · simp only [Act.put, List.setIfInBounds_toArray, List.set_cons_zero, List.set_cons_succ, i64_w, i32_w]
                                                            rfl
                                                          refine take_ (i := 13) (N := some 110) (v := ?_) (a' := ?_) #[true, true, true, true, true, true, true, true, true, true, true, true, true, true, false, false, false, false] rfl rfl (take_ofW HT_.out HW_.out (by kernel_rfl)) (fun _ _ _ h => h) (Or.inl ⟨by rfl, ?_⟩) hHeld ?_ ?_
                                                          rotate_left
                                                          · rintro w' ⟨s0, s1⟩
                                                            go_simp
                                                            with_reducible rfl
                                                          rotate_left
                                                          · simp only [Act.put, List.setIfInBounds_toArray, List.set_cons_zero, List.set_cons_succ, i64_w, i32_w]
                                                            rfl
                                                          refine pure_ (i := 14) (N := some 111) (v := ?_) (a' := ?_) #[true, true, true, true, true, true, true, true, true, true, true, true, true, true, true, false, false, false] rfl rfl (any_of HT_.out (by kernel_rfl)) (fun _ _ _ h => h) (Or.inl ⟨by rfl, ?_⟩) ?_ ?_
                                                          rotate_left
                                                          · intro w'
                                                            go_simp
                                                            with_reducible rfl
                                                          rotate_left
                                                          · simp only [Act.put, List.setIfInBounds_toArray, List.set_cons_zero, List.set_cons_succ, i64_w, i32_w]
                                                            rfl
                                                          refine last_ (i := 15) (N := none) #[true, true, true, true, true, true, true, true, true, true, true, true, true, true, true, true, false, false] rfl rfl (one_of HT_.out (by kernel_rfl)) (by decide) (fun K hK => ?_)
                                                          refine skip_ (w1 := ?_) (by rfl) rfl ?_ ?_
                                                          rotate_left
                                                          · go_simp
                                                            rfl
                                                          refine hK.out _ _ ?_
                                                          clear hK K
                                                          refine pure_ (i := 16) (N := some 112) (v := ?_) (a' := ?_) #[true, true, true, true, true, true, true, true, true, true, true, true, true, true, true, true, true, false] rfl rfl (any_of HT_.out (by kernel_rfl)) (fun _ _ _ h => h) (Or.inl ⟨by rfl, ?_⟩) ?_ ?_
                                                          rotate_left
                                                          · intro w'
                                                            go_simp
                                                            with_reducible rfl
                                                          rotate_left
                                                          · simp only [Act.put, List.setIfInBounds_toArray, List.set_cons_zero, List.set_cons_succ, i64_w, i32_w]
                                                            rfl
                                                          refine last_ (i := 17) (N := none) #[true, true, true, true, true, true, true, true, true, true, true, true, true, true, true, true, true, true] rfl rfl (one_of HT_.out (by kernel_rfl)) (by decide) (fun K hK => ?_)
                                                          refine skip_ (w1 := ?_) (by rfl) rfl ?_ ?_
                                                          rotate_left
                                                          · go_simp
                                                            rfl
                                                          refine hK.out _ _ ?_
                                                          clear hK K
                                                          refine done_ (done_of HT_.out (by kernel_rfl)) ?_
                                                          try go_wp2
                                                          (try simp only [← hl13_7])
                                                          go_roundg k7
                                                          case measure => have := HJ4.out; have := HJ7.out; have := HK3.out; have := HK4.out; have := HJ15.out; have := HK6.out; have := HK7.out; omega
                                                          case rel => exact ⟨(y353), (ji34), (by first | rfl | (simp; done) | (simp only [← hji34] <;> (first | rfl | simp)) | (simp [*]; done)), H', ⟨by have := HJ4.out; have := HJ7.out; have := HK3.out; have := HK4.out; have := HJ15.out; have := HK6.out; have := HK7.out; omega⟩, ⟨by (try simp only [hl13_7]); (with_reducible repeat (first | apply Kd.R_alloc | apply Kd.R_drewN | apply Kd.R_drew)); exact Kd.R_mono (Kd.R_far (p := ⟨go38, ((ji34) : Int).toNat, none⟩) (Kd.R_far (p := ⟨go38, (x15_7 : Int).toNat, none⟩) (Kd.R_types HO_12.out GG38.out (by decide)) (fun _ hk => hk.2) (.int .i64 (rd x13_7 (ji34)))) (fun _ hk => hk.2) (.int .i64 (rd x13_7 x15_7))) (fun _ hk => trivial)⟩, ⟨by (try simp only [hl13_7]); (with_reducible repeat (first | apply Kd.R_alloc | apply Kd.R_drewN | apply Kd.R_drew)); exact HQ43.out⟩, ⟨by repeat (first | (with_reducible first | exact HB.out | apply below_alloc | apply pw_below_drewN | apply below_drew1 | refine below_set ?_ GB38.out | refine below_set ?_ GB38.out) | exact HB.out)⟩⟩
                                                        · rw [if_neg c37] at H
                                                          have c37b0 : decide ((rd x13_7 x15_7) < (rd x13_7 (ji34))) = false := decide_eq_false c37
                                                          clear c37
                                                          have H' := Aside0.mk H
                                                          clear H
                                                          try go_wp2
                                                          have n0_ := Aside0.mk (Kd.R_drew HO_12.out)
                                                          have n1_ := Aside0.mk (Kd.R_drew HO_13.out)
                                                          have n2_ := Aside0.mk (below_drew1 HB.out)
                                                          clear HO_12
                                                          clear HO_13
                                                          clear HB
                                                          have HO_12 := n0_
                                                          have HO_13 := n1_
                                                          have HB := n2_
                                                          clear n0_ n1_ n2_
                                                          have p348 : 0 ≤ (x15_7 : Int) := of_decide_eq_true (by first | (with_reducible assumption) | assumption)
                                                          have q348 : x15_7 < (x13_7.length : Int) := of_decide_eq_true (by first | (with_reducible assumption) | assumption)
                                                          obtain ⟨ad348, e348, hx348_0⟩ := Kd.at_int (Kd.R_reads' HO_13.out).2.2 x15_7 p348 q348
                                                          cases e348
                                                          replace p348 := eq_true p348
                                                          replace q348 := eq_true q348
                                                          have p349 : 0 ≤ ((ji34) : Int) := of_decide_eq_true (by first | (with_reducible assumption) | assumption)
                                                          have q349 : (ji34) < (x13_7.length : Int) := of_decide_eq_true (by first | (with_reducible assumption) | assumption)
                                                          obtain ⟨ad349, e349, hx349_0⟩ := Kd.at_int (Kd.R_reads' HO_13.out).2.2 (ji34) p349 q349
                                                          obtain rfl : ad348 = ad349 := (by injection e349)
                                                          replace p349 := eq_true p349
                                                          replace q349 := eq_true q349
                                                          refine start_ (n := 14) (S := fun w' => w'.cell? (ad348.add (x15_7).toNat) = some (.int .i64 (rd x13_7 x15_7)) ∧ w'.cell? (ad348.add ((ji34)).toNat) = some (.int .i64 (rd x13_7 (ji34)))) (ds := []) #[false, false, false, false, false, false, false, false, false, false, false, false, false, false] (by kernel_rfl) rfl rfl ⟨hx348_0, hx349_0⟩ (fun hHeld => ?_); refine with_tabW pianolaref09_Wrong.tab22 pianolaref09_Wrong.bits22 (fun HT_ HW_ => ?_)
                                                          generalize wr.drew = w44 at HO_12 HO_13 HB hx348_0 hx349_0 hHeld ⊢
                                                          refine pure_ (i := 0) (N := some 81) (v := ?_) (a' := ?_) #[true, false, false, false, false, false, false, false, false, false, false, false, false, false] rfl rfl (any_of HT_.out (by kernel_rfl)) (fun _ _ _ h => h) (Or.inl ⟨by rfl, ?_⟩) ?_ ?_
                                                          rotate_left
                                                          · intro w'
                                                            go_simp
                                                            with_reducible rfl
                                                          rotate_left
                                                          · simp only [Act.put, List.setIfInBounds_toArray, List.set_cons_zero, List.set_cons_succ, i64_w, i32_w]
                                                            rfl
                                                          refine pure_ (i := 1) (N := some 82) (v := ?_) (a' := ?_) #[true, true, false, false, false, false, false, false, false, false, false, false, false, false] rfl rfl (any_of HT_.out (by kernel_rfl)) (fun _ _ _ h => h) (Or.inl ⟨by rfl, ?_⟩) ?_ ?_
                                                          rotate_left
                                                          · intro w'
                                                            go_simp
                                                            with_reducible rfl
                                                          rotate_left
                                                          · simp only [Act.put, List.setIfInBounds_toArray, List.set_cons_zero, List.set_cons_succ, i64_w, i32_w]
                                                            rfl
                                                          refine pure_ (i := 2) (N := some 83) (v := ?_) (a' := ?_) #[true, true, true, false, false, false, false, false, false, false, false, false, false, false] rfl rfl (any_of HT_.out (by kernel_rfl)) (fun _ _ _ h => h) (Or.inl ⟨by rfl, ?_⟩) ?_ ?_
                                                          rotate_left
                                                          · intro w'
                                                            go_simp
                                                            with_reducible rfl
                                                          rotate_left
                                                          · simp only [Act.put, List.setIfInBounds_toArray, List.set_cons_zero, List.set_cons_succ, i64_w, i32_w]
                                                            rfl
                                                          refine pure_ (i := 3) (N := some 84) (v := ?_) (a' := ?_) #[true, true, true, true, false, false, false, false, false, false, false, false, false, false] rfl rfl (any_of HT_.out (by kernel_rfl)) (fun _ _ _ h => h) (Or.inl ⟨by rfl, ?_⟩) ?_ ?_
                                                          rotate_left
                                                          · intro w'
                                                            go_simp
                                                            with_reducible rfl
                                                          rotate_left
                                                          · simp only [Act.put, List.setIfInBounds_toArray, List.set_cons_zero, List.set_cons_succ, i64_w, i32_w]
                                                            rfl
                                                          refine pure_ (i := 4) (N := some 85) (v := ?_) (a' := ?_) #[true, true, true, true, true, false, false, false, false, false, false, false, false, false] rfl rfl (any_of HT_.out (by kernel_rfl)) (fun _ _ _ h => h) (Or.inl ⟨by rfl, ?_⟩) ?_ ?_
                                                          rotate_left
                                                          · intro w'
                                                            go_simp
                                                            with_reducible rfl
                                                          rotate_left
                                                          · simp only [Act.put, List.setIfInBounds_toArray, List.set_cons_zero, List.set_cons_succ, i64_w, i32_w]
                                                            rfl
                                                          refine pure_ (i := 5) (N := some 86) (v := ?_) (a' := ?_) #[true, true, true, true, true, true, false, false, false, false, false, false, false, false] rfl rfl (any_of HT_.out (by kernel_rfl)) (fun _ _ _ h => h) (Or.inl ⟨by rfl, ?_⟩) ?_ ?_
                                                          rotate_left
                                                          · intro w'
                                                            go_simp
                                                            with_reducible rfl
                                                          rotate_left
                                                          · simp only [Act.put, List.setIfInBounds_toArray, List.set_cons_zero, List.set_cons_succ, i64_w, i32_w]
                                                            rfl
                                                          refine pure_ (i := 7) (N := some 88) (v := ?_) (a' := ?_) #[true, true, true, true, true, true, false, true, false, false, false, false, false, false] rfl rfl (any_of HT_.out (by kernel_rfl)) (fun _ _ _ h => h) (Or.inl ⟨by rfl, ?_⟩) ?_ ?_
                                                          rotate_left
                                                          · intro w'
                                                            go_simp
                                                            with_reducible rfl
                                                          rotate_left
                                                          · simp only [Act.put, List.setIfInBounds_toArray, List.set_cons_zero, List.set_cons_succ, i64_w, i32_w]
                                                            rfl
                                                          refine pure_ (i := 8) (N := some 89) (v := ?_) (a' := ?_) #[true, true, true, true, true, true, false, true, true, false, false, false, false, false] rfl rfl (any_of HT_.out (by kernel_rfl)) (fun _ _ _ h => h) (Or.inl ⟨by rfl, ?_⟩) ?_ ?_
                                                          rotate_left
                                                          · intro w'
                                                            go_simp
                                                            with_reducible rfl
                                                          rotate_left
                                                          · simp only [Act.put, List.setIfInBounds_toArray, List.set_cons_zero, List.set_cons_succ, i64_w, i32_w]
                                                            rfl
                                                          refine pure_ (i := 9) (N := some 90) (v := ?_) (a' := ?_) #[true, true, true, true, true, true, false, true, true, true, false, false, false, false] rfl rfl (any_of HT_.out (by kernel_rfl)) (fun _ _ _ h => h) (Or.inl ⟨by rfl, ?_⟩) ?_ ?_
                                                          rotate_left
                                                          · intro w'
                                                            go_simp
                                                            with_reducible rfl
                                                          rotate_left
                                                          · simp only [Act.put, List.setIfInBounds_toArray, List.set_cons_zero, List.set_cons_succ, i64_w, i32_w]
                                                            rfl
                                                          refine pure_ (i := 10) (N := some 91) (v := ?_) (a' := ?_) #[true, true, true, true, true, true, false, true, true, true, true, false, false, false] rfl rfl (any_of HT_.out (by kernel_rfl)) (fun _ _ _ h => h) (Or.inl ⟨by rfl, ?_⟩) ?_ ?_
                                                          rotate_left
                                                          · intro w'
                                                            go_simp
                                                            with_reducible rfl
                                                          rotate_left
                                                          · simp only [Act.put, List.setIfInBounds_toArray, List.set_cons_zero, List.set_cons_succ, i64_w, i32_w]
                                                            rfl
                                                          refine take_ (i := 6) (N := some 87) (v := ?_) (a' := ?_) #[true, true, true, true, true, true, true, true, true, true, true, false, false, false] rfl rfl (take_ofW HT_.out HW_.out (by kernel_rfl)) (fun _ _ _ h => h) (Or.inl ⟨by rfl, ?_⟩) hHeld ?_ ?_
                                                          rotate_left
                                                          · rintro w' ⟨s0, s1⟩
                                                            go_simp
                                                            with_reducible rfl
                                                          rotate_left
                                                          · simp only [Act.put, List.setIfInBounds_toArray, List.set_cons_zero, List.set_cons_succ, i64_w, i32_w]
                                                            rfl
                                                          refine take_ (i := 11) (N := some 92) (v := ?_) (a' := ?_) #[true, true, true, true, true, true, true, true, true, true, true, true, false, false] rfl rfl (take_ofW HT_.out HW_.out (by kernel_rfl)) (fun _ _ _ h => h) (Or.inl ⟨by rfl, ?_⟩) hHeld ?_ ?_
                                                          rotate_left
                                                          · rintro w' ⟨s0, s1⟩
                                                            go_simp
                                                            with_reducible rfl
                                                          rotate_left
                                                          · simp only [Act.put, List.setIfInBounds_toArray, List.set_cons_zero, List.set_cons_succ, i64_w, i32_w]
                                                            rfl
                                                          refine pure_ (i := 12) (N := some 93) (v := ?_) (a' := ?_) #[true, true, true, true, true, true, true, true, true, true, true, true, true, false] rfl rfl (any_of HT_.out (by kernel_rfl)) (fun _ _ _ h => h) (Or.inl ⟨by rfl, ?_⟩) ?_ ?_
                                                          rotate_left
                                                          · intro w'
                                                            go_simp
                                                            with_reducible rfl
                                                          rotate_left
                                                          · simp only [Act.put, List.setIfInBounds_toArray, List.set_cons_zero, List.set_cons_succ, i64_w, i32_w]
                                                            rfl
                                                          refine pure_ (i := 13) (N := some 94) (v := ?_) (a' := ?_) #[true, true, true, true, true, true, true, true, true, true, true, true, true, true] rfl rfl (any_of HT_.out (by kernel_rfl)) (fun _ _ _ h => h) (Or.inl ⟨by rfl, ?_⟩) ?_ ?_
                                                          rotate_left
                                                          · intro w'
                                                            go_simp
                                                            with_reducible rfl
                                                          rotate_left
                                                          · simp only [Act.put, List.setIfInBounds_toArray, List.set_cons_zero, List.set_cons_succ, i64_w, i32_w]
                                                            rfl
                                                          refine done_ (done_of HT_.out (by kernel_rfl)) ?_
                                                          try go_wp2
                                                          (try simp only [← hl13_7])
                                                          go_roundg k7
                                                          case measure => have := HJ4.out; have := HJ7.out; have := HK3.out; have := HK4.out; have := HJ15.out; have := HK6.out; have := HK7.out; omega
                                                          case rel => exact ⟨(x13_7), (wrap64 (x14_6 + 1)), (by first | rfl | (simp; done) | (simp [*]; done)), H', ⟨by have := HJ4.out; have := HJ7.out; have := HK3.out; have := HK4.out; have := HJ15.out; have := HK6.out; have := HK7.out; omega⟩, ⟨by (try simp only [hl13_7]); (with_reducible repeat (first | apply Kd.R_alloc | apply Kd.R_drewN | apply Kd.R_drew)); exact HO_12.out⟩, ⟨by (try simp only [hl13_7]); (with_reducible repeat (first | apply Kd.R_alloc | apply Kd.R_drewN | apply Kd.R_drew)); exact HO_13.out⟩, ⟨by repeat (first | (with_reducible first | exact HB.out | apply below_alloc | apply pw_below_drewN | apply below_drew1) | exact HB.out)⟩⟩
                                                      · rw [if_neg c36] at H
                                                        exact absurd H (by simp)
                                                    · rw [if_neg c35] at H
                                                      exact absurd H (by simp)
                                                  · rw [if_neg c33] at H
                                                    exact absurd H (by simp)
                                                · rw [if_neg c32] at H
                                                  exact absurd H (by simp)
                                              · rw [if_neg c31] at H
                                                have c31b0 : decide (0 < x15_7) = false := decide_eq_false c31
                                                clear c31
                                                have H' := Aside0.mk H
                                                clear H
                                                try go_wp2
                                                have n0_ := Aside0.mk (Kd.R_drew HO_12.out)
                                                have n1_ := Aside0.mk (Kd.R_drew HO_13.out)
                                                have n2_ := Aside0.mk (below_drew1 HB.out)
                                                clear HO_12
                                                clear HO_13
                                                clear HB
                                                have HO_12 := n0_
                                                have HO_13 := n1_
                                                have HB := n2_
                                                clear n0_ n1_ n2_
                                                refine start_ (n := 14) (S := fun w' => True) (ds := []) #[false, false, false, false, false, false, false, false, false, false, false, false, false, false] (by kernel_rfl) rfl rfl trivial (fun hHeld => ?_); refine with_tabW pianolaref09_Wrong.tab22 pianolaref09_Wrong.bits22 (fun HT_ HW_ => ?_)
                                                generalize wr.drew = w45 at HO_12 HO_13 HB hHeld ⊢
                                                refine pure_ (i := 0) (N := some 81) (v := ?_) (a' := ?_) #[true, false, false, false, false, false, false, false, false, false, false, false, false, false] rfl rfl (any_of HT_.out (by kernel_rfl)) (fun _ _ _ h => h) (Or.inl ⟨by rfl, ?_⟩) ?_ ?_
                                                rotate_left
                                                · intro w'
                                                  go_simp
                                                  with_reducible rfl
                                                rotate_left
                                                · simp only [Act.put, List.setIfInBounds_toArray, List.set_cons_zero, List.set_cons_succ, i64_w, i32_w]
                                                  rfl
                                                refine pure_ (i := 1) (N := some 82) (v := ?_) (a' := ?_) #[true, true, false, false, false, false, false, false, false, false, false, false, false, false] rfl rfl (any_of HT_.out (by kernel_rfl)) (fun _ _ _ h => h) (Or.inl ⟨by rfl, ?_⟩) ?_ ?_
                                                rotate_left
                                                · intro w'
                                                  go_simp
                                                  with_reducible rfl
                                                rotate_left
                                                · simp only [Act.put, List.setIfInBounds_toArray, List.set_cons_zero, List.set_cons_succ, i64_w, i32_w]
                                                  rfl
                                                refine pure_ (i := 2) (N := some 83) (v := ?_) (a' := ?_) #[true, true, true, false, false, false, false, false, false, false, false, false, false, false] rfl rfl (any_of HT_.out (by kernel_rfl)) (fun _ _ _ h => h) (Or.inl ⟨by rfl, ?_⟩) ?_ ?_
                                                rotate_left
                                                · intro w'
                                                  go_simp
                                                  with_reducible rfl
                                                rotate_left
                                                · simp only [Act.put, List.setIfInBounds_toArray, List.set_cons_zero, List.set_cons_succ, i64_w, i32_w]
                                                  rfl
                                                refine pure_ (i := 3) (N := some 84) (v := undef) (a' := ?_) #[true, true, true, true, false, false, false, false, false, false, false, false, false, false] rfl rfl (any_of HT_.out (by kernel_rfl)) (fun _ _ _ h => h) (Or.inr ⟨by rfl, rfl⟩) ?_ ?_
                                                rotate_left
                                                · simp only [Act.put, List.setIfInBounds_toArray, List.set_cons_zero, List.set_cons_succ, i64_w, i32_w]
                                                  rfl
                                                refine pure_ (i := 4) (N := some 85) (v := undef) (a' := ?_) #[true, true, true, true, true, false, false, false, false, false, false, false, false, false] rfl rfl (any_of HT_.out (by kernel_rfl)) (fun _ _ _ h => h) (Or.inr ⟨by rfl, rfl⟩) ?_ ?_
                                                rotate_left
                                                · simp only [Act.put, List.setIfInBounds_toArray, List.set_cons_zero, List.set_cons_succ, i64_w, i32_w]
                                                  rfl
                                                refine pure_ (i := 5) (N := some 86) (v := undef) (a' := ?_) #[true, true, true, true, true, true, false, false, false, false, false, false, false, false] rfl rfl (any_of HT_.out (by kernel_rfl)) (fun _ _ _ h => h) (Or.inr ⟨by rfl, rfl⟩) ?_ ?_
                                                rotate_left
                                                · simp only [Act.put, List.setIfInBounds_toArray, List.set_cons_zero, List.set_cons_succ, i64_w, i32_w]
                                                  rfl
                                                refine pure_ (i := 6) (N := some 87) (v := undef) (a' := ?_) #[true, true, true, true, true, true, true, false, false, false, false, false, false, false] rfl rfl (any_of HT_.out (by kernel_rfl)) (fun _ _ _ h => h) (Or.inr ⟨by rfl, rfl⟩) ?_ ?_
                                                rotate_left
                                                · simp only [Act.put, List.setIfInBounds_toArray, List.set_cons_zero, List.set_cons_succ, i64_w, i32_w]
                                                  rfl
                                                refine pure_ (i := 7) (N := some 88) (v := undef) (a' := ?_) #[true, true, true, true, true, true, true, true, false, false, false, false, false, false] rfl rfl (any_of HT_.out (by kernel_rfl)) (fun _ _ _ h => h) (Or.inr ⟨by rfl, rfl⟩) ?_ ?_
                                                rotate_left
                                                · simp only [Act.put, List.setIfInBounds_toArray, List.set_cons_zero, List.set_cons_succ, i64_w, i32_w]
                                                  rfl
                                                refine pure_ (i := 8) (N := some 89) (v := undef) (a' := ?_) #[true, true, true, true, true, true, true, true, true, false, false, false, false, false] rfl rfl (any_of HT_.out (by kernel_rfl)) (fun _ _ _ h => h) (Or.inr ⟨by rfl, rfl⟩) ?_ ?_
                                                rotate_left
                                                · simp only [Act.put, List.setIfInBounds_toArray, List.set_cons_zero, List.set_cons_succ, i64_w, i32_w]
                                                  rfl
                                                refine pure_ (i := 9) (N := some 90) (v := undef) (a' := ?_) #[true, true, true, true, true, true, true, true, true, true, false, false, false, false] rfl rfl (any_of HT_.out (by kernel_rfl)) (fun _ _ _ h => h) (Or.inr ⟨by rfl, rfl⟩) ?_ ?_
                                                rotate_left
                                                · simp only [Act.put, List.setIfInBounds_toArray, List.set_cons_zero, List.set_cons_succ, i64_w, i32_w]
                                                  rfl
                                                refine pure_ (i := 10) (N := some 91) (v := undef) (a' := ?_) #[true, true, true, true, true, true, true, true, true, true, true, false, false, false] rfl rfl (any_of HT_.out (by kernel_rfl)) (fun _ _ _ h => h) (Or.inr ⟨by rfl, rfl⟩) ?_ ?_
                                                rotate_left
                                                · simp only [Act.put, List.setIfInBounds_toArray, List.set_cons_zero, List.set_cons_succ, i64_w, i32_w]
                                                  rfl
                                                refine pure_ (i := 11) (N := some 92) (v := undef) (a' := ?_) #[true, true, true, true, true, true, true, true, true, true, true, true, false, false] rfl rfl (any_of HT_.out (by kernel_rfl)) (fun _ _ _ h => h) (Or.inr ⟨by rfl, rfl⟩) ?_ ?_
                                                rotate_left
                                                · simp only [Act.put, List.setIfInBounds_toArray, List.set_cons_zero, List.set_cons_succ, i64_w, i32_w]
                                                  rfl
                                                refine pure_ (i := 12) (N := some 93) (v := undef) (a' := ?_) #[true, true, true, true, true, true, true, true, true, true, true, true, true, false] rfl rfl (any_of HT_.out (by kernel_rfl)) (fun _ _ _ h => h) (Or.inr ⟨by rfl, rfl⟩) ?_ ?_
                                                rotate_left
                                                · simp only [Act.put, List.setIfInBounds_toArray, List.set_cons_zero, List.set_cons_succ, i64_w, i32_w]
                                                  rfl
                                                refine pure_ (i := 13) (N := some 94) (v := ?_) (a' := ?_) #[true, true, true, true, true, true, true, true, true, true, true, true, true, true] rfl rfl (any_of HT_.out (by kernel_rfl)) (fun _ _ _ h => h) (Or.inl ⟨by rfl, ?_⟩) ?_ ?_
                                                rotate_left
                                                · intro w'
                                                  go_simp
                                                  with_reducible rfl
                                                rotate_left
                                                · simp only [Act.put, List.setIfInBounds_toArray, List.set_cons_zero, List.set_cons_succ, i64_w, i32_w]
                                                  rfl
                                                refine done_ (done_of HT_.out (by kernel_rfl)) ?_
                                                try go_wp2
                                                (try simp only [← hl13_7])
                                                go_roundg k7
                                                case measure => have := HJ4.out; have := HJ7.out; have := HK3.out; have := HK4.out; have := HJ15.out; have := HK6.out; have := HK7.out; omega
                                                case rel => exact ⟨(x13_7), (wrap64 (x14_6 + 1)), (by first | rfl | (simp; done) | (simp [*]; done)), H', ⟨by have := HJ4.out; have := HJ7.out; have := HK3.out; have := HK4.out; have := HJ15.out; have := HK6.out; have := HK7.out; omega⟩, ⟨by (try simp only [hl13_7]); (with_reducible repeat (first | apply Kd.R_alloc | apply Kd.R_drewN | apply Kd.R_drew)); exact HO_12.out⟩, ⟨by (try simp only [hl13_7]); (with_reducible repeat (first | apply Kd.R_alloc | apply Kd.R_drewN | apply Kd.R_drew)); exact HO_13.out⟩, ⟨by repeat (first | (with_reducible first | exact HB.out | apply below_alloc | apply pw_below_drewN | apply below_drew1) | exact HB.out)⟩⟩
                                        · rw [if_neg c27] at H
                                          exact absurd H (by simp)
                                      · rw [if_neg c26] at H
                                        exact absurd H (by simp)
                                    · rw [if_neg c25] at H
                                      have c25b0 : decide (x14_6 < (t338.length : Int)) = false := decide_eq_false c25
                                      clear c25
                                      simp only [Option.some.injEq, Prod.mk.injEq] at H
                                      obtain ⟨rfl, rfl⟩ := H
                                      obtain ⟨Ao46, co46, eo46⟩ := Kd.R_slice HO_12.out
                                      subst eo46
                                      go_wp2
                                      go_ret2
                                      exact ⟨_, by first | rfl | (simp [errW_none, errW_some] <;> rfl) | (simp only [← hji13]; first | rfl | (simp [errW_none, errW_some] <;> rfl)) | (simp [*, errW_none, errW_some] <;> rfl), by (with_reducible repeat (first | apply Kd.R_alloc | apply Kd.R_drewN | apply Kd.R_drew)); exact HO_13.out, by repeat (first | (with_reducible first | exact HB.out | apply below_alloc | apply pw_below_drewN | apply below_drew1) | exact HB.out)⟩
                        · rw [if_neg c14] at H
                          have c14b0 : decide (x10_4 < (ji13)) = false := decide_eq_false c14
                          clear c14
                          have H' := Aside0.mk H
                          clear H
                          go_wp2
                          go_roundg k4
                          case measure => have := HJ4.out; have := HJ7.out; have := HK3.out; have := HK4.out; omega
                          case rel => exact ⟨(wrap64 (x9_3 + 1)), (by first | rfl | (simp; done) | (simp [*]; done)), H', ⟨by have := HJ4.out; have := HJ7.out; have := HK3.out; have := HK4.out; omega⟩, ⟨by repeat (first | (with_reducible first | exact HB.out | apply below_alloc | apply pw_below_drewN | apply below_drew1) | exact HB.out)⟩⟩
                  · rw [if_neg c12] at H
                    have c12b0 : decide (x9_3 ≤ a1) = false := decide_eq_false c12
                    clear c12
                    simp only [Option.some.injEq, Prod.mk.injEq] at H
                    obtain ⟨rfl, rfl⟩ := H
                    go_wp2
                    go_ret2
                    exact ⟨_, by first | rfl | (simp [errW_none, errW_some] <;> rfl) | (simp [*, errW_none, errW_some] <;> rfl), by first | exact Kd.R_nil _ _ _ _ _ | exact Kd.N_nil _ _ _ _ _ | exact Kd.V_nil _ _ _ _ _ | exact Kd.Q_nil _ _ _ _ _ | exact Kd.S_nil _ _ _ _ _, by repeat (first | (with_reducible first | exact HB.out | apply below_alloc | apply pw_below_drewN | apply below_drew1) | exact HB.out)⟩
          · rw [if_neg c10] at H
            have c10b0 : (x8_7 == 0) = false := beq_eq_false_iff_ne.mpr c10
            have c10b1 : (x8_7 != 0) = true := bne_iff_ne.mpr c10
            simp only [Option.some.injEq, Prod.mk.injEq] at H
            obtain ⟨rfl, rfl⟩ := H
            go_wp2
            go_ret2
            exact ⟨_, by first | rfl | (simp [errW_none, errW_some] <;> rfl) | (simp [*, errW_none, errW_some] <;> rfl), by first | exact Kd.R_nil _ _ _ _ _ | exact Kd.N_nil _ _ _ _ _ | exact Kd.V_nil _ _ _ _ _ | exact Kd.Q_nil _ _ _ _ _ | exact Kd.S_nil _ _ _ _ _, by repeat (first | (with_reducible first | exact HB.out | apply below_alloc | apply pw_below_drewN | apply below_drew1) | exact HB.out)⟩
end Go.Proofs.Ytpfkfbbekfkcgaa.P
end
section
namespace Go.Proofs.Ytpfkfbbekfkcgaa.P
open Go.RowKit Go.Proofs.YtpfkfbbekfkcgaaW.PrintWords Go.Proofs.YtpfkfbbekfkcgaaW.PrintLast Go.Proofs.YtpfkfbbekfkcgaaW.PrintMore
attribute [local go_sem] max2_int min2_int max_two min_two max_three min_three max_four min_four
set_option linter.unusedVariables false
set_option linter.unusedSimpArgs false
def pianolalaw09_VaultWrongs.j0 : Nat → Int → Int → List (S61) → Bool → Option (Bool)
  | 0, _, _, _, _ => none
  | k + 1, x0, x1, x2, x23 => if x23 = true then ((pianolalaw09_works.f).bind fun t354 => (some t354)) else ((vault_Wrong.f x0 x1 x2).bind fun bt355 => ((pianolalaw09_given.f k x2).bind fun t359 => ((pianolaref09_Wrong.f k x0 x1 t359).bind fun bt362 => ((pianolalaw09_numbers.f k bt355.1 bt362.1).bind fun t366 => (if t366 = true then (if bt355.2 = bt362.2 then ((pianolalaw09_works.f).bind fun t367 => (some t367)) else (some false)) else (some false))))))
def pianolalaw09_VaultWrongs.f (k : Nat) (a0 : Int) (a1 : Int) (l2 : List (S61)) : Option (Bool) := if (l2.length : Int) > 10 then (if (l2.length : Int) ≤ 20 then (pianolalaw09_VaultWrongs.j0 k a0 a1 l2 true) else (pianolalaw09_VaultWrongs.j0 k a0 a1 l2 (decide ((l2.length : Int) > 60)))) else (pianolalaw09_VaultWrongs.j0 k a0 a1 l2 (decide ((l2.length : Int) > 60)))
set_option maxHeartbeats 8000000 in
set_option maxRecDepth 100000 in
theorem pianolalaw09_VaultWrongs.calls (k : Nat) (a0 : Int) (a1 : Int) (A2 : Option Addr) (c2 : Nat) (l2 : List (S61)) (r : Bool) (w : World) (hr2 : Kd.C k61 w A2 l2.length l2) (hc2 : l2.length ≤ c2) (h : pianolalaw09_VaultWrongs.f k a0 a1 l2 = some r) :
    Calls Try.prog 6 #[.int .i64 a0, .int .i64 a1, .slice A2 l2.length c2] w fun e w' => e = .returned (.bool r) ∧ Below w.heap.size w w' := by
  have HR2 := Aside0.mk hr2
  have HC2 := Aside0.mk hc2
  clear hr2 hc2
  have HB := Aside0.mk (Below.refl w.heap.size w)
  have H : (if (l2.length : Int) > 10 then (if (l2.length : Int) ≤ 20 then (pianolalaw09_VaultWrongs.j0 k a0 a1 l2 true) else (pianolalaw09_VaultWrongs.j0 k a0 a1 l2 (decide ((l2.length : Int) > 60)))) else (pianolalaw09_VaultWrongs.j0 k a0 a1 l2 (decide ((l2.length : Int) > 60)))) = some r := h
  clear h
  have HC4 := Aside0.mk H
  clear H
  go_enter Try.func6, Try.ntmps6
  go_upto_region 1 with (fail)
  go_cut [23] (fun v23 wc => ∃ (kq : Nat) (x23_3 : Bool), v23 = .bool x23_3 ∧ Aside0 (pianolalaw09_VaultWrongs.j0 kq a0 a1 l2 x23_3 = some r) ∧ Aside0 (kq ≤ k) ∧ Aside0 (Below w.heap.size w wc))
  case first =>
    have H := HC4.out
    clear HC4
    by_cases c5 : (l2.length : Int) > 10
    · rw [if_pos c5] at H
      have c5b0 : decide (10 < (l2.length : Int)) = true := decide_eq_true c5
      have c5b1 : decide (10 < l2.length) = true := decide_eq_true (by omega)
      clear c5
      (first | rw [c5b0] | (simp only [i64_w, i32_w]; rw [c5b0]) | skip)
      by_cases c6 : (l2.length : Int) ≤ 20
      · rw [if_pos c6] at H
        have c6b0 : decide ((l2.length : Int) ≤ 20) = true := decide_eq_true c6
        have c6b1 : decide (l2.length ≤ 20) = true := decide_eq_true (by omega)
        clear c6
        have H' := Aside0.mk H
        clear H
        go_wp2
        go_meet
        case rel => exact ⟨_, (true), (by first | rfl | (simp; done) | (simp [*]; done)), H', ⟨by first | omega | exact Nat.le_refl _⟩, ⟨by repeat (first | (with_reducible first | exact HB.out | apply below_alloc | apply pw_below_drewN | apply below_drew1) | exact HB.out)⟩⟩
      · rw [if_neg c6] at H
        have c6b0 : decide ((l2.length : Int) ≤ 20) = false := decide_eq_false c6
        have c6b1 : decide (l2.length ≤ 20) = false := decide_eq_false (by omega)
        clear c6
        have H' := Aside0.mk H
        clear H
        go_wp2
        go_meet
        case rel => exact ⟨_, (decide ((l2.length : Int) > 60)), (by first | rfl | (simp; done) | (simp [*]; done)), H', ⟨by first | omega | exact Nat.le_refl _⟩, ⟨by repeat (first | (with_reducible first | exact HB.out | apply below_alloc | apply pw_below_drewN | apply below_drew1) | exact HB.out)⟩⟩
    · rw [if_neg c5] at H
      have c5b0 : decide (10 < (l2.length : Int)) = false := decide_eq_false c5
      have c5b1 : decide (10 < l2.length) = false := decide_eq_false (by omega)
      clear c5
      (first | rw [c5b0] | (simp only [i64_w, i32_w]; rw [c5b0]) | skip)
      have H' := Aside0.mk H
      clear H
      go_wp2
      go_meet
      case rel => exact ⟨_, (decide ((l2.length : Int) > 60)), (by first | rfl | (simp; done) | (simp [*]; done)), H', ⟨by first | omega | exact Nat.le_refl _⟩, ⟨by repeat (first | (with_reducible first | exact HB.out | apply below_alloc | apply pw_below_drewN | apply below_drew1) | exact HB.out)⟩⟩
  case rest =>
    clear HC4
    try clear c2
    try clear p2
    try clear c5
    try clear c5b0
    try clear c5b1
    try clear c6
    try clear c6b0
    try clear c6b1
    obtain ⟨kq, x23_3, rfl, HA, HJ3, HB⟩ := hcut
    cases kq with
    | zero => exact absurd HA.out (by simp [pianolalaw09_VaultWrongs.j0])
    | succ kj3 =>
      have H := HA.out
      clear HA
      simp only [pianolalaw09_VaultWrongs.j0] at H
      by_cases c7 : x23_3 = true
      · subst c7
        have H1 : ((pianolalaw09_works.f).bind fun t354 => (some t354)) = some r := by rw [if_pos rfl] at H; exact H
        clear H
        have H := H1
        clear H1
        replace H := Option.bind_eq_some_iff.mp H
        obtain ⟨t354, A80, H⟩ := H
        replace H : (some t354) = some r := H
        have A8 := Aside0.mk A80
        clear A80
        obtain rfl := Option.some.inj H
        go_wp2_with (first | ((with_reducible refine gate_callee (f := 17) rfl ?_); refine goesL_ (some 24) rfl rfl Try.func17 (by kernel_rfl) rfl #[] rfl (by (try simp only [List.map_toArray, List.map_cons, List.map_nil]); first | done | rfl | (simp only [List.length_drop, List.length_take]; rfl)) ?_; (with_reducible refine (pianolalaw09_works.calls  t354 _ A8.out).mono ?_); rintro e w9 ⟨rfl, hb⟩; refine ⟨_, rfl, ?_⟩; have n0_ := Aside0.mk (below_step (by repeat (first | (with_reducible first | exact HB.out | apply below_alloc | apply pw_below_drewN | apply below_drew1) | exact HB.out)) hb); clear HB; have HB := n0_; clear n0_; (try clear hb); (try clear hb2); (try clear hk); (try clear hi)))
        go_ret
        exact ⟨by first | rfl | (simp [errW_none, errW_some] <;> rfl) | (simp [*, errW_none, errW_some] <;> rfl), by repeat (first | (with_reducible first | exact HB.out | apply below_alloc | apply pw_below_drewN | apply below_drew1) | exact HB.out)⟩
      · replace c7 := Bool.eq_false_iff.mpr c7
        subst c7
        have H1 : ((vault_Wrong.f a0 a1 l2).bind fun bt355 => ((pianolalaw09_given.f kj3 l2).bind fun t359 => ((pianolaref09_Wrong.f kj3 a0 a1 t359).bind fun bt362 => ((pianolalaw09_numbers.f kj3 bt355.1 bt362.1).bind fun t366 => (if t366 = true then (if bt355.2 = bt362.2 then ((pianolalaw09_works.f).bind fun t367 => (some t367)) else (some false)) else (some false)))))) = some r := by rw [if_neg (show ¬ (false = true) by decide)] at H; exact H
        clear H
        have H := H1
        clear H1
        replace H := Option.bind_eq_some_iff.mp H
        obtain ⟨⟨t355, t356⟩, A100, H⟩ := H
        replace H : ((pianolalaw09_given.f kj3 l2).bind fun t359 => ((pianolaref09_Wrong.f kj3 a0 a1 t359).bind fun bt362 => ((pianolalaw09_numbers.f kj3 t355 bt362.1).bind fun t366 => (if t366 = true then (if t356 = bt362.2 then ((pianolalaw09_works.f).bind fun t367 => (some t367)) else (some false)) else (some false))))) = some r := H
        have A10 := Aside0.mk A100
        clear A100
        replace H := Option.bind_eq_some_iff.mp H
        obtain ⟨t359, A110, H⟩ := H
        replace H : ((pianolaref09_Wrong.f kj3 a0 a1 t359).bind fun bt362 => ((pianolalaw09_numbers.f kj3 t355 bt362.1).bind fun t366 => (if t366 = true then (if t356 = bt362.2 then ((pianolalaw09_works.f).bind fun t367 => (some t367)) else (some false)) else (some false)))) = some r := H
        have A11 := Aside0.mk A110
        clear A110
        replace H := Option.bind_eq_some_iff.mp H
        obtain ⟨⟨t362, t363⟩, A120, H⟩ := H
        replace H : ((pianolalaw09_numbers.f kj3 t355 t362).bind fun t366 => (if t366 = true then (if t356 = t363 then ((pianolalaw09_works.f).bind fun t367 => (some t367)) else (some false)) else (some false))) = some r := H
        have A12 := Aside0.mk A120
        clear A120
        replace H := Option.bind_eq_some_iff.mp H
        obtain ⟨t366, A130, H⟩ := H
        replace H : (if t366 = true then (if t356 = t363 then ((pianolalaw09_works.f).bind fun t367 => (some t367)) else (some false)) else (some false)) = some r := H
        have A13 := Aside0.mk A130
        clear A130
        by_cases c14 : t366 = true
        · subst c14
          have H1 : (if t356 = t363 then ((pianolalaw09_works.f).bind fun t367 => (some t367)) else (some false)) = some r := by rw [if_pos rfl] at H; exact H
          clear H
          have H := H1
          clear H1
          by_cases c15 : t356 = t363
          · rw [if_pos c15] at H
            have c15b0 : (t356 == t363) = true := beq_iff_eq.mpr c15
            have c15b1 : (t356 != t363) = false := bne_eq_false_iff_eq.mpr c15
            clear c15
            replace H := Option.bind_eq_some_iff.mp H
            obtain ⟨t367, A160, H⟩ := H
            replace H : (some t367) = some r := H
            have A16 := Aside0.mk A160
            clear A160
            obtain rfl := Option.some.inj H
            go_wp2_with (first | ((with_reducible refine gate_callee (f := 37) rfl ?_); refine goesL_ (some 29) rfl rfl Try.func37 (by kernel_rfl) rfl #[.int .i64 a0, .int .i64 a1, .slice A2 l2.length c2] rfl (by (try simp only [List.map_toArray, List.map_cons, List.map_nil]); first | done | rfl | (simp only [List.length_drop, List.length_take]; rfl)) ?_; (with_reducible refine (vault_Wrong.calls a0 a1 _ _ l2 t355 t356 _ ?side1 ?side2 A10.out).mono ?_); (case side1 => repeat (first | exact (Kd.C_below HR2.out HB.out) | (with_reducible refine Kd.C_alloc ?_ _) | (with_reducible refine Kd.C_drewN ?_ _) | (with_reducible refine Kd.C_drew ?_))); (case side2 => exact HC2.out); rintro e w17 ⟨v357, rfl, ho0, hb⟩; refine ⟨_, rfl, ?_⟩; have n0_ := Aside0.mk (Kd.R_lower ho0 (below_size (by repeat (first | (with_reducible first | exact HB.out | apply below_alloc | apply pw_below_drewN | apply below_drew1) | exact HB.out)))); have n1_ := Aside0.mk (below_step (by repeat (first | (with_reducible first | exact HB.out | apply below_alloc | apply pw_below_drewN | apply below_drew1) | exact HB.out)) hb); clear HB; have HO358 := n0_; have HB := n1_; clear n0_ n1_; (try clear hb); (try clear hb2); (try clear hk); (try clear hi); (try clear ho0)) | ((with_reducible refine gate_callee (f := 27) rfl ?_); refine goesL_ (some 36) rfl rfl Try.func27 (by kernel_rfl) rfl #[.slice A2 l2.length c2] rfl (by (try simp only [List.map_toArray, List.map_cons, List.map_nil]); first | done | rfl | (simp only [List.length_drop, List.length_take]; rfl)) ?_; (with_reducible refine (pianolalaw09_given.calls kj3 _ _ l2 t359 _ ?side1 ?side2 A11.out).mono ?_); (case side1 => repeat (first | exact (Kd.C_below HR2.out HB.out) | (with_reducible refine Kd.C_alloc ?_ _) | (with_reducible refine Kd.C_drewN ?_ _) | (with_reducible refine Kd.C_drew ?_))); (case side2 => exact HC2.out); rintro e w18 ⟨v360, rfl, ho0, hb⟩; refine ⟨_, rfl, ?_⟩; have n0_ := Aside0.mk (Kd.R_below (by (with_reducible repeat (first | apply Kd.R_alloc | apply Kd.R_drewN | apply Kd.R_drew)); exact HO358.out) hb); have n1_ := Aside0.mk (Kd.R_lower ho0 (below_size (by repeat (first | (with_reducible first | exact HB.out | apply below_alloc | apply pw_below_drewN | apply below_drew1) | exact HB.out)))); have n2_ := Aside0.mk (below_step (by repeat (first | (with_reducible first | exact HB.out | apply below_alloc | apply pw_below_drewN | apply below_drew1) | exact HB.out)) hb); clear HO358; clear HB; have HO358 := n0_; have HO361 := n1_; have HB := n2_; clear n0_ n1_ n2_; (try clear hb); (try clear hb2); (try clear hk); (try clear hi); (try clear ho0); obtain ⟨Ao19, co19, eo19⟩ := Kd.R_slice HO361.out; subst eo19) | ((with_reducible refine gate_callee (f := 38) rfl ?_); refine goesL_ (some 37) rfl rfl Try.func38 (by kernel_rfl) rfl #[.int .i64 a0, .int .i64 a1, .slice Ao19 t359.length co19] rfl (by (try simp only [List.map_toArray, List.map_cons, List.map_nil]); first | done | rfl | (simp only [List.length_drop, List.length_take]; rfl)) ?_; (with_reducible refine (pianolaref09_Wrong.calls kj3 a0 a1 _ _ t359 t362 t363 _ ?side1 ?side2 A12.out).mono ?_); (case side1 => repeat (first | exact (Kd.R_reads' HO361.out).2.2 | (with_reducible refine Kd.C_alloc ?_ _) | (with_reducible refine Kd.C_drewN ?_ _) | (with_reducible refine Kd.C_drew ?_))); (case side2 => exact (Kd.R_reads' HO361.out).2.1); rintro e w20 ⟨v364, rfl, ho0, hb⟩; refine ⟨_, rfl, ?_⟩; have n0_ := Aside0.mk (Kd.R_elder' (by (with_reducible repeat (first | apply Kd.R_alloc | apply Kd.R_drewN | apply Kd.R_drew)); exact HO358.out) (Kd.R_base ho0) hb); have n1_ := Aside0.mk (Kd.R_below (by (with_reducible repeat (first | apply Kd.R_alloc | apply Kd.R_drewN | apply Kd.R_drew)); exact HO361.out) hb); have n2_ := Aside0.mk (Kd.R_lower (Kd.R_new' ho0 (Kd.R_lt (by (with_reducible repeat (first | apply Kd.R_alloc | apply Kd.R_drewN | apply Kd.R_drew)); exact HO358.out))) (below_size (by repeat (first | (with_reducible first | exact HB.out | apply below_alloc | apply pw_below_drewN | apply below_drew1) | exact HB.out)))); have n3_ := Aside0.mk (below_step (by repeat (first | (with_reducible first | exact HB.out | apply below_alloc | apply pw_below_drewN | apply below_drew1) | exact HB.out)) hb); clear HO358; clear HO361; clear HB; have HO358 := n0_; have HO361 := n1_; have HO365 := n2_; have HB := n3_; clear n0_ n1_ n2_ n3_; (try clear hb); (try clear hb2); (try clear hk); (try clear hi); (try clear ho0); obtain ⟨Ao21, co21, eo21⟩ := Kd.R_slice HO358.out; subst eo21; obtain ⟨Ao22, co22, eo22⟩ := Kd.R_slice HO365.out; subst eo22) | ((with_reducible refine gate_callee (f := 32) rfl ?_); refine goesL_ (some 42) rfl rfl Try.func32 (by kernel_rfl) rfl #[.slice Ao21 t355.length co21, .slice Ao22 t362.length co22] rfl (by (try simp only [List.map_toArray, List.map_cons, List.map_nil]); first | done | rfl | (simp only [List.length_drop, List.length_take]; rfl)) ?_; (with_reducible refine (pianolalaw09_numbers.calls kj3 _ _ t355 _ _ t362 true _ ?side1 ?side2 ?side3 ?side4 A13.out).mono ?_); (case side1 => repeat (first | exact (Kd.R_reads' HO358.out).2.2 | (with_reducible refine Kd.C_alloc ?_ _) | (with_reducible refine Kd.C_drewN ?_ _) | (with_reducible refine Kd.C_drew ?_))); (case side2 => exact (Kd.R_reads' HO358.out).2.1); (case side3 => repeat (first | exact (Kd.R_reads' HO365.out).2.2 | (with_reducible refine Kd.C_alloc ?_ _) | (with_reducible refine Kd.C_drewN ?_ _) | (with_reducible refine Kd.C_drew ?_))); (case side4 => exact (Kd.R_reads' HO365.out).2.1); rintro e w' ⟨rfl, ⟨nd, rfl⟩⟩; refine ⟨_, rfl, ?_⟩) | (go_at_call 17; (with_reducible refine (pianolalaw09_works.calls  t367 _ A16.out).mono ?_); rintro e w23 ⟨rfl, hb⟩; have n0_ := Aside0.mk (Kd.R_below (by (with_reducible repeat (first | apply Kd.R_alloc | apply Kd.R_drewN | apply Kd.R_drew)); exact HO358.out) hb); have n1_ := Aside0.mk (Kd.R_below (by (with_reducible repeat (first | apply Kd.R_alloc | apply Kd.R_drewN | apply Kd.R_drew)); exact HO361.out) hb); have n2_ := Aside0.mk (Kd.R_below (by (with_reducible repeat (first | apply Kd.R_alloc | apply Kd.R_drewN | apply Kd.R_drew)); exact HO365.out) hb); have n3_ := Aside0.mk (below_step (by repeat (first | (with_reducible first | exact HB.out | apply below_alloc | apply pw_below_drewN | apply below_drew1) | exact HB.out)) hb); clear HO358; clear HO361; clear HO365; clear HB; have HO358 := n0_; have HO361 := n1_; have HO365 := n2_; have HB := n3_; clear n0_ n1_ n2_ n3_; (try clear hb); (try clear hb2); (try clear hk); (try clear hi)))
            go_ret
            exact ⟨by first | rfl | (simp [errW_none, errW_some] <;> rfl) | (simp [*, errW_none, errW_some] <;> rfl), by repeat (first | (with_reducible first | exact HB.out | apply below_alloc | apply pw_below_drewN | apply below_drew1) | exact HB.out)⟩
          · rw [if_neg c15] at H
            have c15b0 : (t356 == t363) = false := beq_eq_false_iff_ne.mpr c15
            have c15b1 : (t356 != t363) = true := bne_iff_ne.mpr c15
            obtain rfl := Option.some.inj H
            go_wp2_with (first | ((with_reducible refine gate_callee (f := 37) rfl ?_); refine goesL_ (some 29) rfl rfl Try.func37 (by kernel_rfl) rfl #[.int .i64 a0, .int .i64 a1, .slice A2 l2.length c2] rfl (by (try simp only [List.map_toArray, List.map_cons, List.map_nil]); first | done | rfl | (simp only [List.length_drop, List.length_take]; rfl)) ?_; (with_reducible refine (vault_Wrong.calls a0 a1 _ _ l2 t355 t356 _ ?side1 ?side2 A10.out).mono ?_); (case side1 => repeat (first | exact (Kd.C_below HR2.out HB.out) | (with_reducible refine Kd.C_alloc ?_ _) | (with_reducible refine Kd.C_drewN ?_ _) | (with_reducible refine Kd.C_drew ?_))); (case side2 => exact HC2.out); rintro e w24 ⟨v357, rfl, ho0, hb⟩; refine ⟨_, rfl, ?_⟩; have n0_ := Aside0.mk (Kd.R_lower ho0 (below_size (by repeat (first | (with_reducible first | exact HB.out | apply below_alloc | apply pw_below_drewN | apply below_drew1) | exact HB.out)))); have n1_ := Aside0.mk (below_step (by repeat (first | (with_reducible first | exact HB.out | apply below_alloc | apply pw_below_drewN | apply below_drew1) | exact HB.out)) hb); clear HB; have HO358 := n0_; have HB := n1_; clear n0_ n1_; (try clear hb); (try clear hb2); (try clear hk); (try clear hi); (try clear ho0)) | ((with_reducible refine gate_callee (f := 27) rfl ?_); refine goesL_ (some 36) rfl rfl Try.func27 (by kernel_rfl) rfl #[.slice A2 l2.length c2] rfl (by (try simp only [List.map_toArray, List.map_cons, List.map_nil]); first | done | rfl | (simp only [List.length_drop, List.length_take]; rfl)) ?_; (with_reducible refine (pianolalaw09_given.calls kj3 _ _ l2 t359 _ ?side1 ?side2 A11.out).mono ?_); (case side1 => repeat (first | exact (Kd.C_below HR2.out HB.out) | (with_reducible refine Kd.C_alloc ?_ _) | (with_reducible refine Kd.C_drewN ?_ _) | (with_reducible refine Kd.C_drew ?_))); (case side2 => exact HC2.out); rintro e w25 ⟨v360, rfl, ho0, hb⟩; refine ⟨_, rfl, ?_⟩; have n0_ := Aside0.mk (Kd.R_below (by (with_reducible repeat (first | apply Kd.R_alloc | apply Kd.R_drewN | apply Kd.R_drew)); exact HO358.out) hb); have n1_ := Aside0.mk (Kd.R_lower ho0 (below_size (by repeat (first | (with_reducible first | exact HB.out | apply below_alloc | apply pw_below_drewN | apply below_drew1) | exact HB.out)))); have n2_ := Aside0.mk (below_step (by repeat (first | (with_reducible first | exact HB.out | apply below_alloc | apply pw_below_drewN | apply below_drew1) | exact HB.out)) hb); clear HO358; clear HB; have HO358 := n0_; have HO361 := n1_; have HB := n2_; clear n0_ n1_ n2_; (try clear hb); (try clear hb2); (try clear hk); (try clear hi); (try clear ho0); obtain ⟨Ao26, co26, eo26⟩ := Kd.R_slice HO361.out; subst eo26) | ((with_reducible refine gate_callee (f := 38) rfl ?_); refine goesL_ (some 37) rfl rfl Try.func38 (by kernel_rfl) rfl #[.int .i64 a0, .int .i64 a1, .slice Ao26 t359.length co26] rfl (by (try simp only [List.map_toArray, List.map_cons, List.map_nil]); first | done | rfl | (simp only [List.length_drop, List.length_take]; rfl)) ?_; (with_reducible refine (pianolaref09_Wrong.calls kj3 a0 a1 _ _ t359 t362 t363 _ ?side1 ?side2 A12.out).mono ?_); (case side1 => repeat (first | exact (Kd.R_reads' HO361.out).2.2 | (with_reducible refine Kd.C_alloc ?_ _) | (with_reducible refine Kd.C_drewN ?_ _) | (with_reducible refine Kd.C_drew ?_))); (case side2 => exact (Kd.R_reads' HO361.out).2.1); rintro e w27 ⟨v364, rfl, ho0, hb⟩; refine ⟨_, rfl, ?_⟩; have n0_ := Aside0.mk (Kd.R_elder' (by (with_reducible repeat (first | apply Kd.R_alloc | apply Kd.R_drewN | apply Kd.R_drew)); exact HO358.out) (Kd.R_base ho0) hb); have n1_ := Aside0.mk (Kd.R_below (by (with_reducible repeat (first | apply Kd.R_alloc | apply Kd.R_drewN | apply Kd.R_drew)); exact HO361.out) hb); have n2_ := Aside0.mk (Kd.R_lower (Kd.R_new' ho0 (Kd.R_lt (by (with_reducible repeat (first | apply Kd.R_alloc | apply Kd.R_drewN | apply Kd.R_drew)); exact HO358.out))) (below_size (by repeat (first | (with_reducible first | exact HB.out | apply below_alloc | apply pw_below_drewN | apply below_drew1) | exact HB.out)))); have n3_ := Aside0.mk (below_step (by repeat (first | (with_reducible first | exact HB.out | apply below_alloc | apply pw_below_drewN | apply below_drew1) | exact HB.out)) hb); clear HO358; clear HO361; clear HB; have HO358 := n0_; have HO361 := n1_; have HO365 := n2_; have HB := n3_; clear n0_ n1_ n2_ n3_; (try clear hb); (try clear hb2); (try clear hk); (try clear hi); (try clear ho0); obtain ⟨Ao28, co28, eo28⟩ := Kd.R_slice HO358.out; subst eo28; obtain ⟨Ao29, co29, eo29⟩ := Kd.R_slice HO365.out; subst eo29) | ((with_reducible refine gate_callee (f := 32) rfl ?_); refine goesL_ (some 42) rfl rfl Try.func32 (by kernel_rfl) rfl #[.slice Ao28 t355.length co28, .slice Ao29 t362.length co29] rfl (by (try simp only [List.map_toArray, List.map_cons, List.map_nil]); first | done | rfl | (simp only [List.length_drop, List.length_take]; rfl)) ?_; (with_reducible refine (pianolalaw09_numbers.calls kj3 _ _ t355 _ _ t362 true _ ?side1 ?side2 ?side3 ?side4 A13.out).mono ?_); (case side1 => repeat (first | exact (Kd.R_reads' HO358.out).2.2 | (with_reducible refine Kd.C_alloc ?_ _) | (with_reducible refine Kd.C_drewN ?_ _) | (with_reducible refine Kd.C_drew ?_))); (case side2 => exact (Kd.R_reads' HO358.out).2.1); (case side3 => repeat (first | exact (Kd.R_reads' HO365.out).2.2 | (with_reducible refine Kd.C_alloc ?_ _) | (with_reducible refine Kd.C_drewN ?_ _) | (with_reducible refine Kd.C_drew ?_))); (case side4 => exact (Kd.R_reads' HO365.out).2.1); rintro e w' ⟨rfl, ⟨nd, rfl⟩⟩; refine ⟨_, rfl, ?_⟩))
            go_ret
            exact ⟨by first | rfl | (simp [errW_none, errW_some] <;> rfl) | (simp [*, errW_none, errW_some] <;> rfl), by repeat (first | (with_reducible first | exact HB.out | apply below_alloc | apply pw_below_drewN | apply below_drew1) | exact HB.out)⟩
        · replace c14 := Bool.eq_false_iff.mpr c14
          subst c14
          have H1 : (some false) = some r := by rw [if_neg (show ¬ (false = true) by decide)] at H; exact H
          clear H
          have H := H1
          clear H1
          obtain rfl := Option.some.inj H
          go_wp2_with (first | ((with_reducible refine gate_callee (f := 37) rfl ?_); refine goesL_ (some 29) rfl rfl Try.func37 (by kernel_rfl) rfl #[.int .i64 a0, .int .i64 a1, .slice A2 l2.length c2] rfl (by (try simp only [List.map_toArray, List.map_cons, List.map_nil]); first | done | rfl | (simp only [List.length_drop, List.length_take]; rfl)) ?_; (with_reducible refine (vault_Wrong.calls a0 a1 _ _ l2 t355 t356 _ ?side1 ?side2 A10.out).mono ?_); (case side1 => repeat (first | exact (Kd.C_below HR2.out HB.out) | (with_reducible refine Kd.C_alloc ?_ _) | (with_reducible refine Kd.C_drewN ?_ _) | (with_reducible refine Kd.C_drew ?_))); (case side2 => exact HC2.out); rintro e w30 ⟨v357, rfl, ho0, hb⟩; refine ⟨_, rfl, ?_⟩; have n0_ := Aside0.mk (Kd.R_lower ho0 (below_size (by repeat (first | (with_reducible first | exact HB.out | apply below_alloc | apply pw_below_drewN | apply below_drew1) | exact HB.out)))); have n1_ := Aside0.mk (below_step (by repeat (first | (with_reducible first | exact HB.out | apply below_alloc | apply pw_below_drewN | apply below_drew1) | exact HB.out)) hb); clear HB; have HO358 := n0_; have HB := n1_; clear n0_ n1_; (try clear hb); (try clear hb2); (try clear hk); (try clear hi); (try clear ho0)) | ((with_reducible refine gate_callee (f := 27) rfl ?_); refine goesL_ (some 36) rfl rfl Try.func27 (by kernel_rfl) rfl #[.slice A2 l2.length c2] rfl (by (try simp only [List.map_toArray, List.map_cons, List.map_nil]); first | done | rfl | (simp only [List.length_drop, List.length_take]; rfl)) ?_; (with_reducible refine (pianolalaw09_given.calls kj3 _ _ l2 t359 _ ?side1 ?side2 A11.out).mono ?_); (case side1 => repeat (first | exact (Kd.C_below HR2.out HB.out) | (with_reducible refine Kd.C_alloc ?_ _) | (with_reducible refine Kd.C_drewN ?_ _) | (with_reducible refine Kd.C_drew ?_))); (case side2 => exact HC2.out); rintro e w31 ⟨v360, rfl, ho0, hb⟩; refine ⟨_, rfl, ?_⟩; have n0_ := Aside0.mk (Kd.R_below (by (with_reducible repeat (first | apply Kd.R_alloc | apply Kd.R_drewN | apply Kd.R_drew)); exact HO358.out) hb); have n1_ := Aside0.mk (Kd.R_lower ho0 (below_size (by repeat (first | (with_reducible first | exact HB.out | apply below_alloc | apply pw_below_drewN | apply below_drew1) | exact HB.out)))); have n2_ := Aside0.mk (below_step (by repeat (first | (with_reducible first | exact HB.out | apply below_alloc | apply pw_below_drewN | apply below_drew1) | exact HB.out)) hb); clear HO358; clear HB; have HO358 := n0_; have HO361 := n1_; have HB := n2_; clear n0_ n1_ n2_; (try clear hb); (try clear hb2); (try clear hk); (try clear hi); (try clear ho0); obtain ⟨Ao32, co32, eo32⟩ := Kd.R_slice HO361.out; subst eo32) | ((with_reducible refine gate_callee (f := 38) rfl ?_); refine goesL_ (some 37) rfl rfl Try.func38 (by kernel_rfl) rfl #[.int .i64 a0, .int .i64 a1, .slice Ao32 t359.length co32] rfl (by (try simp only [List.map_toArray, List.map_cons, List.map_nil]); first | done | rfl | (simp only [List.length_drop, List.length_take]; rfl)) ?_; (with_reducible refine (pianolaref09_Wrong.calls kj3 a0 a1 _ _ t359 t362 t363 _ ?side1 ?side2 A12.out).mono ?_); (case side1 => repeat (first | exact (Kd.R_reads' HO361.out).2.2 | (with_reducible refine Kd.C_alloc ?_ _) | (with_reducible refine Kd.C_drewN ?_ _) | (with_reducible refine Kd.C_drew ?_))); (case side2 => exact (Kd.R_reads' HO361.out).2.1); rintro e w33 ⟨v364, rfl, ho0, hb⟩; refine ⟨_, rfl, ?_⟩; have n0_ := Aside0.mk (Kd.R_elder' (by (with_reducible repeat (first | apply Kd.R_alloc | apply Kd.R_drewN | apply Kd.R_drew)); exact HO358.out) (Kd.R_base ho0) hb); have n1_ := Aside0.mk (Kd.R_below (by (with_reducible repeat (first | apply Kd.R_alloc | apply Kd.R_drewN | apply Kd.R_drew)); exact HO361.out) hb); have n2_ := Aside0.mk (Kd.R_lower (Kd.R_new' ho0 (Kd.R_lt (by (with_reducible repeat (first | apply Kd.R_alloc | apply Kd.R_drewN | apply Kd.R_drew)); exact HO358.out))) (below_size (by repeat (first | (with_reducible first | exact HB.out | apply below_alloc | apply pw_below_drewN | apply below_drew1) | exact HB.out)))); have n3_ := Aside0.mk (below_step (by repeat (first | (with_reducible first | exact HB.out | apply below_alloc | apply pw_below_drewN | apply below_drew1) | exact HB.out)) hb); clear HO358; clear HO361; clear HB; have HO358 := n0_; have HO361 := n1_; have HO365 := n2_; have HB := n3_; clear n0_ n1_ n2_ n3_; (try clear hb); (try clear hb2); (try clear hk); (try clear hi); (try clear ho0); obtain ⟨Ao34, co34, eo34⟩ := Kd.R_slice HO358.out; subst eo34; obtain ⟨Ao35, co35, eo35⟩ := Kd.R_slice HO365.out; subst eo35) | ((with_reducible refine gate_callee (f := 32) rfl ?_); refine goesL_ (some 42) rfl rfl Try.func32 (by kernel_rfl) rfl #[.slice Ao34 t355.length co34, .slice Ao35 t362.length co35] rfl (by (try simp only [List.map_toArray, List.map_cons, List.map_nil]); first | done | rfl | (simp only [List.length_drop, List.length_take]; rfl)) ?_; (with_reducible refine (pianolalaw09_numbers.calls kj3 _ _ t355 _ _ t362 false _ ?side1 ?side2 ?side3 ?side4 A13.out).mono ?_); (case side1 => repeat (first | exact (Kd.R_reads' HO358.out).2.2 | (with_reducible refine Kd.C_alloc ?_ _) | (with_reducible refine Kd.C_drewN ?_ _) | (with_reducible refine Kd.C_drew ?_))); (case side2 => exact (Kd.R_reads' HO358.out).2.1); (case side3 => repeat (first | exact (Kd.R_reads' HO365.out).2.2 | (with_reducible refine Kd.C_alloc ?_ _) | (with_reducible refine Kd.C_drewN ?_ _) | (with_reducible refine Kd.C_drew ?_))); (case side4 => exact (Kd.R_reads' HO365.out).2.1); rintro e w' ⟨rfl, ⟨nd, rfl⟩⟩; refine ⟨_, rfl, ?_⟩))
          go_ret
          exact ⟨by first | rfl | (simp [errW_none, errW_some] <;> rfl) | (simp [*, errW_none, errW_some] <;> rfl), by repeat (first | (with_reducible first | exact HB.out | apply below_alloc | apply pw_below_drewN | apply below_drew1) | exact HB.out)⟩
end Go.Proofs.Ytpfkfbbekfkcgaa.P
end
section
namespace Go.Proofs.Ytpfkfbbekfkcgaa.P
set_option linter.unusedVariables false
set_option linter.unusedSimpArgs false
abbrev K251 := Fin 251
def fk (a : Int) : K251 := ⟨(a % 251).toNat, by omega⟩
theorem fk_val (a : Int) : ((fk a).val : Int) = a % 251 := by
  show (((a % 251).toNat : Nat) : Int) = _
  omega
theorem fk_eq {a b : Int} : fk a = fk b ↔ a % 251 = b % 251 := by
  constructor
  · intro h
    rw [← fk_val, ← fk_val, h]
  · intro h
    apply Fin.ext
    have := fk_val a
    have := fk_val b
    omega
theorem fk_of {k : K251} {a : Int} (h : (k.val : Int) = a % 251) : fk a = k := by
  apply Fin.ext
  have := fk_val a
  omega
theorem fk_mod (a : Int) : fk (a % 251) = fk a := fk_eq.2 (by omega)
theorem fk_add (a b : Int) : fk (a + b) = fk a + fk b := by
  apply fk_of
  have h1 := fk_val a
  have h2 := fk_val b
  rw [Fin.val_add]
  omega
theorem fk_sub (a b : Int) : fk (a - b) = fk a - fk b := by
  apply fk_of
  have h1 := fk_val a
  have h2 := fk_val b
  have h3 := (fk b).isLt
  rw [Fin.val_sub]
  omega
theorem fk_mul (a b : Int) : fk (a * b) = fk a * fk b := by
  apply fk_of
  have h1 := fk_val a
  have h2 := fk_val b
  rw [Fin.val_mul]
  rw [Int.mul_emod, ← h1, ← h2]
  simp
theorem fk_zero : fk 0 = 0 := rfl
theorem fk_one : fk 1 = 1 := rfl
theorem fk_inj {a b : Int} (a0 : 0 ≤ a) (a1 : a ≤ 250) (b0 : 0 ≤ b) (b1 : b ≤ 250) (h : fk a = fk b) : a = b := by
  have := fk_eq.1 h
  omega
def iF (a : K251) : K251 := a ^ 249
theorem inv_ex : ∀ a : K251, a ≠ 0 → a * iF a = 1 := by decide +kernel
theorem mul_zero' {a b : K251} (h : a * b = 0) (ha : a ≠ 0) : b = 0 := by
  have h1 := inv_ex a ha
  grind
def eF : List K251 → K251 → K251
  | [], _ => 0
  | a :: l, x => a + x * eF l x
def dv : List K251 → K251 → List K251
  | [], _ => []
  | [_], _ => []
  | _ :: b :: l, r => eF (b :: l) r :: dv (b :: l) r
theorem dv_len : ∀ (l : List K251) (r : K251), (dv l r).length = l.length - 1
  | [], _ => rfl
  | [_], _ => rfl
  | _ :: b :: l, r => by
    have := dv_len (b :: l) r
    simp only [dv, List.length_cons] at this ⊢
    omega
theorem dv_eF : ∀ (l : List K251) (r x : K251), eF l x - eF l r = (x - r) * eF (dv l r) x
  | [], r, x => by simp only [eF, dv]; grind
  | [a], r, x => by simp only [eF, dv]; grind
  | a :: b :: l, r, x => by
    have ih := dv_eF (b :: l) r x
    have e1 : eF (a :: b :: l) x = a + x * eF (b :: l) x := rfl
    have e2 : eF (a :: b :: l) r = a + r * eF (b :: l) r := rfl
    have e3 : eF (dv (a :: b :: l) r) x = eF (b :: l) r + x * eF (dv (b :: l) r) x := rfl
    rw [e1, e2, e3]
    grind
theorem dv_zero : ∀ (l : List K251) (r : K251), (∀ c ∈ dv l r, c = 0) → eF l r = 0 → ∀ c ∈ l, c = 0
  | [], _, _, _ => fun _ h => by cases h
  | [a], r, _, h => fun c hc => by
    simp only [eF] at h
    rw [List.mem_singleton] at hc
    subst hc
    grind
  | a :: b :: l, r, hd, h => fun c hc => by
    have h1 : eF (b :: l) r = 0 := hd _ (by simp [dv])
    have h2 := dv_zero (b :: l) r (fun c hc => hd c (by simp only [dv, List.mem_cons]; exact .inr hc)) h1
    have e2 : eF (a :: b :: l) r = a + r * eF (b :: l) r := rfl
    rw [e2, h1] at h
    cases hc with
    | head => grind
    | tail _ hc => exact h2 c hc
theorem roots : ∀ (n : Nat) (l xs : List K251), l.length = n → n ≤ xs.length → xs.Nodup → (∀ x ∈ xs, eF l x = 0) → ∀ c ∈ l, c = 0
  | 0, l, _, hl, _, _, _ => by
    rw [List.length_eq_zero_iff] at hl
    subst hl
    exact fun _ h => by cases h
  | n + 1, l, [], _, hx, _, _ => by simp at hx
  | n + 1, l, r :: ys, hl, hx, hd, hr => by
    rw [List.nodup_cons] at hd
    have h0 := hr r (by simp)
    refine dv_zero l r ?_ h0
    refine roots n (dv l r) ys (by rw [dv_len]; omega) (by simpa using hx) hd.2 (fun y hy => ?_)
    have h1 := hr y (by simp [hy])
    have h2 := dv_eF l r y
    rw [h0, h1] at h2
    refine mul_zero' (a := y - r) (by rw [← h2]; grind) (fun e => hd.1 ?_)
    have : y = r := by grind
    rw [← this]; exact hy
def subL (l m : List K251) : List K251 := List.zipWith (· - ·) l m
theorem eF_sub : ∀ (l m : List K251) (x : K251), l.length = m.length → eF (subL l m) x = eF l x - eF m x
  | [], [], x, _ => by simp only [subL, List.zipWith_nil_left, eF]; grind
  | a :: l, b :: m, x, h => by
    have ih := eF_sub l m x (by simpa using h)
    simp only [subL, List.zipWith_cons_cons, eF] at ih ⊢
    rw [ih]
    grind
  | [], _ :: _, _, h => by simp at h
  | _ :: _, [], _, h => by simp at h
theorem subL_zero : ∀ (l m : List K251), l.length = m.length → (∀ c ∈ subL l m, c = 0) → l = m
  | [], [], _, _ => rfl
  | a :: l, b :: m, h, hz => by
    have h1 : a - b = 0 := hz _ (by simp [subL])
    have h2 := subL_zero l m (by simpa using h) (fun c hc => hz c (by simp only [subL, List.zipWith_cons_cons, List.mem_cons] at hc ⊢; exact .inr hc))
    rw [h2, show a = b by grind]
  | [], _ :: _, h, _ => by simp at h
  | _ :: _, [], h, _ => by simp at h
theorem uniqueF (l m xs : List K251) (h : l.length = m.length) (hx : l.length ≤ xs.length) (hd : xs.Nodup) (he : ∀ x ∈ xs, eF l x = eF m x) : l = m := by
  refine subL_zero l m h (roots l.length _ xs (by simp [subL, h]) hx hd (fun x hx => ?_))
  rw [eF_sub _ _ _ h, he x hx]
  grind
end Go.Proofs.Ytpfkfbbekfkcgaa.P
end
section
namespace Go.Proofs.Ytpfkfbbekfkcgaa.P
open Go.RowKit Go.Proofs.YtpfkfbbekfkcgaaW.PrintWords Go.Proofs.YtpfkfbbekfkcgaaW.PrintLast Go.Proofs.YtpfkfbbekfkcgaaW.PrintMore
set_option linter.unusedVariables false
set_option linter.unusedSimpArgs false
theorem inv_all' : ∀ n : Fin 251, fk (inv (n.val : Int)) = iF n := by decide +kernel
theorem fk_inv {a : Int} (ha : F251 a) : fk (inv a) = iF (fk a) := by
  obtain ⟨a0, a1⟩ := ha
  have h := inv_all' ⟨a.toNat, by omega⟩
  have e : ((⟨a.toNat, by omega⟩ : Fin 251).val : Int) = a := by simp [Int.toNat_of_nonneg a0]
  rw [e] at h
  rw [h]
  congr 1
  exact (fk_of (by simp; omega)).symm
theorem fk_ev (p : List Int) (x : Int) : fk (ev p x) = eF (p.map fk) (fk x) := by
  induction p with
  | nil => rfl
  | cons c p ih =>
    show fk (((ev p x * x) % 251 + c) % 251) = fk c + fk x * eF (p.map fk) (fk x)
    rw [fk_mod, fk_add, fk_mod, fk_mul, ih]
    grind
def facF (x : K251) (a b : S61) : K251 := if a.f0 = b.f0 then 1 else (x - fk b.f0) * iF (fk a.f0 - fk b.f0)
def prodF (x : K251) (a : S61) (l : List S61) : K251 := l.foldr (fun b p => facF x a b * p) 1
def sumF (f : S61 → K251) (l : List S61) : K251 := l.foldr (fun a v => f a + v) 0
theorem fk_part_from (x : Int) (a : S61) : ∀ (l : List S61) (p : Int), fk (l.foldl (factor x a) p) = fk p * prodF (fk x) a l
  | [], p => by show fk p = fk p * 1; grind
  | b :: l, p => by
    have e : fk (factor x a p b) = fk p * facF (fk x) a b := by
      unfold factor facF
      split
      · grind
      · rw [fk_mod, fk_mul, fk_mod, fk_mul, fk_mod, fk_sub, fk_inv (mod_in _), fk_mod, fk_sub]
        grind
    rw [List.foldl_cons, fk_part_from x a l, e]
    show _ = fk p * (facF (fk x) a b * prodF (fk x) a l)
    grind
theorem fk_part (x : Int) (l : List S61) (a : S61) : fk (part x l a) = fk a.f1 * prodF (fk x) a l := by
  unfold part
  rw [fk_part_from, fk_mod]
theorem fk_lag_from (x : Int) (m : List S61) : ∀ (l : List S61) (v : Int), fk (l.foldl (fun v a => (v + part x m a) % 251) v) = fk v + sumF (fun a => fk a.f1 * prodF (fk x) a m) l
  | [], v => by show fk v = fk v + 0; grind
  | a :: l, v => by
    rw [List.foldl_cons, fk_lag_from x m l, fk_mod, fk_add, fk_part]
    show _ = fk v + (fk a.f1 * prodF (fk x) a m + sumF _ l)
    grind
def lagF (l : List S61) (x : K251) : K251 := sumF (fun a => fk a.f1 * prodF x a l) l
theorem fk_lag (l : List S61) (x : Int) : fk (lag l x) = lagF l (fk x) := by
  unfold lag
  rw [fk_lag_from, fk_zero]
  show 0 + lagF l (fk x) = _
  grind
theorem lag_in (l : List S61) (x : Int) : F251 (lag l x) := by
  unfold lag
  refine snoc_ind (P := fun m => F251 (m.foldl (fun v a => (v + part x l a) % 251) 0)) ?_ ?_ l
  · exact ⟨Int.le_refl _, by show (0 : Int) ≤ 250; decide⟩
  · intro m a _
    rw [List.foldl_append]
    exact mod_in _
structure KD (l : List S61) : Prop where
  nd : (l.map S61.f0).Nodup
  k : ∀ s ∈ l, F251 s.f0
  v : ∀ s ∈ l, F251 s.f1
theorem fk_ne {a b : Int} (ha : F251 a) (hb : F251 b) (h : a ≠ b) : fk a ≠ fk b := fun e => h (fk_inj ha.1 ha.2 hb.1 hb.2 e)
theorem KD.sub {l m : List S61} (h : KD l) (p : m.Sublist l) : KD m :=
  ⟨h.nd.sublist (p.map _), fun s hs => h.k s (p.subset hs), fun s hs => h.v s (p.subset hs)⟩
def places (l : List S61) : List K251 := l.map fun s => fk s.f0
theorem nodup_map {α β : Type} {f : α → β} : ∀ {l : List α}, l.Nodup → (∀ a ∈ l, ∀ b ∈ l, f a = f b → a = b) → (l.map f).Nodup
  | [], _, _ => List.nodup_nil
  | a :: l, h, hi => by
    rw [List.nodup_cons] at h
    rw [List.map_cons, List.nodup_cons]
    refine ⟨fun hm => ?_, nodup_map h.2 (fun x hx y hy => hi x (List.mem_cons_of_mem _ hx) y (List.mem_cons_of_mem _ hy))⟩
    obtain ⟨b, hb, e⟩ := List.mem_map.1 hm
    have := hi b (List.mem_cons_of_mem _ hb) a (List.mem_cons_self ..) e
    exact h.1 (this ▸ hb)
theorem places_nd {l : List S61} (h : KD l) : (places l).Nodup := by
  have e : places l = (l.map S61.f0).map fk := by simp [places]
  rw [e]
  refine nodup_map h.nd (fun a ha b hb e => ?_)
  obtain ⟨s, hs, rfl⟩ := List.mem_map.1 ha
  obtain ⟨t, ht, rfl⟩ := List.mem_map.1 hb
  have h1 := h.k s hs
  have h2 := h.k t ht
  exact fk_inj h1.1 h1.2 h2.1 h2.2 e
theorem prodF_zero {x : K251} {a b : S61} : ∀ {l : List S61}, b ∈ l → a.f0 ≠ b.f0 → x = fk b.f0 → prodF x a l = 0
  | c :: l, hb, hne, hx => by
    show facF x a c * prodF x a l = 0
    cases hb with
    | head =>
      unfold facF
      rw [if_neg hne, hx]
      grind
    | tail _ hb =>
      rw [prodF_zero hb hne hx]
      grind
theorem prodF_one (a : S61) : ∀ (l : List S61), (∀ s ∈ l, F251 s.f0) → F251 a.f0 → prodF (fk a.f0) a l = 1
  | [], _, _ => rfl
  | b :: l, hl, ha => by
    show facF _ a b * prodF _ a l = 1
    rw [prodF_one a l (fun s hs => hl s (List.mem_cons_of_mem _ hs)) ha]
    unfold facF
    split
    · grind
    · rename_i hne
      have h1 := fk_ne ha (hl b (List.mem_cons_self ..)) hne
      have h2 := inv_ex (fk a.f0 - fk b.f0) (fun e => h1 (by grind))
      rw [h2]
      grind
theorem sumF_one {f : S61 → K251} {a : S61} : ∀ {l : List S61}, (l.map S61.f0).Nodup → a ∈ l → (∀ b ∈ l, b.f0 ≠ a.f0 → f b = 0) → sumF f l = f a
  | b :: l, hn, ha, hz => by
    show f b + sumF f l = f a
    rw [List.map_cons, List.nodup_cons] at hn
    cases ha with
    | head =>
      have : sumF f l = 0 := by
        have : ∀ m : List S61, (∀ c ∈ m, f c = 0) → sumF f m = 0 := by
          intro m
          induction m with
          | nil => exact fun _ => rfl
          | cons c m ih =>
            intro h
            show f c + sumF f m = 0
            rw [h c (List.mem_cons_self ..), ih (fun d hd => h d (List.mem_cons_of_mem _ hd))]
            grind
        exact this l (fun c hc => hz c (List.mem_cons_of_mem _ hc) (fun e => hn.1 (e ▸ List.mem_map_of_mem hc)))
      rw [this]
      grind
    | tail _ ha =>
      have h1 : b.f0 ≠ a.f0 := fun e => hn.1 (e ▸ List.mem_map_of_mem ha)
      rw [hz b (List.mem_cons_self ..) h1, sumF_one hn.2 ha (fun c hc => hz c (List.mem_cons_of_mem _ hc))]
      grind
theorem lagF_at {l : List S61} (h : KD l) {a : S61} (ha : a ∈ l) : lagF l (fk a.f0) = fk a.f1 := by
  unfold lagF
  rw [sumF_one h.nd ha (fun b hb hne => by rw [prodF_zero ha hne rfl]; grind), prodF_one a l h.k (h.k a ha)]
  grind
def mulC (k d : K251) : K251 → List K251 → List K251
  | c, [] => [c * d]
  | c, b :: q => (c - b * k) * d :: mulC k d b q
theorem mulC_len (k d : K251) : ∀ (c : K251) (q : List K251), (mulC k d c q).length = q.length + 1
  | _, [] => rfl
  | _, b :: q => by simp [mulC, mulC_len k d b q]
theorem mulC_eF (k d x : K251) : ∀ (c : K251) (q : List K251), eF (mulC k d c q) x = d * (c + (x - k) * eF q x)
  | c, [] => by simp only [mulC, eF]; grind
  | c, b :: q => by
    simp only [mulC, eF]
    rw [mulC_eF k d x b q]
    grind
def addL : List K251 → List K251 → List K251
  | [], m => m
  | l, [] => l
  | a :: l, b :: m => (a + b) :: addL l m
theorem addL_len : ∀ (l m : List K251), (addL l m).length = max l.length m.length
  | [], m => by simp [addL]
  | a :: l, [] => by simp [addL]
  | a :: l, b :: m => by simp [addL, addL_len l m]
theorem addL_eF (x : K251) : ∀ (l m : List K251), eF (addL l m) x = eF l x + eF m x
  | [], m => by simp only [addL, eF]; grind
  | a :: l, [] => by simp only [addL, eF]; grind
  | a :: l, b :: m => by
    simp only [addL, eF]
    rw [addL_eF x l m]
    grind
def oneL (a : S61) : List S61 → List K251
  | [] => [1]
  | b :: l => if a.f0 = b.f0 then oneL a l else mulC (fk b.f0) (iF (fk a.f0 - fk b.f0)) 0 (oneL a l)
theorem oneL_eF (x : K251) (a : S61) : ∀ (l : List S61), eF (oneL a l) x = prodF x a l
  | [] => by simp only [oneL, eF]; show _ = (1 : K251); grind
  | b :: l => by
    have ih := oneL_eF x a l
    show _ = facF x a b * prodF x a l
    unfold oneL facF
    split
    · rw [ih]; grind
    · rw [mulC_eF, ih]; grind
theorem oneL_le (a : S61) : ∀ (l : List S61), (oneL a l).length ≤ l.length + 1
  | [] => by simp [oneL]
  | b :: l => by
    have := oneL_le a l
    unfold oneL
    split
    · simp; omega
    · rw [mulC_len]; simp; omega
theorem oneL_lt {a : S61} : ∀ {l : List S61}, a ∈ l → (oneL a l).length ≤ l.length
  | b :: l, h => by
    unfold oneL
    cases h with
    | head =>
      rw [if_pos rfl]
      have := oneL_le a l
      simpa using this
    | tail _ h =>
      have := oneL_lt h
      split
      · simp; omega
      · rw [mulC_len]; simp; omega
def scL (c : K251) (q : List K251) : List K251 := q.map fun a => c * a
theorem scL_eF (c x : K251) : ∀ q : List K251, eF (scL c q) x = c * eF q x
  | [] => by simp only [scL, List.map_nil, eF]; grind
  | a :: q => by
    have ih := scL_eF c x q
    simp only [scL, List.map_cons, eF] at ih ⊢
    rw [ih]
    grind
def lagL (m : List S61) : List S61 → List K251
  | [] => []
  | a :: l => addL (scL (fk a.f1) (oneL a m)) (lagL m l)
theorem lagL_eF (x : K251) (m : List S61) : ∀ l : List S61, eF (lagL m l) x = sumF (fun a => fk a.f1 * prodF x a m) l
  | [] => rfl
  | a :: l => by
    show eF (addL _ _) x = fk a.f1 * prodF x a m + sumF _ l
    rw [addL_eF, scL_eF, oneL_eF, lagL_eF x m l]
theorem lagL_len (m : List S61) : ∀ l : List S61, (∀ a ∈ l, a ∈ m) → (lagL m l).length ≤ m.length
  | [], _ => by simp [lagL]
  | a :: l, h => by
    have h1 := lagL_len m l (fun b hb => h b (List.mem_cons_of_mem _ hb))
    have h2 := oneL_lt (h a (List.mem_cons_self ..))
    rw [lagL, addL_len, scL, List.length_map]
    omega
theorem eF_zeros (x : K251) (n : Nat) : ∀ l : List K251, eF (l ++ List.replicate n 0) x = eF l x
  | [] => by
    induction n with
    | zero => rfl
    | succ n ih =>
      simp only [List.nil_append, List.replicate_succ, eF] at ih ⊢
      rw [ih]
      grind
  | a :: l => by
    have := eF_zeros x n l
    simp only [List.cons_append, eF]
    rw [this]
theorem lag_list (l : List S61) (n : Nat) (hn : l.length ≤ n) : ∃ p : List K251, p.length = n ∧ ∀ x, eF p x = lagF l x := by
  refine ⟨lagL l l ++ List.replicate (n - (lagL l l).length) 0, ?_, fun x => ?_⟩
  · have := lagL_len l l (fun a h => h)
    simp; omega
  · rw [eF_zeros, lagL_eF]; rfl
end Go.Proofs.Ytpfkfbbekfkcgaa.P
end
section
namespace Go.Proofs.Ytpfkfbbekfkcgaa.P
open Go.RowKit Go.Proofs.YtpfkfbbekfkcgaaW.PrintWords Go.Proofs.YtpfkfbbekfkcgaaW.PrintLast Go.Proofs.YtpfkfbbekfkcgaaW.PrintMore
set_option linter.unusedVariables false
set_option linter.unusedSimpArgs false
theorem zipF_nil (F : Int → Int → Int) : zipF F [] [] = [] := rfl
theorem zipF_cons (F : Int → Int → Int) (a b : Int) (p q : List Int) : zipF F (a :: p) (b :: q) = F a b :: zipF F p q := by
  unfold zipF
  rw [List.length_cons, List.length_cons, Nat.succ_max_succ, List.range_succ_eq_map, List.map_cons, List.map_map]
  rfl
theorem zipF_left (F : Int → Int → Int) (a : Int) (p : List Int) : zipF F (a :: p) [] = F a 0 :: zipF F p [] := by
  unfold zipF
  rw [List.length_cons, List.length_nil, Nat.max_eq_left (Nat.zero_le _), Nat.max_eq_left (Nat.zero_le _), List.range_succ_eq_map, List.map_cons, List.map_map]
  rfl
theorem zipF_right (F : Int → Int → Int) (b : Int) (q : List Int) : zipF F [] (b :: q) = F 0 b :: zipF F [] q := by
  unfold zipF
  rw [List.length_cons, List.length_nil, Nat.max_eq_right (Nat.zero_le _), Nat.max_eq_right (Nat.zero_le _), List.range_succ_eq_map, List.map_cons, List.map_map]
  rfl
theorem eF_add : ∀ (p q : List Int) (x : K251), eF ((zipF addF p q).map fk) x = eF (p.map fk) x + eF (q.map fk) x
  | [], [], x => by rw [zipF_nil]; simp only [List.map_nil, eF]; grind
  | a :: p, [], x => by
    have ih := eF_add p [] x
    rw [zipF_left]
    simp only [List.map_cons, List.map_nil, eF, addF] at ih ⊢
    rw [ih, fk_mod, fk_add, fk_zero]
    grind
  | [], b :: q, x => by
    have ih := eF_add [] q x
    rw [zipF_right]
    simp only [List.map_cons, List.map_nil, eF, addF] at ih ⊢
    rw [ih, fk_mod, fk_add, fk_zero]
    grind
  | a :: p, b :: q, x => by
    have ih := eF_add p q x
    rw [zipF_cons]
    simp only [List.map_cons, eF, addF] at ih ⊢
    rw [ih, fk_mod, fk_add]
    grind
theorem eF_subF : ∀ (p q : List Int) (x : K251), eF ((zipF subF p q).map fk) x = eF (p.map fk) x - eF (q.map fk) x
  | [], [], x => by rw [zipF_nil]; simp only [List.map_nil, eF]; grind
  | a :: p, [], x => by
    have ih := eF_subF p [] x
    rw [zipF_left]
    simp only [List.map_cons, List.map_nil, eF, subF] at ih ⊢
    rw [ih, fk_mod, fk_sub, fk_zero]
    grind
  | [], b :: q, x => by
    have ih := eF_subF [] q x
    rw [zipF_right]
    simp only [List.map_cons, List.map_nil, eF, subF] at ih ⊢
    rw [ih, fk_mod, fk_sub, fk_zero]
    grind
  | a :: p, b :: q, x => by
    have ih := eF_subF p q x
    rw [zipF_cons]
    simp only [List.map_cons, eF, subF] at ih ⊢
    rw [ih, fk_mod, fk_sub]
    grind
theorem eF_scale (a : Int) (x : K251) : ∀ p : List Int, eF ((scale p a).map fk) x = fk a * eF (p.map fk) x
  | [] => by simp only [scale, List.map_nil, eF]; grind
  | c :: p => by
    have ih := eF_scale a x p
    simp only [scale, List.map_cons, eF] at ih ⊢
    rw [ih, fk_mod, fk_mul]
    grind
def prodK (l : List S61) (x : K251) : K251 := l.foldl (fun v s => v * (x - fk s.f0)) 1
theorem prodK_snoc (l : List S61) (a : S61) (x : K251) : prodK (l ++ [a]) x = prodK l x * (x - fk a.f0) := by
  unfold prodK
  rw [List.foldl_append]; rfl
theorem zero_mul' (a b : K251) (h : a = 0) : a * b = 0 := by subst h; grind
theorem prodK_zero {a : S61} {l : List S61} : a ∈ l → prodK l (fk a.f0) = 0 := by
  refine snoc_ind (P := fun l => a ∈ l → prodK l (fk a.f0) = 0) (fun h => by cases h) ?_ l
  intro l b ih h
  rw [prodK_snoc]
  rcases List.mem_append.1 h with h | h
  · exact zero_mul' _ _ (ih h)
  · rw [List.mem_singleton] at h
    subst h
    grind
theorem prodK_ne {x : K251} {l : List S61} : (∀ a ∈ l, x ≠ fk a.f0) → prodK l x ≠ 0 := by
  refine snoc_ind (P := fun l => (∀ a ∈ l, x ≠ fk a.f0) → prodK l x ≠ 0) (fun _ => show (1 : K251) ≠ 0 by decide) ?_ l
  intro l b ih h e
  rw [prodK_snoc] at e
  have h1 := ih (fun a ha => h a (List.mem_append_left _ ha))
  have h2 := mul_zero' e h1
  exact h b (List.mem_append_right _ (List.mem_singleton_self b)) (by grind)
theorem solved_two (l : List S61) (x : K251) : eF ((solved l).2.map fk) x = prodK l x := by
  refine snoc_ind (P := fun l => eF ((solved l).2.map fk) x = prodK l x) ?_ ?_ l
  · show eF ([1].map fk) x = 1
    simp only [List.map_cons, List.map_nil, eF, fk_one]
    grind
  · intro l a ih
    rw [solved_snoc, prodK_snoc]
    show eF ((zipF subF (0 :: (solved l).2) (scale (solved l).2 a.f0)).map fk) x = _
    rw [eF_subF, eF_scale, List.map_cons]
    simp only [eF, fk_zero]
    rw [ih]
    grind
theorem solved_len (l : List S61) : (solved l).1.length = l.length := by
  refine snoc_ind (P := fun l => (solved l).1.length = l.length) rfl ?_ l
  intro l a ih
  rw [solved_snoc]
  have h2 := (solved_in l).2.2.2
  simp only [solveStep, zipF_len, scale_len, List.length_append, List.length_singleton, ih, h2]
  omega
theorem solved_at (l : List S61) : KD l → ∀ a ∈ l, eF ((solved l).1.map fk) (fk a.f0) = fk a.f1 := by
  refine snoc_ind (P := fun l => KD l → ∀ a ∈ l, eF ((solved l).1.map fk) (fk a.f0) = fk a.f1) (fun _ a h => by cases h) ?_ l
  intro l b ih hk a ha
  have hl : KD l := hk.sub (List.sublist_append_left _ _)
  rw [solved_snoc]
  show eF ((zipF addF (solved l).1 (scale (solved l).2 _)).map fk) _ = _
  rw [eF_add, eF_scale, solved_two]
  rcases List.mem_append.1 ha with ha | ha
  · rw [ih hl a ha, prodK_zero ha]
    grind
  · rw [List.mem_singleton] at ha
    subst ha
    have hne : prodK l (fk a.f0) ≠ 0 := prodK_ne (fun c hc => by
      have hn := hk.nd
      rw [List.map_append, List.nodup_append] at hn
      exact fk_ne (hk.k a (by simp)) (hk.k c (by simp [hc])) (fun e => hn.2.2 c.f0 (List.mem_map_of_mem hc) a.f0 (by simp) e.symm))
    have h2 := inv_ex _ hne
    rw [fk_mod, fk_mul, fk_mod, fk_sub, fk_inv (ev_in _ _), fk_ev, fk_ev, solved_two]
    grind
def Fit (n : Nat) (l : List S61) : Prop := ∃ p : List K251, p.length = n ∧ ∀ a ∈ l, eF p (fk a.f0) = fk a.f1
theorem fit_unique {l : List S61} (h : KD l) {p q : List K251} (hp : p.length = q.length) (hl : p.length ≤ l.length)
    (h1 : ∀ a ∈ l, eF p (fk a.f0) = fk a.f1) (h2 : ∀ a ∈ l, eF q (fk a.f0) = fk a.f1) : p = q := by
  refine uniqueF p q (places l) hp (by simpa [places] using hl) (places_nd h) (fun x hx => ?_)
  obtain ⟨a, ha, rfl⟩ := List.mem_map.1 hx
  rw [h1 a ha, h2 a ha]
theorem all_fk {p q : List Int} (hp : all251 p) (hq : all251 q) (h : p.map fk = q.map fk) : p = q := by
  induction p generalizing q with
  | nil =>
    cases q with
    | nil => rfl
    | cons b q => simp at h
  | cons a p ih =>
    cases q with
    | nil => simp at h
    | cons b q =>
      simp only [List.map_cons, List.cons.injEq] at h
      have ha := hp a (by simp)
      have hb := hq b (by simp)
      rw [fk_inj ha.1 ha.2 hb.1 hb.2 h.1, ih (fun x hx => hp x (by simp [hx])) (fun x hx => hq x (by simp [hx])) h.2]
theorem agreeB_fit {n : Nat} {l : List S61} (h : KD l) : agreeB n l = true ↔ Fit n l := by
  unfold agreeB
  by_cases c : (l.length : Int) ≤ n
  · rw [if_pos c]
    obtain ⟨p, hp, he⟩ := lag_list l n (by omega)
    exact ⟨fun _ => ⟨p, hp, fun a ha => by rw [he, lagF_at h ha]⟩, fun _ => rfl⟩
  · rw [if_neg c, show (n : Int).toNat = n by omega]
    have ht : KD (l.take n) := h.sub (List.take_sublist _ _)
    obtain ⟨p, hp, he⟩ := lag_list (l.take n) n (by rw [List.length_take]; omega)
    have hlie : lieS (l.take n) (l.drop n) = true ↔ ∀ s ∈ l.drop n, lag (l.take n) s.f0 = s.f1 := by
      unfold lieS
      simp
    rw [hlie]
    constructor
    · intro hd
      refine ⟨p, hp, fun a ha => ?_⟩
      rw [he]
      rw [← List.take_append_drop n l] at ha
      rcases List.mem_append.1 ha with ha | ha
      · exact lagF_at ht ha
      · rw [← fk_lag, hd a ha]
    · rintro ⟨q, hq, hqa⟩ s hs
      have e : p = q := fit_unique ht (by omega) (by rw [List.length_take]; omega) (fun a ha => by rw [he, lagF_at ht ha]) (fun a ha => hqa a (List.mem_of_mem_take ha))
      have hs' := List.mem_of_mem_drop hs
      have h1 := hqa s hs'
      rw [← e, he, ← fk_lag] at h1
      have hv := h.v s hs'
      exact fk_inj (lag_in _ _).1 (lag_in _ _).2 hv.1 hv.2 h1
theorem ev_eq {p : List Int} {s : S61} (hv : F251 s.f1) : ev p s.f0 = s.f1 ↔ eF (p.map fk) (fk s.f0) = fk s.f1 := by
  rw [← fk_ev]
  exact ⟨fun e => by rw [e], fun e => fk_inj (ev_in _ _).1 (ev_in _ _).2 hv.1 hv.2 e⟩
theorem lieP_iff {p : List Int} {l : List S61} (h : ∀ s ∈ l, F251 s.f1) : lieP p l = true ↔ ∀ s ∈ l, eF (p.map fk) (fk s.f0) = fk s.f1 := by
  unfold lieP
  simp only [Bool.not_eq_true', List.any_eq_false, bne_iff_ne, ne_eq, Decidable.not_not]
  exact ⟨fun hh s hs => (ev_eq (h s hs)).1 (hh s hs), fun hh s hs => (ev_eq (h s hs)).2 (hh s hs)⟩
def itp (n : Nat) (l : List S61) : List Int := (solved (l.take n)).1
theorem itp_len {n : Nat} {l : List S61} (hn : n ≤ l.length) : (itp n l).length = n := by
  unfold itp
  rw [solved_len, List.length_take]
  omega
theorem itp_only {n : Nat} {l : List S61} (h : KD l) (hn : n ≤ l.length) {p : List K251} (hp : p.length = n) (ha : ∀ a ∈ l.take n, eF p (fk a.f0) = fk a.f1) : (itp n l).map fk = p := by
  have ht : KD (l.take n) := h.sub (List.take_sublist _ _)
  exact fit_unique ht (by rw [List.length_map, itp_len hn, hp]) (by rw [List.length_map, itp_len hn, List.length_take]; omega) (solved_at _ ht) ha
theorem lieP_fit {n : Nat} {l : List S61} (h : KD l) (hn : n ≤ l.length) : lieP (itp n l) l = true ↔ Fit n l := by
  rw [lieP_iff h.v]
  constructor
  · exact fun hh => ⟨(itp n l).map fk, by rw [List.length_map, itp_len hn], hh⟩
  · rintro ⟨p, hp, ha⟩
    rw [itp_only h hn hp (fun a hm => ha a (List.mem_of_mem_take hm))]
    exact ha
end Go.Proofs.Ytpfkfbbekfkcgaa.P
end
section
namespace Go.Proofs.Ytpfkfbbekfkcgaa.P
open Go.RowKit Go.Proofs.YtpfkfbbekfkcgaaW.PrintWords Go.Proofs.YtpfkfbbekfkcgaaW.PrintLast Go.Proofs.YtpfkfbbekfkcgaaW.PrintMore
set_option linter.unusedVariables false
set_option linter.unusedSimpArgs false
theorem Ev.pos {α : Type} {c : Prop} [Decidable c] {f g : Nat → Option α} {r : α} (h : c) (H : Ev f r) : Ev (fun k => if c then f k else g k) r := by
  simpa only [if_pos h] using H
theorem Ev.neg {α : Type} {c : Prop} [Decidable c] {f g : Nat → Option α} {r : α} (h : ¬ c) (H : Ev g r) : Ev (fun k => if c then f k else g k) r := by
  simpa only [if_neg h] using H
theorem Ev.have {α : Type} {x : Option α} {r : α} (h : x = some r) : Ev (fun _ => x) r := ⟨0, fun _ _ => h⟩
theorem w_nat (n : Nat) (h : n ≤ 4611686018427387904) : wrap64 ((n : Int) + 1) = ((n + 1 : Nat) : Int) := by unfold wrap64; omega
theorem rd_at (l : List Int) (n : Nat) (h : n < l.length) : rd l (n : Int) = l[n] := by
  unfold rd
  rw [Int.toNat_natCast, List.getD_eq_getElem?_getD, List.getElem?_eq_getElem h]; rfl
theorem drop_at {α : Type} (l : List α) (n : Nat) (h : n < l.length) : l.drop n = l[n] :: l.drop (n + 1) := List.drop_eq_getElem_cons h
theorem take_at {α : Type} (l : List α) (n : Nat) (h : n < l.length) : l.take (n + 1) = l.take n ++ [l[n]] := by rw [List.take_succ_eq_append_getElem h]
theorem rd61_at (l : List S61) (n : Nat) (h : n < l.length) : rd_T61 l (n : Int) = l[n] := by
  unfold rd_T61
  rw [Int.toNat_natCast, List.getD_eq_getElem?_getD, List.getElem?_eq_getElem h]; rfl
theorem rd91_at (l : List S91) (n : Nat) (h : n < l.length) : rd_T91 l (n : Int) = l[n] := by
  unfold rd_T91
  rw [Int.toNat_natCast, List.getD_eq_getElem?_getD, List.getElem?_eq_getElem h]; rfl
def g91 (s : S61) : S91 := ⟨s.f0, s.f1⟩
theorem rd91_g (l : List S61) (n : Nat) (h : n < l.length) : rd_T91 (l.map g91) (n : Int) = g91 l[n] := by
  rw [rd91_at _ _ (by simpa using h), List.getElem_map]
theorem is_f (a b c : Int) : pianolaref09_is.f a b c = some (btw b a c) := by
  unfold pianolaref09_is.f pianolaref01_Is.f btw
  by_cases h : b ≤ a
  · have : a ≥ b := h
    simp [h, this]
  · have : ¬ a ≥ b := h
    simp [h, this]
theorem mod_f (a : Int) (h0 : -1000000000000000 ≤ a) (h1 : a ≤ 1000000000000000) : pianolaref09_mod.f a = some (a % 251) := of_f a h0 h1
theorem ref_inv_all : ∀ n : Fin 251, n.val ≠ 0 → pianolaref09_inverse.f 252 (n.val : Int) = some (inv (n.val : Int)) := by decide +kernel
theorem ref_inv (a : Int) (ha : F251 a) (h : a ≠ 0) : Ev (fun k => pianolaref09_inverse.f k a) (inv a) := by
  obtain ⟨a0, a1⟩ := ha
  have := ref_inv_all ⟨a.toNat, by omega⟩ (by simp; omega)
  exact Ev.of (fun k => pianolaref09_inverse.mono _ k) (by simpa [Int.toNat_of_nonneg a0] using this)
theorem value_ev (l : List Int) (x : Int) (hx : F251 x) (hl : all251 l) (hn : l.length ≤ 1000000) : Ev (fun k => pianolaref09_value.f k l x) (ev l x) := by
  have key : ∀ (d n : Nat) (s p : Int), n + d = l.length → F251 s → F251 p → fk (ev l x) = fk s + fk p * eF ((l.drop n).map fk) (fk x) → Ev (fun k => pianolaref09_value.l0 k l x s p (n : Int)) (ev l x) := by
    intro d
    induction d with
    | zero =>
      intro n s p hd hs hp he
      refine Ev.step (fun k => by rw [pianolaref09_value.l0]) ?_
      refine Ev.neg (by omega) (Ev.have ?_)
      rw [List.drop_of_length_le (by omega)] at he
      simp only [List.map_nil, eF] at he
      rw [fk_inj (ev_in l x).1 (ev_in l x).2 hs.1 hs.2 (by rw [he]; grind)]
    | succ d ih =>
      intro n s p hd hs hp he
      have hlt : n < l.length := by omega
      have hc := hl _ (List.getElem_mem hlt)
      obtain ⟨m0, m1⟩ := mul_bd _ _ hc hp
      obtain ⟨q0, q1⟩ := mul_bd _ _ hp hx
      obtain ⟨s0, s1⟩ := hs
      refine Ev.step (fun k => by rw [pianolaref09_value.l0]) ?_
      refine Ev.pos (by omega) (Ev.pos (by omega) ?_)
      rw [rd_at l n hlt, show wrap64 (l[n] * p) = l[n] * p by unfold wrap64; omega, show wrap64 (s + l[n] * p) = s + l[n] * p by unfold wrap64; omega, show wrap64 (p * x) = p * x by unfold wrap64; omega]
      rw [mod_f _ (by omega) (by omega), mod_f _ (by omega) (by omega), w_nat n (by omega)]
      refine Ev.bind (Ev.now _) (Ev.bind (Ev.now _) ?_)
      refine ih (n + 1) _ _ (by omega) (mod_in _) (mod_in _) ?_
      rw [he, drop_at l n hlt, fk_mod, fk_mod, fk_add, fk_mul, fk_mul]
      simp only [List.map_cons, eF]
      grind
  refine key l.length 0 0 1 (by omega) ⟨by omega, by omega⟩ ⟨by omega, by omega⟩ ?_
  rw [fk_ev, fk_zero, fk_one, List.drop_zero]
  grind
end Go.Proofs.Ytpfkfbbekfkcgaa.P
end
section
namespace Go.Proofs.Ytpfkfbbekfkcgaa.P
open Go.RowKit Go.Proofs.YtpfkfbbekfkcgaaW.PrintWords Go.Proofs.YtpfkfbbekfkcgaaW.PrintLast Go.Proofs.YtpfkfbbekfkcgaaW.PrintMore
set_option linter.unusedVariables false
set_option linter.unusedSimpArgs false
theorem any_at (l : List S61) (n : Nat) (h : n < l.length) (P : S61 → Bool) : (l.take (n + 1)).any P = ((l.take n).any P || P l[n]) := by
  rw [take_at l n h, List.any_append]; simp
theorem refcheck_inner (l : List S61) (hl : l.length ≤ 20) (n : Nat) (hn : n < l.length) (R : Int)
    (H : (l.take n).any (fun t => t.f0 == l[n].f0) = false → Ev (fun k => pianolaref09_check.l0 k (l.map g91) ((n + 1 : Nat) : Int)) R)
    (H' : (l.take n).any (fun t => t.f0 == l[n].f0) = true → R = 9) :
    ∀ (d m : Nat), m + d = n → (l.take m).any (fun t => t.f0 == l[n].f0) = false → Ev (fun k => pianolaref09_check.l1 k (l.map g91) (n : Int) (m : Int)) R := by
  intro d
  induction d with
  | zero =>
    intro m hm ha
    refine Ev.step (fun k => by rw [pianolaref09_check.l1]) ?_
    refine Ev.neg (by omega) ?_
    obtain rfl : m = n := by omega
    rw [w_nat m (by omega)]
    exact H ha
  | succ d ih =>
    intro m hm ha
    have hlt : m < l.length := by omega
    refine Ev.step (fun k => by rw [pianolaref09_check.l1]) ?_
    refine Ev.pos (by omega) (Ev.pos (by omega) (Ev.pos (by simp; omega) (Ev.pos (by omega) (Ev.pos (by simp; omega) ?_))))
    rw [rd91_g l m hlt, rd91_g l n hn, w_nat m (by omega)]
    by_cases c : l[m].f0 = l[n].f0
    · refine Ev.pos c (Ev.have ?_)
      rw [H']
      rw [List.any_eq_true]
      exact ⟨l[m], by rw [List.mem_take_iff_getElem]; exact ⟨m, by omega, rfl⟩, by simpa using c⟩
    · refine Ev.neg c (ih (m + 1) (by omega) ?_)
      rw [any_at l m hlt, ha]
      simpa using c
theorem refcheck_ev (need : Int) (l : List S61) : Ev (fun k => pianolaref09_check.f k need (l.map g91)) (checkE need l) := by
  unfold pianolaref09_check.f checkE
  rw [is_f]
  refine Ev.bind (Ev.now _) ?_
  by_cases b : btw 1 need 8 = true
  · refine Ev.pos b ?_
    simp only [b, Bool.true_eq_false, if_false]
    by_cases hl : l.length > 20
    · refine Ev.pos (by simp; omega) (Ev.have ?_)
      rw [if_pos hl]
    · refine Ev.neg (by simp; omega) ?_
      rw [if_neg hl]
      have key : ∀ (d n : Nat), n + d = l.length → Ev (fun k => pianolaref09_check.l0 k (l.map g91) (n : Int)) (scan (l.take n) (l.drop n)) := by
        intro d
        induction d with
        | zero =>
          intro n hd
          refine Ev.step (fun k => by rw [pianolaref09_check.l0]) ?_
          refine Ev.neg (by simp; omega) (Ev.have ?_)
          rw [List.drop_of_length_le (by omega)]; rfl
        | succ d ih =>
          intro n hd
          have hlt : n < l.length := by omega
          refine Ev.step (fun k => by rw [pianolaref09_check.l0]) ?_
          refine Ev.pos (by simp; omega) (Ev.pos (by omega) ?_)
          rw [rd91_g l n hlt, is_f, is_f, drop_at l n hlt]
          refine Ev.bind (Ev.now _) ?_
          have hi : Ev (fun k => pianolaref09_check.j1 k (l.map g91) (n : Int) (!(btw 1 l[n].f0 20 && btw 0 l[n].f1 250))) (scan (l.take n) (l[n] :: l.drop (n + 1))) := by
            refine Ev.step (fun k => by rw [pianolaref09_check.j1]) ?_
            unfold scan
            by_cases c : (btw 1 l[n].f0 20 && btw 0 l[n].f1 250) = true
            · refine Ev.neg (by simp [c]) ?_
              rw [if_neg (by simp [c])]
              refine refcheck_inner l (by omega) n hlt _ (fun ha => ?_) (fun ha => ?_) n 0 (by omega) rfl
              · rw [if_neg (by rw [ha]; simp), ← take_at l n hlt]
                exact ih (n + 1) (by omega)
              · rw [if_pos ha]
            · rw [Bool.not_eq_true] at c
              refine Ev.pos (by rw [c]; rfl) (Ev.have ?_)
              rw [if_pos c]
          by_cases c1 : btw 1 l[n].f0 20 = true
          · refine Ev.pos c1 (Ev.bind (Ev.now _) ?_)
            have := hi
            rw [c1, Bool.true_and] at this
            exact this
          · refine Ev.neg c1 ?_
            have := hi
            rw [Bool.not_eq_true] at c1
            rw [c1, Bool.false_and] at this
            exact this
      have := key l.length 0 (by omega)
      exact this
  · refine Ev.neg b (Ev.have ?_)
    simp [b]
theorem scan_nd : ∀ (l b : List S61), scan b l = 0 → (b.map S61.f0).Nodup → ((b ++ l).map S61.f0).Nodup
  | [], b, _, hb => by rwa [List.append_nil]
  | s :: r, b, h, hb => by
    unfold scan at h
    by_cases c1 : (btw 1 s.f0 20 && btw 0 s.f1 250) = false
    · rw [if_pos c1] at h; omega
    · rw [if_neg c1] at h
      by_cases c2 : (b.any fun t => t.f0 == s.f0) = true
      · rw [if_pos c2] at h; omega
      · rw [if_neg c2] at h
        have := scan_nd r (b ++ [s]) h (by
          rw [List.map_append, List.nodup_append]
          refine ⟨hb, by simp, fun x hx y hy e => c2 ?_⟩
          obtain ⟨t, ht, rfl⟩ := List.mem_map.1 hx
          simp only [List.map_cons, List.map_nil, List.mem_singleton] at hy
          exact List.any_eq_true.2 ⟨t, ht, by simp [e, hy]⟩)
        rwa [List.append_assoc, List.singleton_append] at this
structure Fine (need : Int) (l : List S61) : Prop where
  n0 : 1 ≤ need
  n1 : need ≤ 8
  len : l.length ≤ 20
  good : ∀ s ∈ l, Good s
  kd : KD l
theorem checkE_fine {need : Int} {l : List S61} (h : checkE need l = 0) : Fine need l := by
  obtain ⟨a, b, c, d, e⟩ := checkE_ok h
  refine ⟨a, b, c, d, ?_, fun s hs => ?_, fun s hs => ?_⟩
  · have := scan_nd l [] e List.nodup_nil
    simpa using this
  · have := d s hs
    exact ⟨by have := this.1; omega, by have := this.2.1; omega⟩
  · have := d s hs
    exact ⟨this.2.2.1, this.2.2.2⟩
theorem set_mid {α : Type} (a : List α) (b v : α) (c : List α) : (a ++ b :: c).set a.length v = a ++ v :: c := by simp
theorem rd_mid (a : List Int) (b : Int) (c : List Int) : rd (a ++ b :: c) (a.length : Int) = b := by
  rw [rd_at _ _ (by simp)]
  simp
def mulTI (k d : Int) : Int → List Int → List Int
  | _, [] => []
  | c, b :: q => (c - ((b * k) % 251) * d) % 251 :: mulTI k d ((0 + b * d) % 251) q
def tailZ (c : Int) : List Int → List Int
  | [] => []
  | _ :: q => c :: List.replicate q.length 0
theorem tailZ_len (c : Int) (q : List Int) : (tailZ c q).length = q.length := by cases q <;> simp [tailZ]
theorem mulTI_len (k d : Int) : ∀ (c : Int) (q : List Int), (mulTI k d c q).length = q.length
  | _, [] => rfl
  | c, b :: q => by simp [mulTI, mulTI_len k d _ q]
theorem mulTI_in (k d : Int) : ∀ (c : Int) (q : List Int), all251 (mulTI k d c q)
  | _, [] => fun _ h => by cases h
  | c, b :: q => fun x hx => by
    cases hx with
    | head => exact mod_in _
    | tail _ hx => exact mulTI_in k d _ q x hx
theorem through_l2 (l : List S61) (x3 x5 : List Int) (x4 m : Nat) (d R' : Int) (R : List Int) (hm : m < l.length) (hk : F251 l[m].f0) (hd : F251 d) (hx5 : all251 x5) (h20 : x5.length ≤ 1000) :
    ∀ (rem pre done : List Int) (c : Int), x5 = pre ++ rem → done.length = pre.length → F251 c →
    Ev (fun k => pianolaref09_through.l1 k (l.map g91) x3 (x4 : Int) (done ++ mulTI l[m].f0 d c rem) ((m + 1 : Nat) : Int)) R →
    m ≤ 1000000 →
    Ev (fun k => pianolaref09_through.l2 k (l.map g91) x3 (x4 : Int) x5 (m : Int) d (done ++ tailZ c rem) (pre.length : Int)) R := by
  intro rem
  induction rem with
  | nil =>
    intro pre done c e hl hc H hm1
    refine Ev.step (fun k => by rw [pianolaref09_through.l2]) ?_
    refine Ev.neg (by rw [e, List.append_nil]; omega) ?_
    rw [w_nat m (by omega)]
    exact H
  | cons b q ih =>
    intro pre done c e hl hc H hm1
    have hb : F251 b := hx5 b (by rw [e]; simp)
    obtain ⟨p0, p1⟩ := mul_bd _ _ hb hk
    obtain ⟨q0, q1⟩ := mul_bd _ _ (mod_in (b * l[m].f0)) hd
    obtain ⟨s0, s1⟩ := mul_bd _ _ hb hd
    obtain ⟨c0, c1⟩ := hc
    have hlen : x5.length = pre.length + (q.length + 1) := by rw [e]; simp
    refine Ev.step (fun k => by rw [pianolaref09_through.l2]) ?_
    refine Ev.pos (by omega) (Ev.pos (by omega) (Ev.pos (by rw [List.length_append, tailZ_len]; simp; omega) (Ev.pos (by omega) (Ev.pos (by simp; omega) ?_))))
    have e5 : rd x5 (pre.length : Int) = b := by rw [e]; exact rd_mid pre b q
    have e8 : rd (done ++ tailZ c (b :: q)) (pre.length : Int) = c := by rw [← hl]; exact rd_mid done c _
    rw [e5, e8, rd91_g l m hm]
    simp only [g91]
    rw [show wrap64 (b * l[m].f0) = b * l[m].f0 by unfold wrap64; omega, Int.tmod_eq_emod_of_nonneg p0, show wrap64 ((b * l[m].f0) % 251 * d) = (b * l[m].f0) % 251 * d by unfold wrap64; omega,
      show wrap64 (c - (b * l[m].f0) % 251 * d) = c - (b * l[m].f0) % 251 * d by unfold wrap64; omega, mod_f _ (by omega) (by omega)]
    refine Ev.bind (Ev.now _) (Ev.bind (Ev.now _) ?_)
    rw [w_nat pre.length (by omega), Int.toNat_natCast, ← hl]
    have es : (done ++ tailZ c (b :: q)).set done.length ((c - (b * l[m].f0) % 251 * d) % 251) = done ++ (c - (b * l[m].f0) % 251 * d) % 251 :: List.replicate q.length 0 := set_mid _ _ _ _
    rw [es]
    have hpre : ((pre ++ [b]).length : Int) = ((done.length + 1 : Nat) : Int) := by rw [List.length_append, hl]; simp
    have hdone : (done ++ [(c - (b * l[m].f0) % 251 * d) % 251]).length = (pre ++ [b]).length := by simp [hl]
    cases q with
    | nil =>
      refine Ev.neg (by rw [hlen]; simp; omega) ?_
      have := ih (pre ++ [b]) (done ++ [(c - (b * l[m].f0) % 251 * d) % 251]) 0 (by rw [e]; simp) hdone ⟨by omega, by omega⟩ (by simpa [mulTI] using H) hm1
      rw [hpre] at this
      simpa [tailZ] using this
    | cons b2 q2 =>
      refine Ev.pos (by rw [hlen]; simp; omega) (Ev.pos (by omega) (Ev.pos (by rw [List.length_append, tailZ_len]; simp; omega) ?_))
      have er : rd (done ++ (c - (b * l[m].f0) % 251 * d) % 251 :: List.replicate (b2 :: q2).length 0) ((done.length + 1 : Nat) : Int) = 0 := by
        have := rd_mid (done ++ [(c - (b * l[m].f0) % 251 * d) % 251]) 0 (List.replicate q2.length 0)
        rw [List.length_append] at this
        simpa [List.replicate_succ] using this
      rw [er, show wrap64 (b * d) = b * d by unfold wrap64; omega, show wrap64 (0 + b * d) = 0 + b * d by unfold wrap64; omega, mod_f _ (by omega) (by omega)]
      refine Ev.bind (Ev.now _) ?_
      have := ih (pre ++ [b]) (done ++ [(c - (b * l[m].f0) % 251 * d) % 251]) ((0 + b * d) % 251) (by rw [e]; simp) hdone (mod_in _) (by
        rw [List.append_assoc, List.singleton_append]
        exact H) hm1
      rw [hpre] at this
      have e9 : (done ++ (c - (b * l[m].f0) % 251 * d) % 251 :: List.replicate (b2 :: q2).length 0).set (((done.length + 1 : Nat) : Int)).toNat ((0 + b * d) % 251) = done ++ [(c - (b * l[m].f0) % 251 * d) % 251] ++ tailZ ((0 + b * d) % 251) (b2 :: q2) := by
        simp [List.replicate_succ, tailZ]
      rw [e9]
      exact this
def mulT (k d : K251) : K251 → List K251 → List K251
  | _, [] => []
  | c, b :: q => (c - b * k * d) :: mulT k d (b * d) q
def mulD (k d : K251) : K251 → List K251 → List K251
  | c, [] => [c]
  | c, b :: q => (c - b * k * d) :: mulD k d (b * d) q
theorem mulTI_fk (k d : Int) : ∀ (c : Int) (q : List Int), (mulTI k d c q).map fk = mulT (fk k) (fk d) (fk c) (q.map fk)
  | _, [] => rfl
  | c, b :: q => by
    simp only [mulTI, List.map_cons, mulT]
    rw [mulTI_fk k d _ q, fk_mod, fk_sub, fk_mul, fk_mod, fk_mul, fk_mod, fk_add, fk_mul, fk_zero, show (0 : K251) + fk b * fk d = fk b * fk d by grind]
theorem mulT_zeros (k d : K251) : ∀ m : Nat, mulT k d 0 (List.replicate m 0) = List.replicate m 0
  | 0 => rfl
  | m + 1 => by
    rw [List.replicate_succ]
    simp only [mulT]
    rw [show (0 : K251) * d = 0 by grind, mulT_zeros k d m, show (0 : K251) - 0 * k * d = 0 by grind]
theorem mulT_mulD (k d : K251) (m : Nat) : ∀ (c : K251) (q : List K251), mulT k d c (q ++ List.replicate (m + 1) 0) = mulD k d c q ++ List.replicate m 0
  | c, [] => by
    rw [List.nil_append, List.replicate_succ]
    simp only [mulT, mulD]
    rw [show (0 : K251) * d = 0 by grind, mulT_zeros k d m, show c - 0 * k * d = c by grind]
    rfl
  | c, b :: q => by
    simp only [List.cons_append, mulT, mulD]
    rw [mulT_mulD k d m _ q]
theorem mulD_len (k d : K251) : ∀ (c : K251) (q : List K251), (mulD k d c q).length = q.length + 1
  | _, [] => rfl
  | _, b :: q => by simp [mulD, mulD_len k d _ q]
theorem mulD_eF (k d x : K251) : ∀ (c : K251) (q : List K251), eF (mulD k d c q) x = c + d * (x - k) * eF q x
  | c, [] => by simp only [mulD, eF]; grind
  | c, b :: q => by
    simp only [mulD, eF]
    rw [mulD_eF k d x _ q]
    grind
theorem prodF_snoc (x : K251) (a b : S61) : ∀ l : List S61, prodF x a (l ++ [b]) = prodF x a l * facF x a b
  | [] => by show facF x a b * 1 = 1 * facF x a b; grind
  | c :: l => by
    show facF x a c * prodF x a (l ++ [b]) = facF x a c * prodF x a l * facF x a b
    rw [prodF_snoc x a b l]
    grind
theorem sumF_snoc (f : S61 → K251) (b : S61) : ∀ l : List S61, sumF f (l ++ [b]) = sumF f l + f b
  | [] => by show f b + 0 = 0 + f b; grind
  | c :: l => by
    show f c + sumF f (l ++ [b]) = f c + sumF f l + f b
    rw [sumF_snoc f b l]
    grind
theorem kd_at {l : List S61} (h : KD l) {i j : Nat} (hi : i < l.length) (hj : j < l.length) : l[i].f0 = l[j].f0 ↔ i = j := by
  constructor
  · intro e
    have hn := h.nd
    have hp := List.pairwise_iff_getElem.1 hn
    rcases Nat.lt_trichotomy i j with c | c | c
    · exact absurd (by rw [List.getElem_map, List.getElem_map]; exact e) (hp i j (by simpa using hi) (by simpa using hj) c)
    · exact c
    · exact absurd (by rw [List.getElem_map, List.getElem_map]; exact e.symm) (hp j i (by simpa using hj) (by simpa using hi) c)
  · rintro rfl; rfl
theorem through_l1 (l : List S61) (hk : KD l) (h20 : l.length ≤ 1000) (x3 : List Int) (i : Nat) (hi : i < l.length) (R : List Int)
    (H : ∀ one : List Int, one.length = l.length → all251 one → (∀ x, eF (one.map fk) x = prodF x l[i] l) → Ev (fun k => pianolaref09_through.l3 k (l.map g91) x3 (i : Int) one 0) R) :
    ∀ (d m : Nat) (x5 : List Int) (q : List K251), m + d = l.length → x5.length = l.length → all251 x5 → x5.map fk = q ++ List.replicate (l.length - q.length) 0 → q.length = 1 + (if m ≤ i then m else m - 1) → (∀ x, eF q x = prodF x l[i] (l.take m)) →
    Ev (fun k => pianolaref09_through.l1 k (l.map g91) x3 (i : Int) x5 (m : Int)) R := by
  intro d
  induction d with
  | zero =>
    intro m x5 q hm hl5 ha hq hql he
    refine Ev.step (fun k => by rw [pianolaref09_through.l1]) ?_
    refine Ev.neg (by simp; omega) ?_
    refine H x5 hl5 ha (fun x => ?_)
    rw [hq, eF_zeros, he x, List.take_of_length_le (by omega)]
  | succ d ih =>
    intro m x5 q hm hl5 ha hq hql he
    have hlt : m < l.length := by omega
    refine Ev.step (fun k => by rw [pianolaref09_through.l1]) ?_
    refine Ev.pos (by simp; omega) ?_
    by_cases c : m = i
    · subst c
      refine Ev.pos rfl ?_
      rw [w_nat m (by omega)]
      refine ih (m + 1) x5 q (by omega) hl5 ha hq (by rw [hql, if_pos (Nat.le_refl _), if_neg (by omega)]; omega) (fun x => ?_)
      rw [take_at l m hlt, prodF_snoc, he x]
      unfold facF
      rw [if_pos rfl]
      grind
    · have ne : ¬ l[i].f0 = l[m].f0 := fun e => c ((kd_at hk hi hlt).1 e).symm
      refine Ev.neg (by omega) (Ev.pos (by omega) (Ev.pos (by simp; omega) (Ev.pos (by omega) ?_)))
      have h1 := hk.k l[i] (List.getElem_mem hi)
      have h2 := hk.k l[m] (List.getElem_mem hlt)
      obtain ⟨h10, h11⟩ := h1
      obtain ⟨h20', h21⟩ := h2
      rw [rd91_g l i hi, rd91_g l m hlt]
      simp only [g91]
      rw [show wrap64 (l[i].f0 - l[m].f0) = l[i].f0 - l[m].f0 by unfold wrap64; omega, mod_f _ (by omega) (by omega)]
      refine Ev.bind (Ev.now _) (Ev.bind (ref_inv _ (mod_in _) (by omega)) ?_)
      refine Ev.pos (by omega) (Ev.pos (by simp; omega) ?_)
      obtain ⟨b5, q5, e5⟩ : ∃ b q', x5 = b :: q' := by
        cases x5 with
        | nil => simp at hl5; omega
        | cons b q' => exact ⟨b, q', rfl⟩
      have hqlt : q.length + 1 ≤ l.length := by
        rw [hql]
        split <;> omega
      have := through_l2 l x3 x5 i m (inv ((l[i].f0 - l[m].f0) % 251)) 0 R hlt ⟨h20', h21⟩ (inv_in _) ha (by omega) x5 [] [] 0 rfl rfl ⟨by omega, by omega⟩ ?_ (by omega)
      · simp only [List.nil_append, List.length_nil] at this
        have e8 : tailZ 0 x5 = List.replicate ((l.map g91).length : Int).toNat 0 := by
          rw [e5]
          show 0 :: List.replicate q5.length 0 = _
          rw [← List.replicate_succ]
          congr 1
          rw [e5] at hl5
          simp at hl5 ⊢
          omega
        rw [e8] at this
        exact this
      · rw [List.nil_append]
        refine ih (m + 1) _ (mulD (fk l[m].f0) (fk (inv ((l[i].f0 - l[m].f0) % 251))) 0 q) (by omega) (by rw [mulTI_len, hl5]) (mulTI_in _ _ _ _) ?_ ?_ (fun x => ?_)
        · rw [mulTI_fk, hq, mulD_len, show l.length - q.length = (l.length - (q.length + 1)) + 1 by omega, fk_zero]
          exact mulT_mulD _ _ _ _ _
        · rw [mulD_len, hql]
          split <;> split <;> omega
        · rw [mulD_eF, he x, take_at l m hlt, prodF_snoc]
          unfold facF
          rw [if_neg ne, fk_inv (mod_in _), fk_mod, fk_sub]
          grind
def addI (v : Int) (a b : List Int) : List Int := List.zipWith (fun o e => (o + e * v) % 251) a b
theorem through_l3 (l : List S61) (h20 : l.length ≤ 1000) (i : Nat) (hi : i < l.length) (hv : F251 l[i].f1) (x5 : List Int) (h5 : all251 x5) (h5l : x5.length ≤ 1000) (R : List Int) :
    ∀ (r5 pre done r3 : List Int), x5 = pre ++ r5 → done.length = pre.length → r3.length = r5.length → (∀ c ∈ r3, F251 c) →
    Ev (fun k => pianolaref09_through.l0 k (l.map g91) (done ++ addI l[i].f1 r3 r5) ((i + 1 : Nat) : Int)) R →
    Ev (fun k => pianolaref09_through.l3 k (l.map g91) (done ++ r3) (i : Int) x5 (pre.length : Int)) R := by
  intro r5
  induction r5 with
  | nil =>
    intro pre done r3 e hl h3 hin H
    refine Ev.step (fun k => by rw [pianolaref09_through.l3]) ?_
    refine Ev.neg (by rw [e, List.append_nil]; omega) ?_
    rw [w_nat i (by omega)]
    cases r3 with
    | nil => exact H
    | cons => simp at h3
  | cons b q ih =>
    intro pre done r3 e hl h3 hin H
    cases r3 with
    | nil => simp at h3
    | cons c r3 =>
      have hb : F251 b := h5 b (by rw [e]; simp)
      obtain ⟨p0, p1⟩ := mul_bd _ _ hb hv
      obtain ⟨c0, c1⟩ := hin c (by simp)
      have hlen : x5.length = pre.length + (q.length + 1) := by rw [e]; simp
      refine Ev.step (fun k => by rw [pianolaref09_through.l3]) ?_
      refine Ev.pos (by omega) (Ev.pos (by omega) (Ev.pos (by simp; omega) (Ev.pos (by omega) (Ev.pos (by simp; omega) ?_))))
      have e5 : rd x5 (pre.length : Int) = b := by rw [e]; exact rd_mid pre b q
      have e8 : rd (done ++ c :: r3) (pre.length : Int) = c := by rw [← hl]; exact rd_mid done c _
      rw [e5, e8, rd91_g l i hi]
      simp only [g91]
      rw [show wrap64 (b * l[i].f1) = b * l[i].f1 by unfold wrap64; omega, show wrap64 (c + b * l[i].f1) = c + b * l[i].f1 by unfold wrap64; omega, mod_f _ (by omega) (by omega)]
      refine Ev.bind (Ev.now _) ?_
      rw [w_nat pre.length (by omega), Int.toNat_natCast, ← hl, set_mid]
      have := ih (pre ++ [b]) (done ++ [(c + b * l[i].f1) % 251]) r3 (by rw [e]; simp) (by simp [hl]) (by simpa using h3) (fun x hx => hin x (by simp [hx])) (by
        rw [List.append_assoc, List.singleton_append]
        exact H)
      rw [List.length_append, ← hl] at this
      simpa using this
theorem addI_len (v : Int) (a b : List Int) (h : a.length = b.length) : (addI v a b).length = b.length := by simp [addI, h]
theorem addI_in (v : Int) : ∀ (a b : List Int), all251 (addI v a b)
  | [], _ => fun _ h => by cases h
  | _ :: _, [] => fun _ h => by cases h
  | a :: p, b :: q => fun x hx => by
    cases hx with
    | head => exact mod_in _
    | tail _ hx => exact addI_in v p q x hx
theorem addI_eF (v : Int) (x : K251) : ∀ (a b : List Int), a.length = b.length → eF ((addI v a b).map fk) x = eF (a.map fk) x + eF (b.map fk) x * fk v
  | [], [], _ => by simp only [addI, List.zipWith_nil_left, List.map_nil, eF]; grind
  | [], _ :: _, h => by simp at h
  | _ :: _, [], h => by simp at h
  | a :: p, b :: q, h => by
    have ih := addI_eF v x p q (by simpa using h)
    simp only [addI, List.zipWith_cons_cons, List.map_cons, eF] at ih ⊢
    rw [ih, fk_mod, fk_add, fk_mul]
    grind
theorem through_ev (l : List S61) (hk : KD l) (h20 : l.length ≤ 1000) : Ev (fun k => pianolaref09_through.f k (l.map g91)) (solved l).1 := by
  unfold pianolaref09_through.f
  refine Ev.pos (by omega) (Ev.pos (by simp; omega) ?_)
  have key : ∀ (d i : Nat) (out : List Int), i + d = l.length → out.length = l.length → all251 out → (∀ x, eF (out.map fk) x = sumF (fun a => fk a.f1 * prodF x a l) (l.take i)) →
      Ev (fun k => pianolaref09_through.l0 k (l.map g91) out (i : Int)) (solved l).1 := by
    intro d
    induction d with
    | zero =>
      intro i out hd ho ha he
      refine Ev.step (fun k => by rw [pianolaref09_through.l0]) ?_
      refine Ev.neg (by simp; omega) (Ev.have ?_)
      congr 1
      refine all_fk ha (solved_in l).1 ?_
      refine fit_unique hk (by simp [ho, solved_len]) (by simp [ho]) (fun a hm => ?_) (solved_at l hk)
      rw [he, List.take_of_length_le (by omega)]
      exact lagF_at hk hm
    | succ d ih =>
      intro i out hd ho ha he
      have hi : i < l.length := by omega
      have hv := hk.v l[i] (List.getElem_mem hi)
      refine Ev.step (fun k => by rw [pianolaref09_through.l0]) ?_
      refine Ev.pos (by simp; omega) (Ev.pos (by omega) (Ev.pos (by simp; omega) (Ev.bind (Ev.now _) (Ev.pos (by simp; omega) ?_))))
      have e0 : (List.replicate ((l.map g91).length : Int).toNat (0 : Int)).set (0 : Int).toNat 1 = 1 :: List.replicate (l.length - 1) 0 := by
        rw [List.length_map, Int.toNat_natCast, show l.length = (l.length - 1) + 1 by omega, List.replicate_succ]
        rfl
      rw [e0]
      refine through_l1 l hk h20 out i hi _ (fun one h1 h2 h3 => ?_) l.length 0 _ [1] (by omega) (by simp; omega) ?_ ?_ ?_ ?_
      · refine through_l3 l h20 i hi hv one h2 (by omega) _ one [] [] out rfl rfl (by omega) ha ?_
        rw [List.nil_append]
        refine ih (i + 1) _ (by omega) (by rw [addI_len _ _ _ (by omega)]; exact h1) (addI_in _ _ _) (fun x => ?_)
        rw [addI_eF _ _ _ _ (by omega), he, h3, take_at l i hi, sumF_snoc]
        grind
      · intro c hc
        rw [List.mem_cons, List.mem_replicate] at hc
        rcases hc with rfl | ⟨_, rfl⟩
        · exact ⟨by omega, by omega⟩
        · exact ⟨by omega, by omega⟩
      · simp [fk_zero, fk_one]
      · simp
      · intro x
        show 1 + x * 0 = 1
        grind
  refine key l.length 0 _ (by omega) (by simp) ?_ (fun x => ?_)
  · intro c hc
    rw [List.mem_replicate] at hc
    rw [hc.2]
    exact ⟨by omega, by omega⟩
  · have := eF_zeros x ((l.map g91).length : Int).toNat []
    rw [List.map_replicate, fk_zero]
    exact this
theorem lieP_cons (p : List Int) (a : S61) (m : List S61) : lieP p (a :: m) = ((ev p a.f0 == a.f1) && lieP p m) := by
  unfold lieP
  rw [List.any_cons, Bool.not_or]
  simp [bne]
theorem lie_ev (p : List Int) (l : List S61) (hp : all251 p) (hpl : p.length ≤ 1000) (hl : ∀ s ∈ l, F251 s.f0) (hll : l.length ≤ 1000000) : Ev (fun k => pianolaref09_lie.f k p (l.map g91)) (lieP p l) := by
  unfold pianolaref09_lie.f
  have key : ∀ (d n : Nat), n + d = l.length → Ev (fun k => pianolaref09_lie.l0 k p (l.map g91) (n : Int)) (lieP p (l.drop n)) := by
    intro d
    induction d with
    | zero =>
      intro n hd
      refine Ev.step (fun k => by rw [pianolaref09_lie.l0]) ?_
      refine Ev.neg (by simp; omega) (Ev.have ?_)
      rw [List.drop_of_length_le (by omega)]; rfl
    | succ d ih =>
      intro n hd
      have hlt : n < l.length := by omega
      refine Ev.step (fun k => by rw [pianolaref09_lie.l0]) ?_
      refine Ev.pos (by simp; omega) (Ev.pos (by omega) ?_)
      rw [rd91_g l n hlt]
      simp only [g91]
      refine Ev.bind (value_ev p _ (hl _ (List.getElem_mem hlt)) hp (by omega)) ?_
      rw [w_nat n (by omega), drop_at l n hlt]
      by_cases c : ev p l[n].f0 = l[n].f1
      · refine Ev.pos c ?_
        have := ih (n + 1) (by omega)
        rw [lieP_cons, beq_iff_eq.2 c, Bool.true_and]
        exact this
      · refine Ev.neg c (Ev.have ?_)
        rw [lieP_cons, beq_eq_false_iff_ne.2 c, Bool.false_and]
  exact key l.length 0 (by omega)
theorem agree_same {need : Int} {l : List S61} (h : Fine need l) (hl : need < l.length) : lieP (solved (l.take need.toNat)).1 l = agreeB need l := by
  have hn : ((need.toNat : Nat) : Int) = need := by have := h.n0; omega
  have h1 := agreeB_fit (n := need.toNat) h.kd
  have h2 := lieP_fit (n := need.toNat) h.kd (by omega)
  rw [hn] at h1
  rw [Bool.eq_iff_iff]
  exact h2.trans h1.symm
theorem map_take' (l : List S61) (n : Nat) : (l.map g91).take n = (l.take n).map g91 := (List.map_take).symm
theorem refagree_ev {need : Int} {l : List S61} (h : Fine need l) : Ev (fun k => pianolaref09_agree.f k need (l.map g91)) (agreeB need l) := by
  unfold pianolaref09_agree.f
  have n0 := h.n0
  have n1 := h.n1
  have hl := h.len
  by_cases c : (l.length : Int) ≤ need
  · refine Ev.pos (by simpa using c) (Ev.have ?_)
    unfold agreeB
    rw [if_pos c]
  · refine Ev.neg (by simpa using c) (Ev.pos (by omega) (Ev.pos (by simp; omega) ?_))
    rw [map_take']
    refine Ev.bind (through_ev _ (h.kd.sub (List.take_sublist _ _)) (by simp; omega)) ?_
    refine Ev.bind (lie_ev _ l (solved_in _).1 (by rw [solved_len]; simp; omega) h.kd.k (by omega)) (Ev.have ?_)
    rw [agree_same h (by omega)]
theorem given_ev (l : List S61) (h : l.length ≤ 1000000) : Ev (fun k => pianolalaw09_given.f k l) (l.map g91) := by
  unfold pianolalaw09_given.f
  have key : ∀ (d n : Nat), n + d = l.length → Ev (fun k => pianolalaw09_given.l0 k l ((l.take n).map g91) (n : Int)) (l.map g91) := by
    intro d
    induction d with
    | zero =>
      intro n hd
      refine Ev.step (fun k => by rw [pianolalaw09_given.l0]) ?_
      refine Ev.neg (by omega) (Ev.have ?_)
      rw [List.take_of_length_le (by omega)]
    | succ d ih =>
      intro n hd
      have hlt : n < l.length := by omega
      refine Ev.step (fun k => by rw [pianolalaw09_given.l0]) ?_
      refine Ev.pos (by omega) (Ev.pos (by omega) (Ev.pos (by simp; omega) ?_))
      rw [rd61_at l n hlt, w_nat n (by omega)]
      have := ih (n + 1) (by omega)
      rw [take_at l n hlt, List.map_append] at this
      exact this
  exact key l.length 0 (by omega)
theorem numbers_ev (a b : List Int) (h : a.length ≤ 1000000) : Ev (fun k => pianolalaw09_numbers.f k a b) (decide (a = b)) := by
  unfold pianolalaw09_numbers.f
  by_cases hl : a.length = b.length
  · refine Ev.pos (by omega) ?_
    have key : ∀ (d n : Nat), n + d = a.length → Ev (fun k => pianolalaw09_numbers.l0 k a b (n : Int)) (decide (a.drop n = b.drop n)) := by
      intro d
      induction d with
      | zero =>
        intro n hd
        refine Ev.step (fun k => by rw [pianolalaw09_numbers.l0]) ?_
        refine Ev.neg (by omega) (Ev.have ?_)
        rw [List.drop_of_length_le (by omega), List.drop_of_length_le (by omega)]
        simp
      | succ d ih =>
        intro n hd
        have h1 : n < a.length := by omega
        have h2 : n < b.length := by omega
        refine Ev.step (fun k => by rw [pianolalaw09_numbers.l0]) ?_
        refine Ev.pos (by omega) (Ev.pos (by omega) (Ev.pos (by omega) ?_))
        rw [rd_at a n h1, rd_at b n h2, w_nat n (by omega), drop_at a n h1, drop_at b n h2]
        by_cases c : a[n] = b[n]
        · refine Ev.pos c ?_
          have := ih (n + 1) (by omega)
          rw [show decide (a[n] :: a.drop (n + 1) = b[n] :: b.drop (n + 1)) = decide (a.drop (n + 1) = b.drop (n + 1)) from decide_eq_decide.2 (by rw [List.cons.injEq]; exact ⟨fun h => h.2, fun h => ⟨c, h⟩⟩)]
          exact this
        · refine Ev.neg c (Ev.have ?_)
          rw [decide_eq_false (fun e => c (List.cons.inj e).1)]
    exact key a.length 0 (by omega)
  · refine Ev.neg (by omega) (Ev.have ?_)
    rw [decide_eq_false]
    intro e
    rw [e] at hl
    exact hl rfl
end Go.Proofs.Ytpfkfbbekfkcgaa.P
end
section
namespace Go.Proofs.Ytpfkfbbekfkcgaa.P
open Go.RowKit Go.Proofs.YtpfkfbbekfkcgaaW.PrintWords Go.Proofs.YtpfkfbbekfkcgaaW.PrintLast Go.Proofs.YtpfkfbbekfkcgaaW.PrintMore
set_option linter.unusedVariables false
set_option linter.unusedSimpArgs false
theorem nodup_len {α : Type} [DecidableEq α] : ∀ {l m : List α}, l.Nodup → (∀ x ∈ l, x ∈ m) → l.length ≤ m.length
  | [], _, _, _ => Nat.zero_le _
  | a :: l, m, h, hm => by
    rw [List.nodup_cons] at h
    have h1 := nodup_len (m := m.erase a) h.2 (fun x hx => (List.mem_erase_of_ne (fun e : x = a => h.1 (by rw [← e]; exact hx))).2 (hm x (List.mem_cons_of_mem _ hx)))
    have ha := hm a (List.mem_cons_self ..)
    have := List.length_pos_of_mem ha
    rw [List.length_erase_of_mem ha] at h1
    rw [List.length_cons]
    omega
end Go.Proofs.Ytpfkfbbekfkcgaa.P
end
section
namespace Go.Proofs.Ytpfkfbbekfkcgaa.P
open Go.RowKit Go.Proofs.YtpfkfbbekfkcgaaW.PrintWords Go.Proofs.YtpfkfbbekfkcgaaW.PrintLast Go.Proofs.YtpfkfbbekfkcgaaW.PrintMore
set_option linter.unusedVariables false
set_option linter.unusedSimpArgs false
def offN (p : List K251) (l : List S61) : List Nat := (List.range l.length).filter fun j : Nat => !decide (eF p (fk (rd_T61 l j).f0) = fk (rd_T61 l j).f1)
def offL (p : List K251) (l : List S61) : List Int := (offN p l).map fun j : Nat => (j : Int)
theorem rest_all (l : List S61) : ((List.range l.length).map fun j : Nat => rd_T61 l j) = l := by
  refine List.ext_getElem (by simp) (fun i h1 h2 => ?_)
  rw [List.getElem_map, List.getElem_range, rd61_at l i h2]
theorem restOf_sub (x : List Int) (l : List S61) : (restOf x l l.length).Sublist l := by
  have h : (restOf x l l.length).Sublist ((List.range l.length).map fun j : Nat => rd_T61 l j) := List.filter_sublist.map _
  rwa [rest_all] at h
theorem restOf_mem (x : List Int) (l : List S61) (a : S61) : a ∈ restOf x l l.length ↔ ∃ j : Nat, j < l.length ∧ ¬ (j : Int) ∈ x ∧ rd_T61 l j = a := by
  unfold restOf
  rw [List.mem_map]
  constructor
  · rintro ⟨j, hj, rfl⟩
    rw [List.mem_filter, List.mem_range] at hj
    exact ⟨j, hj.1, by simpa using hj.2, rfl⟩
  · rintro ⟨j, hj, hx, rfl⟩
    exact ⟨j, by rw [List.mem_filter, List.mem_range]; exact ⟨hj, by simpa using hx⟩, rfl⟩
theorem fit_rest {n : Nat} {l : List S61} {x : List Int} : Fit n (restOf x l l.length) ↔ ∃ p : List K251, p.length = n ∧ ∀ i ∈ offL p l, i ∈ x := by
  constructor
  · rintro ⟨p, hp, ha⟩
    refine ⟨p, hp, fun i hi => ?_⟩
    obtain ⟨j, hj, rfl⟩ := List.mem_map.1 hi
    unfold offN at hj
    rw [List.mem_filter, List.mem_range] at hj
    by_cases c : (j : Int) ∈ x
    · exact c
    · have := ha (rd_T61 l j) ((restOf_mem x l _).2 ⟨j, hj.1, c, rfl⟩)
      have h2 := hj.2
      simp [this] at h2
  · rintro ⟨p, hp, ha⟩
    refine ⟨p, hp, fun a hm => ?_⟩
    obtain ⟨j, hj, hx, rfl⟩ := (restOf_mem x l a).1 hm
    by_cases c : eF p (fk (rd_T61 l j).f0) = fk (rd_T61 l j).f1
    · exact c
    · exact absurd (ha (j : Int) (List.mem_map.2 ⟨j, by unfold offN; rw [List.mem_filter, List.mem_range]; exact ⟨hj, by simpa using c⟩, rfl⟩)) hx
theorem tryB_fit {n : Nat} {l : List S61} (h : KD l) (x : List Int) : tryB (n : Int) l x = true ↔ ∃ p : List K251, p.length = n ∧ ∀ i ∈ offL p l, i ∈ x := by
  unfold tryB
  rw [agreeB_fit (h.sub (restOf_sub x l)), fit_rest]
structure Asc (n : Nat) (x : List Int) : Prop where
  lt : x.Pairwise (· < ·)
  r : ∀ i ∈ x, 0 ≤ i ∧ i < (n : Int)
theorem asc_ext {x y : List Int} (hx : x.Pairwise (· < ·)) (hy : y.Pairwise (· < ·)) (h : ∀ i, i ∈ x ↔ i ∈ y) : x = y := by
  induction x generalizing y with
  | nil =>
    cases y with
    | nil => rfl
    | cons b y => exact absurd ((h b).2 (List.mem_cons_self ..)) (by simp)
  | cons a x ih =>
    cases y with
    | nil => exact absurd ((h a).1 (List.mem_cons_self ..)) (by simp)
    | cons b y =>
      rw [List.pairwise_cons] at hx hy
      have e : a = b := by
        rcases List.mem_cons.1 ((h a).1 (List.mem_cons_self ..)) with e | ha
        · exact e
        · rcases List.mem_cons.1 ((h b).2 (List.mem_cons_self ..)) with e | hb
          · exact e.symm
          · have := hy.1 a ha
            have := hx.1 b hb
            omega
      subst e
      congr 1
      refine ih hx.2 hy.2 (fun i => ?_)
      constructor
      · intro hi
        rcases List.mem_cons.1 ((h i).1 (List.mem_cons_of_mem _ hi)) with e | hi'
        · have := hx.1 i hi; omega
        · exact hi'
      · intro hi
        rcases List.mem_cons.1 ((h i).2 (List.mem_cons_of_mem _ hi)) with e | hi'
        · have := hy.1 i hi; omega
        · exact hi'
theorem asc_nodup {x : List Int} (hx : x.Pairwise (· < ·)) : x.Nodup := hx.imp (fun h => by omega)
theorem asc_sub {x y : List Int} (hx : x.Pairwise (· < ·)) (hy : y.Pairwise (· < ·)) (h : ∀ i ∈ x, i ∈ y) (hl : y.length ≤ x.length) : x = y := by
  refine asc_ext hx hy (fun i => ⟨h i, fun hi => ?_⟩)
  by_cases c : i ∈ x
  · exact c
  · have := nodup_len (l := i :: x) (m := y) (List.nodup_cons.2 ⟨c, asc_nodup hx⟩) (fun j hj => by
      rcases List.mem_cons.1 hj with e | hj
      · rw [e]; exact hi
      · exact h j hj)
    simp at this
    omega
theorem offL_asc (p : List K251) (l : List S61) : Asc l.length (offL p l) := by
  constructor
  · unfold offL
    rw [List.pairwise_map]
    have : (offN p l).Pairwise (· < ·) := List.Pairwise.filter _ List.pairwise_lt_range
    exact this.imp (fun h => by omega)
  · intro i hi
    obtain ⟨j, hj, rfl⟩ := List.mem_map.1 hi
    unfold offN at hj
    rw [List.mem_filter, List.mem_range] at hj
    omega
theorem combos_iff : ∀ (d r : Nat) (f : Int) (b x : List Int), x ∈ combos d r f b ↔ ∃ y, x = b ++ y ∧ y.length = d ∧ y.Pairwise (· < ·) ∧ ∀ i ∈ y, f ≤ i ∧ i < f + r
  | 0, r, f, b, x => by
    have e : combos 0 r f b = [b] := by cases r <;> rfl
    rw [e, List.mem_singleton]
    constructor
    · rintro rfl; exact ⟨[], by simp, rfl, List.Pairwise.nil, fun _ h => by cases h⟩
    · rintro ⟨y, rfl, hy, _⟩
      rw [List.length_eq_zero_iff] at hy
      subst hy; simp
  | d + 1, 0, f, b, x => by
    simp only [combos, List.not_mem_nil, false_iff]
    rintro ⟨y, _, hy, _, hr⟩
    cases y with
    | nil => simp at hy
    | cons a y => have := hr a (List.mem_cons_self ..); omega
  | d + 1, r + 1, f, b, x => by
    unfold combos
    rw [List.mem_append, combos_iff d r (f + 1) (b ++ [f]) x, combos_iff (d + 1) r (f + 1) b x]
    constructor
    · rintro (⟨y, rfl, hy, hp, hr⟩ | ⟨y, rfl, hy, hp, hr⟩)
      · refine ⟨f :: y, by simp, by simp [hy], List.pairwise_cons.2 ⟨fun i hi => by have := hr i hi; omega, hp⟩, fun i hi => ?_⟩
        rcases List.mem_cons.1 hi with e | hi
        · omega
        · have := hr i hi; omega
      · exact ⟨y, rfl, hy, hp, fun i hi => by have := hr i hi; omega⟩
    · rintro ⟨y, rfl, hy, hp, hr⟩
      cases y with
      | nil => simp at hy
      | cons a y =>
        rw [List.pairwise_cons] at hp
        by_cases c : a = f
        · subst c
          exact .inl ⟨y, by simp, by simpa using hy, hp.2, fun i hi => by have := hp.1 i hi; have := hr i (List.mem_cons_of_mem _ hi); omega⟩
        · refine .inr ⟨a :: y, rfl, hy, List.pairwise_cons.2 hp, fun i hi => ?_⟩
          have ha := hr a (List.mem_cons_self ..)
          rcases List.mem_cons.1 hi with e | hi'
          · omega
          · have := hp.1 i hi'; have := hr i hi; omega
theorem all_iff (n s : Nat) (x : List Int) : x ∈ allCombos n s ↔ x.length = s ∧ Asc n x := by
  unfold allCombos
  rw [combos_iff]
  constructor
  · rintro ⟨y, rfl, hy, hp, hr⟩
    exact ⟨by simpa using hy, ⟨by simpa using hp, fun i hi => by have := hr i (by simpa using hi); omega⟩⟩
  · rintro ⟨hl, hp, hr⟩
    exact ⟨x, rfl, hl, hp, fun i hi => by have := hr i hi; omega⟩
theorem wrongFrom_some (need : Int) (l : List S61) : ∀ (k s : Nat) (x : List Int), wrongFrom need l k s = some x → ∃ s', s ≤ s' ∧ s' < s + k ∧ x ∈ allCombos l.length s' ∧ tryB need l x = true ∧ ∀ s'', s ≤ s'' → s'' < s' → ∀ y ∈ allCombos l.length s'', tryB need l y = false
  | 0, s, x, h => by simp [wrongFrom] at h
  | k + 1, s, x, h => by
    unfold wrongFrom at h
    cases hf : (allCombos l.length s).find? (tryB need l) with
    | some y =>
      rw [hf] at h
      injection h with h
      subst h
      exact ⟨s, Nat.le_refl _, by omega, List.mem_of_find?_eq_some hf, List.find?_some hf, fun s'' h1 h2 => by omega⟩
    | none =>
      rw [hf] at h
      obtain ⟨s', h1, h2, h3, h4, h5⟩ := wrongFrom_some need l k (s + 1) x h
      refine ⟨s', by omega, by omega, h3, h4, fun s'' g1 g2 y hy => ?_⟩
      by_cases c : s'' = s
      · subst c
        have := List.find?_eq_none.1 hf y hy
        simpa using this
      · exact h5 s'' (by omega) g2 y hy
theorem wrongFrom_none (need : Int) (l : List S61) : ∀ (k s : Nat), wrongFrom need l k s = none → ∀ s'', s ≤ s'' → s'' < s + k → ∀ y ∈ allCombos l.length s'', tryB need l y = false
  | 0, s, _, s'', h1, h2, _, _ => by omega
  | k + 1, s, h, s'', h1, h2, y, hy => by
    unfold wrongFrom at h
    cases hf : (allCombos l.length s).find? (tryB need l) with
    | some y => rw [hf] at h; cases h
    | none =>
      rw [hf] at h
      by_cases c : s'' = s
      · subst c
        have := List.find?_eq_none.1 hf y hy
        simpa using this
      · exact wrongFrom_none need l k (s + 1) h s'' (by omega) (by omega) y hy
theorem off_unique {n most : Nat} {l : List S61} (h : KD l) (hl : n + 2 * most ≤ l.length) {p q : List K251} (hp : p.length = n) (hq : q.length = n) {x y : List Int}
    (hx : ∀ i ∈ offL p l, i ∈ x) (hy : ∀ i ∈ offL q l, i ∈ y) (lx : x.length ≤ most) (ly : y.length ≤ most) : p = q := by
  have hk := h.sub (restOf_sub (x ++ y) l)
  have on : ∀ (r : List K251), (∀ i ∈ offL r l, i ∈ x ++ y) → ∀ a ∈ restOf (x ++ y) l l.length, eF r (fk a.f0) = fk a.f1 := by
    intro r hr a ha
    obtain ⟨j, hj, hn, rfl⟩ := (restOf_mem _ l a).1 ha
    by_cases c : eF r (fk (rd_T61 l j).f0) = fk (rd_T61 l j).f1
    · exact c
    · exact absurd (hr (j : Int) (List.mem_map.2 ⟨j, by unfold offN; rw [List.mem_filter, List.mem_range]; exact ⟨hj, by simpa using c⟩, rfl⟩)) hn
  have hlen : n ≤ (restOf (x ++ y) l l.length).length := by
    unfold restOf
    rw [List.length_map]
    have h1 := nodup_len (l := (List.range l.length).map fun j : Nat => (j : Int)) (m := (((List.range l.length).filter fun j : Nat => !decide ((j : Int) ∈ x ++ y)).map fun j : Nat => (j : Int)) ++ (x ++ y))
      (nodup_map List.nodup_range (fun a _ b _ e => by omega)) (fun i hi => by
        obtain ⟨j, hj, rfl⟩ := List.mem_map.1 hi
        rw [List.mem_range] at hj
        by_cases c : (j : Int) ∈ x ++ y
        · exact List.mem_append_right _ c
        · exact List.mem_append_left _ (List.mem_map.2 ⟨j, by rw [List.mem_filter, List.mem_range]; exact ⟨hj, by rw [decide_eq_false c]; rfl⟩, rfl⟩))
    simp only [List.length_append, List.length_map, List.length_range] at h1
    omega
  exact fit_unique hk (by omega) (by omega) (on p (fun i hi => List.mem_append_left _ (hx i hi))) (on q (fun i hi => List.mem_append_right _ (hy i hi)))
def wrongR (need most : Int) (l : List S61) : List Int × Int :=
  if checkE need l ≠ 0 then ([], checkE need l) else if btw 0 most 3 = false then ([], 3) else if (l.length : Int) < need + 2 * most then ([], 8) else
    match wrongFrom need l (most.toNat + 1) 0 with | some x => (sortI (keeps x l), 0) | none => ([], 15)
theorem Wrong_f (need most : Int) (l : List S61) : vault_Wrong.f need most l = some (wrongR need most l) := rfl
theorem sorted_eq {x y : List Int} (hx : x.Pairwise (· ≤ ·)) (hy : y.Pairwise (· ≤ ·)) (h : x.Perm y) : x = y := by
  induction x generalizing y with
  | nil => rw [List.nil_perm.1 h]
  | cons a x ih =>
    cases y with
    | nil => exact absurd h.length_eq (by simp)
    | cons b y =>
      rw [List.pairwise_cons] at hx hy
      have e : a = b := by
        have h1 : b ∈ a :: x := h.mem_iff.2 (List.mem_cons_self ..)
        have h2 : a ∈ b :: y := h.mem_iff.1 (List.mem_cons_self ..)
        rcases List.mem_cons.1 h1 with e | h1
        · exact e.symm
        · rcases List.mem_cons.1 h2 with e | h2
          · exact e
          · have := hx.1 b h1
            have := hy.1 a h2
            omega
      subst e
      rw [ih hx.2 hy.2 (List.perm_cons a |>.1 h)]
theorem sortI_perm (x : List Int) : (sortI x).Perm x := List.mergeSort_perm _ _
theorem sortI_sorted (x : List Int) : (sortI x).Pairwise (· ≤ ·) := by
  have := List.pairwise_mergeSort (le := fun a b : Int => decide (a ≤ b)) (fun a b c h1 h2 => by simp at *; omega) (fun a b => by simp; omega) x
  exact this.imp (fun h => by simpa using h)
theorem sortI_eq {x y : List Int} (hy : y.Pairwise (· ≤ ·)) (h : y.Perm x) : sortI x = y := sorted_eq (sortI_sorted x) hy ((sortI_perm x).trans h.symm)
end Go.Proofs.Ytpfkfbbekfkcgaa.P
end
