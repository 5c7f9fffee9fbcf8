/- Words and contracts for a claim. -/
import Derived.Test.YtpfkfbbekfkcgaaVaultPossible3
import Derived.StillTailTactics
section
namespace Go.Proofs.Ytpfkfbbekfkcgaa.P
open Go.RowKit Go.Proofs.YtpfkfbbekfkcgaaW.PrintWords Go.Proofs.YtpfkfbbekfkcgaaW.PrintLast Go.Proofs.YtpfkfbbekfkcgaaW.PrintMore
attribute [local go_sem] max2_int min2_int max_two min_two max_three min_three max_four min_four
set_option linter.unusedVariables false
set_option linter.unusedSimpArgs false
attribute [local go_sem high] eqA61
theorem vault_read.mono_l : ∀ k, (∀ y0 y1 y2 y3, LeO (vault_read.l0 k y0 y1 y2 y3) (vault_read.l0 (k + 1) y0 y1 y2 y3))
  | 0 => fun _ _ _ _ r h => by simp [vault_read.l0] at h
  | k + 1 => by
    have ih0 := vault_read.mono_l k
    · intro y0 y1 y2 y3
      unfold vault_read.l0
      repeat' first
      | (with_reducible exact ih0 _ _ _ _)
      | (with_reducible exact LeO.refl _)
      | (with_reducible exact LeO.none _)
      | (with_reducible refine LeO.ite ?_ ?_)
      | (with_reducible refine LeO.bind ?_ (fun _ => ?_))
      | exact ih0 _ _ _ _
      | exact LeO.none _
      | refine LeO.ite ?_ ?_
      | refine LeO.bind ?_ (fun _ => ?_)
theorem pianolaref09_inverse.mono_l : ∀ k, (∀ y0 y1, LeO (pianolaref09_inverse.l0 k y0 y1) (pianolaref09_inverse.l0 (k + 1) y0 y1))
  | 0 => fun _ _ r h => by simp [pianolaref09_inverse.l0] at h
  | k + 1 => by
    have ih0 := pianolaref09_inverse.mono_l k
    · intro y0 y1
      unfold pianolaref09_inverse.l0
      repeat' first
      | (with_reducible exact ih0 _ _)
      | (with_reducible exact LeO.refl _)
      | (with_reducible exact LeO.none _)
      | (with_reducible refine LeO.ite ?_ ?_)
      | (with_reducible refine LeO.bind ?_ (fun _ => ?_))
      | exact ih0 _ _
      | exact LeO.none _
      | refine LeO.ite ?_ ?_
      | refine LeO.bind ?_ (fun _ => ?_)
theorem pianolaref09_inverse.mono : ∀ a0 k, LeO (pianolaref09_inverse.f k a0) (pianolaref09_inverse.f (k + 1) a0) := by
  intro a0 k
  have ih0 := pianolaref09_inverse.mono_l k
  unfold pianolaref09_inverse.f
  repeat' first
      | (with_reducible exact ih0 _ _)
      | (with_reducible exact LeO.refl _)
      | (with_reducible exact LeO.none _)
      | (with_reducible refine LeO.ite ?_ ?_)
      | (with_reducible refine LeO.bind ?_ (fun _ => ?_))
      | exact ih0 _ _
      | exact LeO.none _
      | refine LeO.ite ?_ ?_
      | refine LeO.bind ?_ (fun _ => ?_)
end Go.Proofs.Ytpfkfbbekfkcgaa.P
end
section
namespace Go.Proofs.Ytpfkfbbekfkcgaa.P
open Go.RowKit Go.Proofs.YtpfkfbbekfkcgaaW.PrintWords Go.Proofs.YtpfkfbbekfkcgaaW.PrintLast Go.Proofs.YtpfkfbbekfkcgaaW.PrintMore
attribute [local go_sem] max2_int min2_int max_two min_two max_three min_three max_four min_four
set_option linter.unusedVariables false
set_option linter.unusedSimpArgs false
def pianolaref09_agree.f (k : Nat) (a0 : Int) (l1 : List (S91)) : Option (Bool) := if (l1.length : Int) ≤ a0 then (some true) else (if 0 ≤ a0 then (if a0 ≤ (l1.length : Int) then ((pianolaref09_through.f k (l1.take (a0 : Int).toNat)).bind fun t215 => ((pianolaref09_lie.f k t215 l1).bind fun t218 => (some t218))) else (none)) else (none))
def pianolalaw09_given.l0 : Nat → List (S61) → List (S91) → Int → Option ((List (S91)))
  | 0, _, _, _ => none
  | k + 1, x0, x3, x4 => if x4 < (x0.length : Int) then (if 0 ≤ x4 then (if x3.length < 8796093022208 then (pianolalaw09_given.l0 k x0 (x3 ++ [(⟨(rd_T61 x0 x4).f0, (rd_T61 x0 x4).f1⟩ : S91)]) (wrap64 (x4 + 1))) else (none)) else (none)) else (some x3)
def pianolalaw09_given.f (k : Nat) (l0 : List (S61)) : Option ((List (S91))) := pianolalaw09_given.l0 k l0 ([] : List (S91)) 0
set_option maxHeartbeats 8000000 in
set_option maxRecDepth 100000 in
theorem pianolalaw09_given.calls (k : Nat) (A0 : Option Addr) (c0 : Nat) (l0 : List (S61)) (r : List (S91)) (w : World) (hr0 : Kd.C k61 w A0 l0.length l0) (hc0 : l0.length ≤ c0) (h : pianolalaw09_given.f k l0 = some r) :
    Calls Try.prog 27 #[.slice A0 l0.length c0] w fun e w' => ∃ v0_ : Value, e = .returned (v0_) ∧ Kd.R k91 91 w' w.heap.size (fun _ => True) v0_ r ∧ Below w.heap.size w w' := by
  have hu61 := Try.underlying61
  have HR0 := Aside0.mk hr0
  have HC0 := Aside0.mk hc0
  clear hr0 hc0
  have HB := Aside0.mk (Below.refl w.heap.size w)
  have H : (pianolalaw09_given.l0 k l0 ([] : List (S91)) 0) = some r := h
  clear h
  have H' := Aside0.mk H
  clear H
  go_enter Try.func27, Try.ntmps27
  go_wp2
  go_loopg [3, 4] k (fun kq v3 v4 w' => ∃ (x3_1 : List (S91)) (x4_1 : Int), v4 = .int .i64 x4_1 ∧ Aside0 (pianolalaw09_given.l0 kq l0 x3_1 x4_1 = some r) ∧ Aside0 (kq ≤ k) ∧ Aside0 (Kd.R k91 91 w' w.heap.size (fun _ => True) v3 x3_1) ∧ Aside0 (Below w.heap.size w w'))
  case atStart => exact ⟨(([] : List (S91))), (0), (by first | rfl | (simp; done) | (simp [*]; done)), H', ⟨Nat.le_refl _⟩, ⟨by first | exact Kd.R_nil _ _ _ _ _ | exact Kd.N_nil _ _ _ _ _ | exact Kd.V_nil _ _ _ _ _ | exact Kd.Q_nil _ _ _ _ _ | exact Kd.S_nil _ _ _ _ _⟩, ⟨by repeat (first | (with_reducible first | exact HB.out | apply below_alloc | apply pw_below_drewN | apply below_drew1) | exact HB.out)⟩⟩
  case round =>
    clear H'
    obtain ⟨x3_1, x4_1, rfl, HA, HK1, HO_3, HB⟩ := hrel
    cases gk with
    | zero => exact absurd HA.out (by simp [pianolalaw09_given.l0])
    | succ k1 =>
      have H := HA.out
      clear HA
      simp only [pianolalaw09_given.l0] at H
      by_cases c2 : x4_1 < (l0.length : Int)
      · rw [if_pos c2] at H
        have c2b0 : decide (x4_1 < (l0.length : Int)) = true := decide_eq_true c2
        clear c2
        by_cases c3 : 0 ≤ x4_1
        · rw [if_pos c3] at H
          have c3b0 : decide (0 ≤ x4_1) = true := decide_eq_true c3
          clear c3
          by_cases c4 : x3_1.length < 8796093022208
          · rw [if_pos c4] at H
            have LMc4 := Aside0.mk c4
            clear c4
            obtain ⟨y222, hy222⟩ : ∃ y_ : List (S91), y_ = (x3_1 ++ [(⟨(rd_T61 l0 x4_1).f0, (rd_T61 l0 x4_1).f1⟩ : S91)]) := ⟨_, rfl⟩
            replace H : (pianolalaw09_given.l0 k1 l0 y222 (wrap64 (x4_1 + 1))) = some r := by first | (rw [hy222]; with_reducible exact H) | (have H2_ := (Option.bind_some _ _).symm.trans H; rw [hy222]; with_reducible exact H2_) | (have H2_ := (Option.bind_some _ _).symm.trans H; with_reducible exact H2_) | with_reducible exact H | (rw [hy222]; exact H) | exact H
            have Ny222 := Aside0.mk hy222
            clear hy222
            have H' := Aside0.mk H
            clear H
            have p221 : 0 ≤ (x4_1 : Int) := of_decide_eq_true (by first | (with_reducible assumption) | assumption)
            have q221 : x4_1 < (l0.length : Int) := of_decide_eq_true (by first | (with_reducible assumption) | assumption)
            obtain ⟨ad221, e221, hx221_0, hx221_1⟩ := at_T61 HR0.out x4_1 p221 q221
            cases e221
            replace hx221_0 := (HB.out.cell (World.block_lt_of_cell? w _ hx221_0)).trans hx221_0
            replace hx221_1 := (HB.out.cell (World.block_lt_of_cell? w _ hx221_1)).trans hx221_1
            replace p221 := eq_true p221
            replace q221 := eq_true q221
            go_wp2_with (first | ((with_reducible refine gate_builtin (b := .append) (xs := #[.tmp 11, .tmp 16]) rfl ?_); at_builtin; refine Kd.R_append k91 (w0 := w) w.heap.size rfl (.tmp 11) (.tmp 16) 31 91 (.agg #[(.int .i64 0), (.int .i64 0)]) 16 rfl Try.underlying31 info91 rfl (by decide) (by omega) u3 x3_1 (⟨(rd_T61 l0 x4_1).f0, (rd_T61 l0 x4_1).f1⟩ : S91) [.int .i64 ((rd_T61 l0 x4_1).f0), .int .i64 ((rd_T61 l0 x4_1).f1)] (fun _ => True) (fun _ => False) rfl rfl ?aP (fun _ hk => hk.elim) ?aF ?aO ?aB ?aS ?aL ?_; (case aP => exact k91_mkM _ _ _ (⟨(rd_T61 l0 x4_1).f0, (rd_T61 l0 x4_1).f1⟩ : S91)); (case aB => exact (by repeat (first | (with_reducible first | exact HB.out | apply below_alloc | apply pw_below_drewN | apply below_drew1) | exact HB.out))); (case aF => exact (fun _ _ => trivial)); (case aO => exact (by (with_reducible repeat (first | apply Kd.R_alloc | apply Kd.R_drewN | apply Kd.R_drew)); exact HO_3.out)); (case aS => exact (below_size (by repeat (first | (with_reducible first | exact HB.out | apply below_alloc | apply pw_below_drewN | apply below_drew1) | exact HB.out)))); (case aL => have := LMc4.out; omega); intro v223 w5 ho hb hg hat; rw [← Ny222.out] at ho; have n0_ := Aside0.mk (hb); have n1_ := Aside0.mk (ho); clear HB; clear HO_3; have HB := n0_; have HO224 := n1_; clear n0_ n1_; clear ho hb hg hat))
            go_roundg k1
            case measure => have := HK1.out; omega
            case rel => exact ⟨(y222), (wrap64 (x4_1 + 1)), (by first | rfl | (simp; done) | (simp [*]; done)), H', ⟨by have := HK1.out; omega⟩, ⟨by (with_reducible repeat (first | apply Kd.R_alloc | apply Kd.R_drewN | apply Kd.R_drew)); exact HO224.out⟩, ⟨by repeat (first | (with_reducible first | exact HB.out | apply below_alloc | apply pw_below_drewN | apply below_drew1) | exact HB.out)⟩⟩
          · rw [if_neg c4] at H
            exact absurd H (by simp)
        · rw [if_neg c3] at H
          exact absurd H (by simp)
      · rw [if_neg c2] at H
        have c2b0 : decide (x4_1 < (l0.length : Int)) = false := decide_eq_false c2
        clear c2
        obtain rfl := Option.some.inj H
        go_wp2
        go_ret
        exact ⟨_, by first | rfl | (simp [errW_none, errW_some] <;> rfl) | (simp [*, errW_none, errW_some] <;> rfl), by (with_reducible repeat (first | apply Kd.R_alloc | apply Kd.R_drewN | apply Kd.R_drew)); exact HO_3.out, by repeat (first | (with_reducible first | exact HB.out | apply below_alloc | apply pw_below_drewN | apply below_drew1) | exact HB.out)⟩
end Go.Proofs.Ytpfkfbbekfkcgaa.P
end
section
namespace Go.Proofs.Ytpfkfbbekfkcgaa.P
open Go.RowKit Go.Proofs.YtpfkfbbekfkcgaaW.PrintWords Go.Proofs.YtpfkfbbekfkcgaaW.PrintLast Go.Proofs.YtpfkfbbekfkcgaaW.PrintMore
attribute [local go_sem] max2_int min2_int max_two min_two max_three min_three max_four min_four
set_option linter.unusedVariables false
set_option linter.unusedSimpArgs false
def pianolaref09_count.l0 : Nat → Int → Int → Int → Option (Int)
  | 0, _, _, _ => none
  | k + 1, x0, x8, x9 => if x9 < x0 then (pianolaref09_count.l0 k x0 (mn (wrap64 (x8 * 251)) 4503599627370496) (wrap64 (x9 + 1))) else (some x8)
def pianolaref09_count.f (k : Nat) (a0 : Int) (l1 : List (S91)) (a2 : Int) : Option (Int) := if (l1.length : Int) ≥ a0 then (if 0 ≤ a0 then (if a0 ≤ (l1.length : Int) then ((pianolaref09_through.f k (l1.take (a0 : Int).toNat)).bind fun t289 => ((pianolaref09_lie.f k t289 l1).bind fun t292 => (if t292 = true then (if 0 < (t289.length : Int) then (if (rd t289 0) = a2 then (some 1) else (some 0)) else (none)) else (some 0)))) else (none)) else (none)) else (pianolaref09_count.l0 k a0 1 (wrap64 ((l1.length : Int) + 1)))
set_option maxHeartbeats 8000000 in
set_option maxRecDepth 100000 in
theorem pianolaref09_count.calls (k : Nat) (a0 : Int) (A1 : Option Addr) (c1 : Nat) (l1 : List (S91)) (a2 : Int) (r : Int) (w : World) (hr1 : Kd.C k91 w A1 l1.length l1) (hc1 : l1.length ≤ c1) (h : pianolaref09_count.f k a0 l1 a2 = some r) :
    Calls Try.prog 66 #[.int .i64 a0, .slice A1 l1.length c1, .int .i64 a2] w fun e w' => e = .returned (.int .i64 r) ∧ Below w.heap.size w w' := by
  have HR1 := Aside0.mk hr1
  have HC1 := Aside0.mk hc1
  clear hr1 hc1
  have HB := Aside0.mk (Below.refl w.heap.size w)
  have H : (if (l1.length : Int) ≥ a0 then (if 0 ≤ a0 then (if a0 ≤ (l1.length : Int) then ((pianolaref09_through.f k (l1.take (a0 : Int).toNat)).bind fun t289 => ((pianolaref09_lie.f k t289 l1).bind fun t292 => (if t292 = true then (if 0 < (t289.length : Int) then (if (rd t289 0) = a2 then (some 1) else (some 0)) else (none)) else (some 0)))) else (none)) else (none)) else (pianolaref09_count.l0 k a0 1 (wrap64 ((l1.length : Int) + 1)))) = some r := h
  clear h
  by_cases c4 : (l1.length : Int) ≥ a0
  · rw [if_pos c4] at H
    have c4b0 : decide (a0 ≤ (l1.length : Int)) = true := decide_eq_true c4
    clear c4
    by_cases c5 : 0 ≤ a0
    · rw [if_pos c5] at H
      have c5b0 := eq_true c5
      have c5b1 : decide (0 ≤ a0) = true := decide_eq_true c5
      clear c5
      by_cases c6 : a0 ≤ (l1.length : Int)
      · rw [if_pos c6] at H
        have c6b0 := eq_true c6
        have c6b1 : decide (a0 ≤ (l1.length : Int)) = true := decide_eq_true c6
        clear c6
        obtain ⟨y285, hy285⟩ : ∃ y_ : List (S91), y_ = (l1.take (a0 : Int).toNat) := ⟨_, rfl⟩
        replace H : ((pianolaref09_through.f k y285).bind fun t289 => ((pianolaref09_lie.f k t289 l1).bind fun t292 => (if t292 = true then (if 0 < (t289.length : Int) then (if (rd t289 0) = a2 then (some 1) else (some 0)) else (none)) else (some 0)))) = some r := by first | (rw [hy285]; with_reducible exact H) | (have H2_ := (Option.bind_some _ _).symm.trans H; rw [hy285]; with_reducible exact H2_) | (have H2_ := (Option.bind_some _ _).symm.trans H; with_reducible exact H2_) | with_reducible exact H | (rw [hy285]; exact H) | exact H
        have Ny285 := Aside0.mk hy285
        clear hy285
        replace H := Option.bind_eq_some_iff.mp H
        obtain ⟨t289, A70, H⟩ := H
        replace H : ((pianolaref09_lie.f k t289 l1).bind fun t292 => (if t292 = true then (if 0 < (t289.length : Int) then (if (rd t289 0) = a2 then (some 1) else (some 0)) else (none)) else (some 0))) = some r := H
        have A7 := Aside0.mk A70
        clear A70
        replace H := Option.bind_eq_some_iff.mp H
        obtain ⟨t292, A80, H⟩ := H
        replace H : (if t292 = true then (if 0 < (t289.length : Int) then (if (rd t289 0) = a2 then (some 1) else (some 0)) else (none)) else (some 0)) = some r := H
        have A8 := Aside0.mk A80
        clear A80
        by_cases c9 : t292 = true
        · subst c9
          have H1 : (if 0 < (t289.length : Int) then (if (rd t289 0) = a2 then (some 1) else (some 0)) else (none)) = some r := by rw [if_pos rfl] at H; exact H
          clear H
          have H := H1
          clear H1
          by_cases c10 : 0 < (t289.length : Int)
          · rw [if_pos c10] at H
            have c10b0 : decide (0 < (t289.length : Int)) = true := decide_eq_true c10
            have c10b1 : decide (0 < t289.length) = true := decide_eq_true (by omega)
            clear c10
            by_cases c11 : (rd t289 0) = a2
            · rw [if_pos c11] at H
              have c11b0 : ((rd t289 0) == a2) = true := beq_iff_eq.mpr c11
              have c11b1 : ((rd t289 0) != a2) = false := bne_eq_false_iff_eq.mpr c11
              clear c11
              obtain rfl := Option.some.inj H
              have q12 : (a0 : Int) ≤ ((l1.length : Int) : Int) := of_decide_eq_true (by first | (with_reducible assumption) | assumption)
              obtain ⟨i012, hi012, _, hsz12, _⟩ := info_parts info91
              have hroom12 : l1.length ≤ c1 := HC1.out
              have hC12 : Kd.C k91 _ A1 l1.length l1 := HR1.out
              have hcut12 := cut_to (P := Try.prog) 31 91 .i64 Try.underlying31 hi012 A1 l1.length c1 a0 (of_decide_eq_true (by first | (with_reducible assumption) | assumption)) q12 hroom12
              have hr12 := Kd.C_take (m := (a0 : Int).toNat) hC12 (by omega)
              have hy12 : y285.length = (a0 : Int).toNat := (by rw [Ny285.out, List.length_take]; omega)
              rw [← Ny285.out] at hr12
              rw [← hy12] at hcut12
              have HR288 := Aside0.mk hr12
              have HC288 := Aside0.mk (show y285.length ≤ c1 from by omega)
              clear hr12 hC12 hroom12 hi012 hsz12
              have KY12 := Aside0.mk hy12
              clear hy12
              replace q12 := eq_true q12
              go_enter Try.func66, Try.ntmps66
              go_wp2_with (first | ((with_reducible refine gate_callee (f := 64) rfl ?_); refine goesL_ (some 17) rfl rfl Try.func64 (by kernel_rfl) rfl #[.slice A1 y285.length c1] rfl (by (try simp only [List.map_toArray, List.map_cons, List.map_nil]); first | done | rfl | (simp only [List.length_drop, List.length_take]; rfl)) ?_; (with_reducible refine (pianolaref09_through.calls k _ _ y285 t289 _ ?side1 ?side2 A7.out).mono ?_); (case side1 => repeat (first | exact HR288.out | (with_reducible refine Kd.C_alloc ?_ _) | (with_reducible refine Kd.C_drewN ?_ _) | (with_reducible refine Kd.C_drew ?_))); (case side2 => exact HC288.out); rintro e w13 ⟨v290, rfl, ho0, hb⟩; refine ⟨_, rfl, ?_⟩; have n0_ := Aside0.mk (Kd.R_lower ho0 (below_size (by repeat (first | (with_reducible first | exact HB.out | apply below_alloc | apply pw_below_drewN | apply below_drew1) | exact HB.out)))); have n1_ := Aside0.mk (below_step (by repeat (first | (with_reducible first | exact HB.out | apply below_alloc | apply pw_below_drewN | apply below_drew1) | exact HB.out)) hb); clear HB; have HO291 := n0_; have HB := n1_; clear n0_ n1_; (try clear hb); (try clear hb2); (try clear hk); (try clear hi); (try clear ho0); obtain ⟨Ao14, co14, eo14⟩ := Kd.R_slice HO291.out; subst eo14) | ((with_reducible refine gate_callee (f := 80) rfl ?_); refine goesL_ (some 20) rfl rfl Try.func80 (by kernel_rfl) rfl #[.slice Ao14 t289.length co14, .slice A1 l1.length c1] rfl (by (try simp only [List.map_toArray, List.map_cons, List.map_nil]); first | done | rfl | (simp only [List.length_drop, List.length_take]; rfl)) ?_; (with_reducible refine (pianolaref09_lie.calls k _ _ t289 _ _ l1 true _ ?side1 ?side2 ?side3 ?side4 A8.out).mono ?_); (case side1 => repeat (first | exact (Kd.R_reads' HO291.out).2.2 | (with_reducible refine Kd.C_alloc ?_ _) | (with_reducible refine Kd.C_drewN ?_ _) | (with_reducible refine Kd.C_drew ?_))); (case side2 => exact (Kd.R_reads' HO291.out).2.1); (case side3 => repeat (first | exact (Kd.C_below HR1.out HB.out) | (with_reducible refine Kd.C_alloc ?_ _) | (with_reducible refine Kd.C_drewN ?_ _) | (with_reducible refine Kd.C_drew ?_))); (case side4 => exact HC1.out); rintro e w' ⟨rfl, ⟨nd, rfl⟩⟩; refine ⟨_, rfl, ?_⟩; have p293 : 0 ≤ (0 : Int) := (by omega); have q293 : 0 < (t289.length : Int) := of_decide_eq_true (by first | (with_reducible assumption) | assumption); obtain ⟨ad293, e293, hx293_0⟩ := Kd.at_int (Kd.R_reads' HO291.out).2.2 0 p293 q293; cases e293; have qi293 : (0 < t289.length) = True := eq_true (by omega); (try rw [show ((0 : Int)).toNat = 0 from rfl] at hx293_0); (try rw [Addr.add_zero'] at hx293_0); replace p293 := eq_true p293; replace q293 := eq_true q293))
              go_ret
              exact ⟨by first | rfl | (simp [errW_none, errW_some] <;> rfl) | (simp [*, errW_none, errW_some] <;> rfl), by repeat (first | (with_reducible first | exact HB.out | apply below_alloc | apply pw_below_drewN | apply below_drew1) | exact HB.out)⟩
            · rw [if_neg c11] at H
              have c11b0 : ((rd t289 0) == a2) = false := beq_eq_false_iff_ne.mpr c11
              have c11b1 : ((rd t289 0) != a2) = true := bne_iff_ne.mpr c11
              obtain rfl := Option.some.inj H
              have q15 : (a0 : Int) ≤ ((l1.length : Int) : Int) := of_decide_eq_true (by first | (with_reducible assumption) | assumption)
              obtain ⟨i015, hi015, _, hsz15, _⟩ := info_parts info91
              have hroom15 : l1.length ≤ c1 := HC1.out
              have hC15 : Kd.C k91 _ A1 l1.length l1 := HR1.out
              have hcut15 := cut_to (P := Try.prog) 31 91 .i64 Try.underlying31 hi015 A1 l1.length c1 a0 (of_decide_eq_true (by first | (with_reducible assumption) | assumption)) q15 hroom15
              have hr15 := Kd.C_take (m := (a0 : Int).toNat) hC15 (by omega)
              have hy15 : y285.length = (a0 : Int).toNat := (by rw [Ny285.out, List.length_take]; omega)
              rw [← Ny285.out] at hr15
              rw [← hy15] at hcut15
              have HR288 := Aside0.mk hr15
              have HC288 := Aside0.mk (show y285.length ≤ c1 from by omega)
              clear hr15 hC15 hroom15 hi015 hsz15
              have KY15 := Aside0.mk hy15
              clear hy15
              replace q15 := eq_true q15
              go_enter Try.func66, Try.ntmps66
              go_wp2_with (first | ((with_reducible refine gate_callee (f := 64) rfl ?_); refine goesL_ (some 17) rfl rfl Try.func64 (by kernel_rfl) rfl #[.slice A1 y285.length c1] rfl (by (try simp only [List.map_toArray, List.map_cons, List.map_nil]); first | done | rfl | (simp only [List.length_drop, List.length_take]; rfl)) ?_; (with_reducible refine (pianolaref09_through.calls k _ _ y285 t289 _ ?side1 ?side2 A7.out).mono ?_); (case side1 => repeat (first | exact HR288.out | (with_reducible refine Kd.C_alloc ?_ _) | (with_reducible refine Kd.C_drewN ?_ _) | (with_reducible refine Kd.C_drew ?_))); (case side2 => exact HC288.out); rintro e w16 ⟨v290, rfl, ho0, hb⟩; refine ⟨_, rfl, ?_⟩; have n0_ := Aside0.mk (Kd.R_lower ho0 (below_size (by repeat (first | (with_reducible first | exact HB.out | apply below_alloc | apply pw_below_drewN | apply below_drew1) | exact HB.out)))); have n1_ := Aside0.mk (below_step (by repeat (first | (with_reducible first | exact HB.out | apply below_alloc | apply pw_below_drewN | apply below_drew1) | exact HB.out)) hb); clear HB; have HO291 := n0_; have HB := n1_; clear n0_ n1_; (try clear hb); (try clear hb2); (try clear hk); (try clear hi); (try clear ho0); obtain ⟨Ao17, co17, eo17⟩ := Kd.R_slice HO291.out; subst eo17) | ((with_reducible refine gate_callee (f := 80) rfl ?_); refine goesL_ (some 20) rfl rfl Try.func80 (by kernel_rfl) rfl #[.slice Ao17 t289.length co17, .slice A1 l1.length c1] rfl (by (try simp only [List.map_toArray, List.map_cons, List.map_nil]); first | done | rfl | (simp only [List.length_drop, List.length_take]; rfl)) ?_; (with_reducible refine (pianolaref09_lie.calls k _ _ t289 _ _ l1 true _ ?side1 ?side2 ?side3 ?side4 A8.out).mono ?_); (case side1 => repeat (first | exact (Kd.R_reads' HO291.out).2.2 | (with_reducible refine Kd.C_alloc ?_ _) | (with_reducible refine Kd.C_drewN ?_ _) | (with_reducible refine Kd.C_drew ?_))); (case side2 => exact (Kd.R_reads' HO291.out).2.1); (case side3 => repeat (first | exact (Kd.C_below HR1.out HB.out) | (with_reducible refine Kd.C_alloc ?_ _) | (with_reducible refine Kd.C_drewN ?_ _) | (with_reducible refine Kd.C_drew ?_))); (case side4 => exact HC1.out); rintro e w' ⟨rfl, ⟨nd, rfl⟩⟩; refine ⟨_, rfl, ?_⟩; have p293 : 0 ≤ (0 : Int) := (by omega); have q293 : 0 < (t289.length : Int) := of_decide_eq_true (by first | (with_reducible assumption) | assumption); obtain ⟨ad293, e293, hx293_0⟩ := Kd.at_int (Kd.R_reads' HO291.out).2.2 0 p293 q293; cases e293; have qi293 : (0 < t289.length) = True := eq_true (by omega); (try rw [show ((0 : Int)).toNat = 0 from rfl] at hx293_0); (try rw [Addr.add_zero'] at hx293_0); replace p293 := eq_true p293; replace q293 := eq_true q293))
              go_ret
              exact ⟨by first | rfl | (simp [errW_none, errW_some] <;> rfl) | (simp [*, errW_none, errW_some] <;> rfl), by repeat (first | (with_reducible first | exact HB.out | apply below_alloc | apply pw_below_drewN | apply below_drew1) | exact HB.out)⟩
          · rw [if_neg c10] at H
            exact absurd H (by simp)
        · replace c9 := Bool.eq_false_iff.mpr c9
          subst c9
          have H1 : (some 0) = some r := by rw [if_neg (show ¬ (false = true) by decide)] at H; exact H
          clear H
          have H := H1
          clear H1
          obtain rfl := Option.some.inj H
          have q18 : (a0 : Int) ≤ ((l1.length : Int) : Int) := of_decide_eq_true (by first | (with_reducible assumption) | assumption)
          obtain ⟨i018, hi018, _, hsz18, _⟩ := info_parts info91
          have hroom18 : l1.length ≤ c1 := HC1.out
          have hC18 : Kd.C k91 _ A1 l1.length l1 := HR1.out
          have hcut18 := cut_to (P := Try.prog) 31 91 .i64 Try.underlying31 hi018 A1 l1.length c1 a0 (of_decide_eq_true (by first | (with_reducible assumption) | assumption)) q18 hroom18
          have hr18 := Kd.C_take (m := (a0 : Int).toNat) hC18 (by omega)
          have hy18 : y285.length = (a0 : Int).toNat := (by rw [Ny285.out, List.length_take]; omega)
          rw [← Ny285.out] at hr18
          rw [← hy18] at hcut18
          have HR288 := Aside0.mk hr18
          have HC288 := Aside0.mk (show y285.length ≤ c1 from by omega)
          clear hr18 hC18 hroom18 hi018 hsz18
          have KY18 := Aside0.mk hy18
          clear hy18
          replace q18 := eq_true q18
          go_enter Try.func66, Try.ntmps66
          go_wp2_with (first | ((with_reducible refine gate_callee (f := 64) rfl ?_); refine goesL_ (some 17) rfl rfl Try.func64 (by kernel_rfl) rfl #[.slice A1 y285.length c1] rfl (by (try simp only [List.map_toArray, List.map_cons, List.map_nil]); first | done | rfl | (simp only [List.length_drop, List.length_take]; rfl)) ?_; (with_reducible refine (pianolaref09_through.calls k _ _ y285 t289 _ ?side1 ?side2 A7.out).mono ?_); (case side1 => repeat (first | exact HR288.out | (with_reducible refine Kd.C_alloc ?_ _) | (with_reducible refine Kd.C_drewN ?_ _) | (with_reducible refine Kd.C_drew ?_))); (case side2 => exact HC288.out); rintro e w19 ⟨v290, rfl, ho0, hb⟩; refine ⟨_, rfl, ?_⟩; have n0_ := Aside0.mk (Kd.R_lower ho0 (below_size (by repeat (first | (with_reducible first | exact HB.out | apply below_alloc | apply pw_below_drewN | apply below_drew1) | exact HB.out)))); have n1_ := Aside0.mk (below_step (by repeat (first | (with_reducible first | exact HB.out | apply below_alloc | apply pw_below_drewN | apply below_drew1) | exact HB.out)) hb); clear HB; have HO291 := n0_; have HB := n1_; clear n0_ n1_; (try clear hb); (try clear hb2); (try clear hk); (try clear hi); (try clear ho0); obtain ⟨Ao20, co20, eo20⟩ := Kd.R_slice HO291.out; subst eo20) | ((with_reducible refine gate_callee (f := 80) rfl ?_); refine goesL_ (some 20) rfl rfl Try.func80 (by kernel_rfl) rfl #[.slice Ao20 t289.length co20, .slice A1 l1.length c1] rfl (by (try simp only [List.map_toArray, List.map_cons, List.map_nil]); first | done | rfl | (simp only [List.length_drop, List.length_take]; rfl)) ?_; (with_reducible refine (pianolaref09_lie.calls k _ _ t289 _ _ l1 false _ ?side1 ?side2 ?side3 ?side4 A8.out).mono ?_); (case side1 => repeat (first | exact (Kd.R_reads' HO291.out).2.2 | (with_reducible refine Kd.C_alloc ?_ _) | (with_reducible refine Kd.C_drewN ?_ _) | (with_reducible refine Kd.C_drew ?_))); (case side2 => exact (Kd.R_reads' HO291.out).2.1); (case side3 => repeat (first | exact (Kd.C_below HR1.out HB.out) | (with_reducible refine Kd.C_alloc ?_ _) | (with_reducible refine Kd.C_drewN ?_ _) | (with_reducible refine Kd.C_drew ?_))); (case side4 => exact HC1.out); rintro e w' ⟨rfl, ⟨nd, rfl⟩⟩; refine ⟨_, rfl, ?_⟩))
          go_ret
          exact ⟨by first | rfl | (simp [errW_none, errW_some] <;> rfl) | (simp [*, errW_none, errW_some] <;> rfl), by repeat (first | (with_reducible first | exact HB.out | apply below_alloc | apply pw_below_drewN | apply below_drew1) | exact HB.out)⟩
      · rw [if_neg c6] at H
        exact absurd H (by simp)
    · rw [if_neg c5] at H
      exact absurd H (by simp)
  · rw [if_neg c4] at H
    have c4b0 : decide (a0 ≤ (l1.length : Int)) = false := decide_eq_false c4
    clear c4
    have H' := Aside0.mk H
    clear H
    go_enter Try.func66, Try.ntmps66
    go_wp2
    go_loopg [8, 9] k (fun kq v8 v9 w' => ∃ (x8_1 : Int) (x9_1 : Int), v8 = .int .i64 x8_1 ∧ v9 = .int .i64 x9_1 ∧ Aside0 (pianolaref09_count.l0 kq a0 x8_1 x9_1 = some r) ∧ Aside0 (kq ≤ k) ∧ Aside0 (Below w.heap.size w w'))
    case atStart => exact ⟨(1), (wrap64 ((l1.length : Int) + 1)), (by first | rfl | (simp; done) | (simp [*]; done)), (by first | rfl | (simp; done) | (simp [*]; done)), H', ⟨Nat.le_refl _⟩, ⟨by repeat (first | (with_reducible first | exact HB.out | apply below_alloc | apply pw_below_drewN | apply below_drew1) | exact HB.out)⟩⟩
    case round =>
      clear H'
      try clear c1
      try clear q1
      try clear p2
      try clear q2
      try clear hx2
      try clear qi2
      try clear c4
      try clear c4b0
      try clear c5
      try clear c5b0
      try clear c5b1
      try clear c6
      try clear c6b0
      try clear c6b1
      try clear p6
      try clear c8
      try clear c9
      try clear c10
      try clear c10b0
      try clear c10b1
      try clear c11
      try clear c11b0
      try clear c11b1
      try clear q12
      try clear q15
      try clear q18
      try clear hx293_0
      try clear p293
      try clear q12
      try clear q15
      try clear q18
      try clear q293
      obtain ⟨x8_1, x9_1, rfl, rfl, HA, HK1, HB⟩ := hrel
      cases gk with
      | zero => exact absurd HA.out (by simp [pianolaref09_count.l0])
      | succ k1 =>
        have H := HA.out
        clear HA
        simp only [pianolaref09_count.l0] at H
        by_cases c21 : x9_1 < a0
        · rw [if_pos c21] at H
          have c21b0 : decide (x9_1 < a0) = true := decide_eq_true c21
          clear c21
          obtain ⟨ji22, hji22⟩ : ∃ j_ : Int, (mn (wrap64 (x8_1 * 251)) 4503599627370496) = j_ := ⟨_, rfl⟩
          replace H : (pianolaref09_count.l0 k1 a0 ji22 (wrap64 (x9_1 + 1))) = some r := by first | (rw [hji22] at H; exact H) | (simp only [hji22] at H ⊢; exact H)
          have hji22_ : (if 4503599627370496 < (wrap64 (x8_1 * 251)) then 4503599627370496 else (wrap64 (x8_1 * 251))) = ji22 := hji22
          have H' := Aside0.mk H
          clear H
          go_wp2
          go_roundg k1
          case measure => have := HK1.out; omega
          case rel => exact ⟨(ji22), (wrap64 (x9_1 + 1)), (by first | rfl | (simp; done) | (simp only [← hji22] <;> (first | rfl | simp)) | (simp [*]; done)), (by first | rfl | (simp; done) | (simp [*]; done)), H', ⟨by have := HK1.out; omega⟩, ⟨by repeat (first | (with_reducible first | exact HB.out | apply below_alloc | apply pw_below_drewN | apply below_drew1) | exact HB.out)⟩⟩
        · rw [if_neg c21] at H
          have c21b0 : decide (x9_1 < a0) = false := decide_eq_false c21
          clear c21
          obtain rfl := Option.some.inj H
          go_wp2
          go_ret
          exact ⟨by first | rfl | (simp [errW_none, errW_some] <;> rfl) | (simp [*, errW_none, errW_some] <;> rfl), by repeat (first | (with_reducible first | exact HB.out | apply below_alloc | apply pw_below_drewN | apply below_drew1) | exact HB.out)⟩
def pianolaref09_Possible.l0 : Nat → Int → List (S91) → List Int → Int → Option (List Int × Int)
  | 0, _, _, _, _ => none
  | k + 1, x0, x1, x7, x8 => if x8 < 251 then ((pianolaref09_count.f k x0 x1 x8).bind fun t295 => (if t295 > 0 then (if x7.length < 17592186044416 then (pianolaref09_Possible.l0 k x0 x1 (x7 ++ [x8]) (wrap64 (x8 + 1))) else (none)) else (pianolaref09_Possible.l0 k x0 x1 x7 (wrap64 (x8 + 1))))) else (some (x7, 0))
def pianolaref09_Possible.f (k : Nat) (a0 : Int) (l1 : List (S91)) : Option (List Int × Int) := (pianolaref09_check.f k a0 l1).bind fun t294 => (if t294 = 0 then (pianolaref09_Possible.l0 k a0 l1 ([] : List Int) 0) else (some (([] : List Int), t294)))
set_option maxHeartbeats 8000000 in
set_option maxRecDepth 100000 in
theorem pianolaref09_Possible.calls (k : Nat) (a0 : Int) (A1 : Option Addr) (c1 : Nat) (l1 : List (S91)) (r1 : List Int) (r2 : Int) (w : World) (hr1 : Kd.C k91 w A1 l1.length l1) (hc1 : l1.length ≤ c1) (h : pianolaref09_Possible.f k a0 l1 = some (r1, r2)) :
    Calls Try.prog 34 #[.int .i64 a0, .slice A1 l1.length c1] w fun e w' => ∃ v0_ : Value, e = .returned (.tuple #[v0_, .int .i64 r2]) ∧ Kd.R (Kd.int .i64) 3 w' w.heap.size (fun _ => True) v0_ r1 ∧ Below w.heap.size w w' := by
  have HR1 := Aside0.mk hr1
  have HC1 := Aside0.mk hc1
  clear hr1 hc1
  have HB := Aside0.mk (Below.refl w.heap.size w)
  have H : ((pianolaref09_check.f k a0 l1).bind fun t294 => (if t294 = 0 then (pianolaref09_Possible.l0 k a0 l1 ([] : List Int) 0) else (some (([] : List Int), t294)))) = some (r1, r2) := h
  clear h
  replace H := Option.bind_eq_some_iff.mp H
  obtain ⟨t294, A30, H⟩ := H
  replace H : (if t294 = 0 then (pianolaref09_Possible.l0 k a0 l1 ([] : List Int) 0) else (some (([] : List Int), t294))) = some (r1, r2) := H
  have A3 := Aside0.mk A30
  clear A30
  by_cases c4 : t294 = 0
  · rw [if_pos c4] at H
    have c4b0 : (t294 == 0) = true := beq_iff_eq.mpr c4
    have c4b1 : (t294 != 0) = false := bne_eq_false_iff_eq.mpr c4
    clear c4
    have H' := Aside0.mk H
    clear H
    go_enter Try.func34, Try.ntmps34
    go_wp2_with (first | ((with_reducible refine gate_callee (f := 58) rfl ?_); refine goesL_ (some 11) rfl rfl Try.func58 (by kernel_rfl) rfl #[.int .i64 a0, .slice A1 l1.length c1] rfl (by (try simp only [List.map_toArray, List.map_cons, List.map_nil]); first | done | rfl | (simp only [List.length_drop, List.length_take]; rfl)) ?_; (with_reducible refine (pianolaref09_check.calls k a0 _ _ l1 t294 _ ?side1 ?side2 A3.out).mono ?_); (case side1 => repeat (first | exact HR1.out | (with_reducible refine Kd.C_alloc ?_ _) | (with_reducible refine Kd.C_drewN ?_ _) | (with_reducible refine Kd.C_drew ?_))); (case side2 => exact HC1.out); rintro e w' ⟨rfl, ⟨nd, rfl⟩⟩; refine ⟨_, rfl, ?_⟩))
    go_loopg [7, 8] k (fun kq v7 v8 w' => ∃ (x7_1 : List Int) (x8_1 : Int), v8 = .int .i64 x8_1 ∧ Aside0 (pianolaref09_Possible.l0 kq a0 l1 x7_1 x8_1 = some (r1, r2)) ∧ Aside0 (kq ≤ k) ∧ Aside0 (Kd.R (Kd.int .i64) 3 w' w.heap.size (fun _ => True) v7 x7_1) ∧ Aside0 (Below w.heap.size w w'))
    case atStart => exact ⟨(([] : List Int)), (0), (by first | rfl | (simp; done) | (simp [*]; done)), H', ⟨Nat.le_refl _⟩, ⟨by first | exact Kd.R_nil _ _ _ _ _ | exact Kd.N_nil _ _ _ _ _ | exact Kd.V_nil _ _ _ _ _ | exact Kd.Q_nil _ _ _ _ _ | exact Kd.S_nil _ _ _ _ _⟩, ⟨by repeat (first | (with_reducible first | exact HB.out | apply below_alloc | apply pw_below_drewN | apply below_drew1) | exact HB.out)⟩⟩
    case round =>
      clear H'
      try clear c1
      try clear p2
      try clear c3
      try clear c4
      try clear c4b0
      try clear c4b1
      obtain ⟨x7_1, x8_1, rfl, HA, HK1, HO_7, HB⟩ := hrel
      cases gk with
      | zero => exact absurd HA.out (by simp [pianolaref09_Possible.l0])
      | succ k1 =>
        have H := HA.out
        clear HA
        simp only [pianolaref09_Possible.l0] at H
        by_cases c5 : x8_1 < 251
        · rw [if_pos c5] at H
          have c5b0 : decide (x8_1 < 251) = true := decide_eq_true c5
          clear c5
          replace H := Option.bind_eq_some_iff.mp H
          obtain ⟨t295, A60, H⟩ := H
          replace H : (if t295 > 0 then (if x7_1.length < 17592186044416 then (pianolaref09_Possible.l0 k1 a0 l1 (x7_1 ++ [x8_1]) (wrap64 (x8_1 + 1))) else (none)) else (pianolaref09_Possible.l0 k1 a0 l1 x7_1 (wrap64 (x8_1 + 1)))) = some (r1, r2) := H
          have A6 := Aside0.mk A60
          clear A60
          by_cases c7 : t295 > 0
          · rw [if_pos c7] at H
            have c7b0 : decide (0 < t295) = true := decide_eq_true c7
            clear c7
            by_cases c8 : x7_1.length < 17592186044416
            · rw [if_pos c8] at H
              have LMc8 := Aside0.mk c8
              clear c8
              obtain ⟨y296, hy296⟩ : ∃ y_ : List Int, y_ = (x7_1 ++ [x8_1]) := ⟨_, rfl⟩
              replace H : (pianolaref09_Possible.l0 k1 a0 l1 y296 (wrap64 (x8_1 + 1))) = some (r1, r2) := by first | (rw [hy296]; with_reducible exact H) | (have H2_ := (Option.bind_some _ _).symm.trans H; rw [hy296]; with_reducible exact H2_) | (have H2_ := (Option.bind_some _ _).symm.trans H; with_reducible exact H2_) | with_reducible exact H | (rw [hy296]; exact H) | exact H
              have Ny296 := Aside0.mk hy296
              clear hy296
              have H' := Aside0.mk H
              clear H
              go_wp2_with (first | ((with_reducible refine gate_callee (f := 66) rfl ?_); refine goesL_ (some 22) rfl rfl Try.func66 (by kernel_rfl) rfl #[.int .i64 a0, .slice A1 l1.length c1, .int .i64 x8_1] rfl (by (try simp only [List.map_toArray, List.map_cons, List.map_nil]); first | done | rfl | (simp only [List.length_drop, List.length_take]; rfl)) ?_; (with_reducible refine (pianolaref09_count.calls k1 a0 _ _ l1 x8_1 t295 _ ?side1 ?side2 A6.out).mono ?_); (case side1 => repeat (first | exact (Kd.C_below HR1.out HB.out) | (with_reducible refine Kd.C_alloc ?_ _) | (with_reducible refine Kd.C_drewN ?_ _) | (with_reducible refine Kd.C_drew ?_))); (case side2 => exact HC1.out); rintro e w9 ⟨rfl, hb⟩; refine ⟨_, rfl, ?_⟩; have n0_ := Aside0.mk (Kd.R_below (by (with_reducible repeat (first | apply Kd.R_alloc | apply Kd.R_drewN | apply Kd.R_drew)); exact HO_7.out) hb); have n1_ := Aside0.mk (below_step (by repeat (first | (with_reducible first | exact HB.out | apply below_alloc | apply pw_below_drewN | apply below_drew1) | exact HB.out)) hb); clear HO_7; clear HB; have HO_7 := n0_; have HB := n1_; clear n0_ n1_; (try clear hb); (try clear hb2); (try clear hk); (try clear hi)) | ((with_reducible refine gate_builtin (b := .append) (xs := #[.tmp 24, .tmp 26]) rfl ?_); at_builtin; refine Kd.R_append (Kd.int .i64) (w0 := w) w.heap.size rfl (.tmp 24) (.tmp 26) 22 3 (.int .i64 0) 8 rfl Try.underlying22 info3 rfl (by decide) (by omega) u7 x7_1 x8_1 [.int .i64 x8_1] (fun _ => True) (fun _ => False) rfl rfl ?aP (fun _ hk => hk.elim) ?aF ?aO ?aB ?aS ?aL ?_; (case aP => exact rfl); (case aB => exact (by repeat (first | (with_reducible first | exact HB.out | apply below_alloc | apply pw_below_drewN | apply below_drew1) | exact HB.out))); (case aF => exact (fun _ _ => trivial)); (case aO => exact (by (with_reducible repeat (first | apply Kd.R_alloc | apply Kd.R_drewN | apply Kd.R_drew)); exact HO_7.out)); (case aS => exact (below_size (by repeat (first | (with_reducible first | exact HB.out | apply below_alloc | apply pw_below_drewN | apply below_drew1) | exact HB.out)))); (case aL => have := LMc8.out; omega); intro v297 w10 ho hb hg hat; rw [← Ny296.out] at ho; have n0_ := Aside0.mk (hb); have n1_ := Aside0.mk (ho); clear HB; clear HO_7; have HB := n0_; have HO298 := n1_; clear n0_ n1_; clear ho hb hg hat))
              go_roundg k1
              case measure => have := HK1.out; omega
              case rel => exact ⟨(y296), (wrap64 (x8_1 + 1)), (by first | rfl | (simp; done) | (simp [*]; done)), H', ⟨by have := HK1.out; omega⟩, ⟨by (with_reducible repeat (first | apply Kd.R_alloc | apply Kd.R_drewN | apply Kd.R_drew)); exact HO298.out⟩, ⟨by repeat (first | (with_reducible first | exact HB.out | apply below_alloc | apply pw_below_drewN | apply below_drew1) | exact HB.out)⟩⟩
            · rw [if_neg c8] at H
              exact absurd H (by simp)
          · rw [if_neg c7] at H
            have c7b0 : decide (0 < t295) = false := decide_eq_false c7
            clear c7
            have H' := Aside0.mk H
            clear H
            go_wp2_with (first | ((with_reducible refine gate_callee (f := 66) rfl ?_); refine goesL_ (some 22) rfl rfl Try.func66 (by kernel_rfl) rfl #[.int .i64 a0, .slice A1 l1.length c1, .int .i64 x8_1] rfl (by (try simp only [List.map_toArray, List.map_cons, List.map_nil]); first | done | rfl | (simp only [List.length_drop, List.length_take]; rfl)) ?_; (with_reducible refine (pianolaref09_count.calls k1 a0 _ _ l1 x8_1 t295 _ ?side1 ?side2 A6.out).mono ?_); (case side1 => repeat (first | exact (Kd.C_below HR1.out HB.out) | (with_reducible refine Kd.C_alloc ?_ _) | (with_reducible refine Kd.C_drewN ?_ _) | (with_reducible refine Kd.C_drew ?_))); (case side2 => exact HC1.out); rintro e w11 ⟨rfl, hb⟩; refine ⟨_, rfl, ?_⟩; have n0_ := Aside0.mk (Kd.R_below (by (with_reducible repeat (first | apply Kd.R_alloc | apply Kd.R_drewN | apply Kd.R_drew)); exact HO_7.out) hb); have n1_ := Aside0.mk (below_step (by repeat (first | (with_reducible first | exact HB.out | apply below_alloc | apply pw_below_drewN | apply below_drew1) | exact HB.out)) hb); clear HO_7; clear HB; have HO_7 := n0_; have HB := n1_; clear n0_ n1_; (try clear hb); (try clear hb2); (try clear hk); (try clear hi)))
            go_roundg k1
            case measure => have := HK1.out; omega
            case rel => exact ⟨(x7_1), (wrap64 (x8_1 + 1)), (by first | rfl | (simp; done) | (simp [*]; done)), H', ⟨by have := HK1.out; omega⟩, ⟨by (with_reducible repeat (first | apply Kd.R_alloc | apply Kd.R_drewN | apply Kd.R_drew)); exact HO_7.out⟩, ⟨by repeat (first | (with_reducible first | exact HB.out | apply below_alloc | apply pw_below_drewN | apply below_drew1) | exact HB.out)⟩⟩
        · rw [if_neg c5] at H
          have c5b0 : decide (x8_1 < 251) = false := decide_eq_false c5
          clear c5
          simp only [Option.some.injEq, Prod.mk.injEq] at H
          obtain ⟨rfl, rfl⟩ := H
          go_wp2
          go_ret2
          exact ⟨_, by first | rfl | (simp [errW_none, errW_some] <;> rfl) | (simp [*, errW_none, errW_some] <;> rfl), by (with_reducible repeat (first | apply Kd.R_alloc | apply Kd.R_drewN | apply Kd.R_drew)); exact HO_7.out, by repeat (first | (with_reducible first | exact HB.out | apply below_alloc | apply pw_below_drewN | apply below_drew1) | exact HB.out)⟩
  · rw [if_neg c4] at H
    have c4b0 : (t294 == 0) = false := beq_eq_false_iff_ne.mpr c4
    have c4b1 : (t294 != 0) = true := bne_iff_ne.mpr c4
    simp only [Option.some.injEq, Prod.mk.injEq] at H
    obtain ⟨rfl, rfl⟩ := H
    go_enter Try.func34, Try.ntmps34
    go_wp2_with (first | ((with_reducible refine gate_callee (f := 58) rfl ?_); refine goesL_ (some 11) rfl rfl Try.func58 (by kernel_rfl) rfl #[.int .i64 a0, .slice A1 l1.length c1] rfl (by (try simp only [List.map_toArray, List.map_cons, List.map_nil]); first | done | rfl | (simp only [List.length_drop, List.length_take]; rfl)) ?_; (with_reducible refine (pianolaref09_check.calls k a0 _ _ l1 t294 _ ?side1 ?side2 A3.out).mono ?_); (case side1 => repeat (first | exact HR1.out | (with_reducible refine Kd.C_alloc ?_ _) | (with_reducible refine Kd.C_drewN ?_ _) | (with_reducible refine Kd.C_drew ?_))); (case side2 => exact HC1.out); rintro e w' ⟨rfl, ⟨nd, rfl⟩⟩; refine ⟨_, rfl, ?_⟩))
    go_ret2
    exact ⟨_, by first | rfl | (simp [errW_none, errW_some] <;> rfl) | (simp [*, errW_none, errW_some] <;> rfl), by first | exact Kd.R_nil _ _ _ _ _ | exact Kd.N_nil _ _ _ _ _ | exact Kd.V_nil _ _ _ _ _ | exact Kd.Q_nil _ _ _ _ _ | exact Kd.S_nil _ _ _ _ _, by repeat (first | (with_reducible first | exact HB.out | apply below_alloc | apply pw_below_drewN | apply below_drew1) | exact HB.out)⟩
def pianolaref09_Count.j0 : Nat → Int → List (S91) → Int → Int → Bool → Option (Int × Int)
  | 0, _, _, _, _, _ => none
  | k + 1, x0, x1, x2, x8, x18 => if x18 = true then (if 3 = 0 then ((pianolaref09_count.f k x0 x1 x2).bind fun t304 => (some (t304, 0))) else (some (0, 3))) else (if x8 = 0 then ((pianolaref09_count.f k x0 x1 x2).bind fun t305 => (some (t305, 0))) else (some (0, x8)))
def pianolaref09_Count.f (k : Nat) (a0 : Int) (l1 : List (S91)) (a2 : Int) : Option (Int × Int) := (pianolaref09_check.f k a0 l1).bind fun t302 => (if t302 = 0 then ((pianolaref09_is.f a2 0 250).bind fun t303 => (pianolaref09_Count.j0 k a0 l1 a2 t302 (!t303))) else (pianolaref09_Count.j0 k a0 l1 a2 t302 false))
set_option maxHeartbeats 8000000 in
set_option maxRecDepth 100000 in
theorem pianolaref09_Count.calls (k : Nat) (a0 : Int) (A1 : Option Addr) (c1 : Nat) (l1 : List (S91)) (a2 : Int) (r1 : Int) (r2 : Int) (w : World) (hr1 : Kd.C k91 w A1 l1.length l1) (hc1 : l1.length ≤ c1) (h : pianolaref09_Count.f k a0 l1 a2 = some (r1, r2)) :
    Calls Try.prog 36 #[.int .i64 a0, .slice A1 l1.length c1, .int .i64 a2] w fun e w' => e = .returned (.tuple #[.int .i64 r1, .int .i64 r2]) ∧ Below w.heap.size w w' := by
  have HR1 := Aside0.mk hr1
  have HC1 := Aside0.mk hc1
  clear hr1 hc1
  have HB := Aside0.mk (Below.refl w.heap.size w)
  have H : ((pianolaref09_check.f k a0 l1).bind fun t302 => (if t302 = 0 then ((pianolaref09_is.f a2 0 250).bind fun t303 => (pianolaref09_Count.j0 k a0 l1 a2 t302 (!t303))) else (pianolaref09_Count.j0 k a0 l1 a2 t302 false))) = some (r1, r2) := h
  clear h
  replace H := Option.bind_eq_some_iff.mp H
  obtain ⟨t302, A40, H⟩ := H
  replace H : (if t302 = 0 then ((pianolaref09_is.f a2 0 250).bind fun t303 => (pianolaref09_Count.j0 k a0 l1 a2 t302 (!t303))) else (pianolaref09_Count.j0 k a0 l1 a2 t302 false)) = some (r1, r2) := H
  have A4 := Aside0.mk A40
  clear A40
  have HC5 := Aside0.mk H
  clear H
  go_enter Try.func36, Try.ntmps36
  go_upto_region 2 with (first | ((with_reducible refine gate_callee (f := 58) rfl ?_); refine goesL_ (some 11) rfl rfl Try.func58 (by kernel_rfl) rfl #[.int .i64 a0, .slice A1 l1.length c1] rfl (by (try simp only [List.map_toArray, List.map_cons, List.map_nil]); first | done | rfl | (simp only [List.length_drop, List.length_take]; rfl)) ?_; (with_reducible refine (pianolaref09_check.calls k a0 _ _ l1 t302 _ ?side1 ?side2 A4.out).mono ?_); (case side1 => repeat (first | exact HR1.out | (with_reducible refine Kd.C_alloc ?_ _) | (with_reducible refine Kd.C_drewN ?_ _) | (with_reducible refine Kd.C_drew ?_))); (case side2 => exact HC1.out); rintro e w' ⟨rfl, ⟨nd, rfl⟩⟩; refine ⟨_, rfl, ?_⟩))
  (try simp only [Act.put, List.setIfInBounds_toArray, List.set_cons_zero, List.set_cons_succ])
  go_cut [18] (fun v18 wc => ∃ (kq : Nat) (x18_4 : Bool), v18 = .bool x18_4 ∧ Aside0 (pianolaref09_Count.j0 kq a0 l1 a2 t302 x18_4 = some (r1, r2)) ∧ Aside0 (kq ≤ k) ∧ Aside0 (Below w.heap.size w wc))
  case first =>
    have H := HC5.out
    clear HC5
    by_cases c6 : t302 = 0
    · rw [if_pos c6] at H
      have c6b0 : (t302 == 0) = true := beq_iff_eq.mpr c6
      have c6b1 : (t302 != 0) = false := bne_eq_false_iff_eq.mpr c6
      clear c6
      (first | rw [c6b0] | (simp only [i64_w, i32_w]; rw [c6b0]) | skip)
      replace H := Option.bind_eq_some_iff.mp H
      obtain ⟨t303, A70, H⟩ := H
      replace H : (pianolaref09_Count.j0 k a0 l1 a2 t302 (!t303)) = some (r1, r2) := H
      have A7 := Aside0.mk A70
      clear A70
      have H' := Aside0.mk H
      clear H
      go_wp2_with (first | (go_at_call 52; (with_reducible refine (pianolaref09_is.calls a2 0 250 t303 _ A7.out).mono ?_); rintro e w' ⟨rfl, ⟨nd, rfl⟩⟩))
      go_meet
      case rel => exact ⟨_, (!t303), (by first | rfl | (simp; done) | (simp [*]; done)), H', ⟨by first | omega | exact Nat.le_refl _⟩, ⟨by repeat (first | (with_reducible first | exact HB.out | apply below_alloc | apply pw_below_drewN | apply below_drew1) | exact HB.out)⟩⟩
    · rw [if_neg c6] at H
      have c6b0 : (t302 == 0) = false := beq_eq_false_iff_ne.mpr c6
      have c6b1 : (t302 != 0) = true := bne_iff_ne.mpr c6
      (first | rw [c6b0] | (simp only [i64_w, i32_w]; rw [c6b0]) | skip)
      have H' := Aside0.mk H
      clear H
      go_wp2
      go_meet
      case rel => exact ⟨_, (false), (by first | rfl | (simp; done) | (simp [*]; done)), H', ⟨by first | omega | exact Nat.le_refl _⟩, ⟨by repeat (first | (with_reducible first | exact HB.out | apply below_alloc | apply pw_below_drewN | apply below_drew1) | exact HB.out)⟩⟩
  case rest =>
    clear HC5
    try clear c1
    try clear p2
    try clear c3
    try clear c5
    try clear c6
    try clear c6b0
    try clear c6b1
    obtain ⟨kq, x18_4, rfl, HA, HJ4, HB⟩ := hcut
    cases kq with
    | zero => exact absurd HA.out (by simp [pianolaref09_Count.j0])
    | succ kj4 =>
      have H := HA.out
      clear HA
      simp only [pianolaref09_Count.j0] at H
      by_cases c8 : x18_4 = true
      · subst c8
        have H1 : (if 3 = 0 then ((pianolaref09_count.f kj4 a0 l1 a2).bind fun t304 => (some (t304, 0))) else (some (0, 3))) = some (r1, r2) := by rw [if_pos rfl] at H; exact H
        clear H
        have H := H1
        clear H1
        by_cases c9 : 3 = 0
        · exact absurd c9 (by decide)
        · rw [if_neg c9] at H
          have c9b0 : (3 == 0) = false := beq_eq_false_iff_ne.mpr c9
          have c9b1 : (3 != 0) = true := bne_iff_ne.mpr c9
          simp only [Option.some.injEq, Prod.mk.injEq] at H
          obtain ⟨rfl, rfl⟩ := H
          go_wp2
          go_ret2
          exact ⟨by first | rfl | (simp [errW_none, errW_some] <;> rfl) | (simp [*, errW_none, errW_some] <;> rfl), by repeat (first | (with_reducible first | exact HB.out | apply below_alloc | apply pw_below_drewN | apply below_drew1) | exact HB.out)⟩
      · replace c8 := Bool.eq_false_iff.mpr c8
        subst c8
        have H1 : (if t302 = 0 then ((pianolaref09_count.f kj4 a0 l1 a2).bind fun t305 => (some (t305, 0))) else (some (0, t302))) = some (r1, r2) := by rw [if_neg (show ¬ (false = true) by decide)] at H; exact H
        clear H
        have H := H1
        clear H1
        by_cases c12 : t302 = 0
        · rw [if_pos c12] at H
          have c12b0 : (t302 == 0) = true := beq_iff_eq.mpr c12
          have c12b1 : (t302 != 0) = false := bne_eq_false_iff_eq.mpr c12
          clear c12
          replace H := Option.bind_eq_some_iff.mp H
          obtain ⟨t305, A130, H⟩ := H
          replace H : (some (t305, 0)) = some (r1, r2) := H
          have A13 := Aside0.mk A130
          clear A130
          simp only [Option.some.injEq, Prod.mk.injEq] at H
          obtain ⟨rfl, rfl⟩ := H
          go_wp2_with (first | ((with_reducible refine gate_callee (f := 66) rfl ?_); refine goesL_ (some 25) rfl rfl Try.func66 (by kernel_rfl) rfl #[.int .i64 a0, .slice A1 l1.length c1, .int .i64 a2] rfl (by (try simp only [List.map_toArray, List.map_cons, List.map_nil]); first | done | rfl | (simp only [List.length_drop, List.length_take]; rfl)) ?_; (with_reducible refine (pianolaref09_count.calls kj4 a0 _ _ l1 a2 t305 _ ?side1 ?side2 A13.out).mono ?_); (case side1 => repeat (first | exact (Kd.C_below HR1.out HB.out) | (with_reducible refine Kd.C_alloc ?_ _) | (with_reducible refine Kd.C_drewN ?_ _) | (with_reducible refine Kd.C_drew ?_))); (case side2 => exact HC1.out); rintro e w14 ⟨rfl, hb⟩; refine ⟨_, rfl, ?_⟩; have n0_ := Aside0.mk (below_step (by repeat (first | (with_reducible first | exact HB.out | apply below_alloc | apply pw_below_drewN | apply below_drew1) | exact HB.out)) hb); clear HB; have HB := n0_; clear n0_; (try clear hb); (try clear hb2); (try clear hk); (try clear hi)))
          go_ret2
          exact ⟨by first | rfl | (simp [errW_none, errW_some] <;> rfl) | (simp [*, errW_none, errW_some] <;> rfl), by repeat (first | (with_reducible first | exact HB.out | apply below_alloc | apply pw_below_drewN | apply below_drew1) | exact HB.out)⟩
        · rw [if_neg c12] at H
          have c12b0 : (t302 == 0) = false := beq_eq_false_iff_ne.mpr c12
          have c12b1 : (t302 != 0) = true := bne_iff_ne.mpr c12
          simp only [Option.some.injEq, Prod.mk.injEq] at H
          obtain ⟨rfl, rfl⟩ := H
          go_wp2
          go_ret2
          exact ⟨by first | rfl | (simp [errW_none, errW_some] <;> rfl) | (simp [*, errW_none, errW_some] <;> rfl), by repeat (first | (with_reducible first | exact HB.out | apply below_alloc | apply pw_below_drewN | apply below_drew1) | exact HB.out)⟩
end Go.Proofs.Ytpfkfbbekfkcgaa.P
end
section
namespace Go.Proofs.Ytpfkfbbekfkcgaa.P
open Go.RowKit Go.Proofs.YtpfkfbbekfkcgaaW.PrintWords Go.Proofs.YtpfkfbbekfkcgaaW.PrintLast Go.Proofs.YtpfkfbbekfkcgaaW.PrintMore
attribute [local go_sem] max2_int min2_int max_two min_two max_three min_three max_four min_four
set_option linter.unusedVariables false
set_option linter.unusedSimpArgs false
def pianolalaw09_VaultPossible.f (k : Nat) (a0 : Int) (l1 : List (S61)) (a2 : Int) : Option (Bool) := if (l1.length : Int) > 60 then ((pianolalaw09_works.f).bind fun t306 => (some t306)) else ((vault_Possible.f k a0 l1).bind fun bt307 => ((pianolalaw09_given.f k l1).bind fun t311 => ((pianolaref09_Possible.f k a0 t311).bind fun bt314 => ((vault_Count.f k a0 l1 a2).bind fun bt318 => ((pianolalaw09_given.f k l1).bind fun t320 => ((pianolaref09_Count.f k a0 t320 a2).bind fun bt323 => ((pianolalaw09_numbers.f k bt307.1 bt314.1).bind fun t325 => (if t325 = true then (if bt307.2 = bt314.2 then (if bt318.1 = bt323.1 then (if bt318.2 = bt323.2 then ((pianolalaw09_works.f).bind fun t326 => (some t326)) else (some false)) else (some false)) else (some false)) else (some false)))))))))
set_option maxHeartbeats 8000000 in
set_option maxRecDepth 100000 in
theorem pianolalaw09_VaultPossible.calls (k : Nat) (a0 : Int) (A1 : Option Addr) (c1 : Nat) (l1 : List (S61)) (a2 : Int) (r : Bool) (w : World) (hr1 : Kd.C k61 w A1 l1.length l1) (hc1 : l1.length ≤ c1) (h : pianolalaw09_VaultPossible.f k a0 l1 a2 = some r) :
    Calls Try.prog 5 #[.int .i64 a0, .slice A1 l1.length c1, .int .i64 a2] w fun e w' => e = .returned (.bool r) ∧ Below w.heap.size w w' := by
  have HR1 := Aside0.mk hr1
  have HC1 := Aside0.mk hc1
  clear hr1 hc1
  have HB := Aside0.mk (Below.refl w.heap.size w)
  have H : (if (l1.length : Int) > 60 then ((pianolalaw09_works.f).bind fun t306 => (some t306)) else ((vault_Possible.f k a0 l1).bind fun bt307 => ((pianolalaw09_given.f k l1).bind fun t311 => ((pianolaref09_Possible.f k a0 t311).bind fun bt314 => ((vault_Count.f k a0 l1 a2).bind fun bt318 => ((pianolalaw09_given.f k l1).bind fun t320 => ((pianolaref09_Count.f k a0 t320 a2).bind fun bt323 => ((pianolalaw09_numbers.f k bt307.1 bt314.1).bind fun t325 => (if t325 = true then (if bt307.2 = bt314.2 then (if bt318.1 = bt323.1 then (if bt318.2 = bt323.2 then ((pianolalaw09_works.f).bind fun t326 => (some t326)) else (some false)) else (some false)) else (some false)) else (some false)))))))))) = some r := h
  clear h
  by_cases c4 : (l1.length : Int) > 60
  · rw [if_pos c4] at H
    have c4b0 : decide (60 < (l1.length : Int)) = true := decide_eq_true c4
    have c4b1 : decide (60 < l1.length) = true := decide_eq_true (by omega)
    clear c4
    replace H := Option.bind_eq_some_iff.mp H
    obtain ⟨t306, A50, H⟩ := H
    replace H : (some t306) = some r := H
    have A5 := Aside0.mk A50
    clear A50
    obtain rfl := Option.some.inj H
    go_enter Try.func5, Try.ntmps5
    go_wp2_with (first | ((with_reducible refine gate_callee (f := 17) rfl ?_); refine goesL_ (some 18) rfl rfl Try.func17 (by kernel_rfl) rfl #[] rfl (by (try simp only [List.map_toArray, List.map_cons, List.map_nil]); first | done | rfl | (simp only [List.length_drop, List.length_take]; rfl)) ?_; (with_reducible refine (pianolalaw09_works.calls  t306 _ A5.out).mono ?_); rintro e w6 ⟨rfl, hb⟩; refine ⟨_, rfl, ?_⟩; have n0_ := Aside0.mk (below_step (by repeat (first | (with_reducible first | exact HB.out | apply below_alloc | apply pw_below_drewN | apply below_drew1) | exact HB.out)) hb); clear HB; have HB := n0_; clear n0_; (try clear hb); (try clear hb2); (try clear hk); (try clear hi)))
    go_ret
    exact ⟨by first | rfl | (simp [errW_none, errW_some] <;> rfl) | (simp [*, errW_none, errW_some] <;> rfl), by repeat (first | (with_reducible first | exact HB.out | apply below_alloc | apply pw_below_drewN | apply below_drew1) | exact HB.out)⟩
  · rw [if_neg c4] at H
    have c4b0 : decide (60 < (l1.length : Int)) = false := decide_eq_false c4
    have c4b1 : decide (60 < l1.length) = false := decide_eq_false (by omega)
    clear c4
    replace H := Option.bind_eq_some_iff.mp H
    obtain ⟨⟨t307, t308⟩, A70, H⟩ := H
    replace H : ((pianolalaw09_given.f k l1).bind fun t311 => ((pianolaref09_Possible.f k a0 t311).bind fun bt314 => ((vault_Count.f k a0 l1 a2).bind fun bt318 => ((pianolalaw09_given.f k l1).bind fun t320 => ((pianolaref09_Count.f k a0 t320 a2).bind fun bt323 => ((pianolalaw09_numbers.f k t307 bt314.1).bind fun t325 => (if t325 = true then (if t308 = bt314.2 then (if bt318.1 = bt323.1 then (if bt318.2 = bt323.2 then ((pianolalaw09_works.f).bind fun t326 => (some t326)) else (some false)) else (some false)) else (some false)) else (some false)))))))) = some r := H
    have A7 := Aside0.mk A70
    clear A70
    replace H := Option.bind_eq_some_iff.mp H
    obtain ⟨t311, A80, H⟩ := H
    replace H : ((pianolaref09_Possible.f k a0 t311).bind fun bt314 => ((vault_Count.f k a0 l1 a2).bind fun bt318 => ((pianolalaw09_given.f k l1).bind fun t320 => ((pianolaref09_Count.f k a0 t320 a2).bind fun bt323 => ((pianolalaw09_numbers.f k t307 bt314.1).bind fun t325 => (if t325 = true then (if t308 = bt314.2 then (if bt318.1 = bt323.1 then (if bt318.2 = bt323.2 then ((pianolalaw09_works.f).bind fun t326 => (some t326)) else (some false)) else (some false)) else (some false)) else (some false))))))) = some r := H
    have A8 := Aside0.mk A80
    clear A80
    replace H := Option.bind_eq_some_iff.mp H
    obtain ⟨⟨t314, t315⟩, A90, H⟩ := H
    replace H : ((vault_Count.f k a0 l1 a2).bind fun bt318 => ((pianolalaw09_given.f k l1).bind fun t320 => ((pianolaref09_Count.f k a0 t320 a2).bind fun bt323 => ((pianolalaw09_numbers.f k t307 t314).bind fun t325 => (if t325 = true then (if t308 = t315 then (if bt318.1 = bt323.1 then (if bt318.2 = bt323.2 then ((pianolalaw09_works.f).bind fun t326 => (some t326)) else (some false)) else (some false)) else (some false)) else (some false)))))) = some r := H
    have A9 := Aside0.mk A90
    clear A90
    replace H := Option.bind_eq_some_iff.mp H
    obtain ⟨⟨t318, t319⟩, A100, H⟩ := H
    replace H : ((pianolalaw09_given.f k l1).bind fun t320 => ((pianolaref09_Count.f k a0 t320 a2).bind fun bt323 => ((pianolalaw09_numbers.f k t307 t314).bind fun t325 => (if t325 = true then (if t308 = t315 then (if t318 = bt323.1 then (if t319 = bt323.2 then ((pianolalaw09_works.f).bind fun t326 => (some t326)) else (some false)) else (some false)) else (some false)) else (some false))))) = some r := H
    have A10 := Aside0.mk A100
    clear A100
    replace H := Option.bind_eq_some_iff.mp H
    obtain ⟨t320, A110, H⟩ := H
    replace H : ((pianolaref09_Count.f k a0 t320 a2).bind fun bt323 => ((pianolalaw09_numbers.f k t307 t314).bind fun t325 => (if t325 = true then (if t308 = t315 then (if t318 = bt323.1 then (if t319 = bt323.2 then ((pianolalaw09_works.f).bind fun t326 => (some t326)) else (some false)) else (some false)) else (some false)) else (some false)))) = some r := H
    have A11 := Aside0.mk A110
    clear A110
    replace H := Option.bind_eq_some_iff.mp H
    obtain ⟨⟨t323, t324⟩, A120, H⟩ := H
    replace H : ((pianolalaw09_numbers.f k t307 t314).bind fun t325 => (if t325 = true then (if t308 = t315 then (if t318 = t323 then (if t319 = t324 then ((pianolalaw09_works.f).bind fun t326 => (some t326)) else (some false)) else (some false)) else (some false)) else (some false))) = some r := H
    have A12 := Aside0.mk A120
    clear A120
    replace H := Option.bind_eq_some_iff.mp H
    obtain ⟨t325, A130, H⟩ := H
    replace H : (if t325 = true then (if t308 = t315 then (if t318 = t323 then (if t319 = t324 then ((pianolalaw09_works.f).bind fun t326 => (some t326)) else (some false)) else (some false)) else (some false)) else (some false)) = some r := H
    have A13 := Aside0.mk A130
    clear A130
    by_cases c14 : t325 = true
    · subst c14
      have H1 : (if t308 = t315 then (if t318 = t323 then (if t319 = t324 then ((pianolalaw09_works.f).bind fun t326 => (some t326)) else (some false)) else (some false)) else (some false)) = some r := by rw [if_pos rfl] at H; exact H
      clear H
      have H := H1
      clear H1
      by_cases c15 : t308 = t315
      · rw [if_pos c15] at H
        have c15b0 : (t308 == t315) = true := beq_iff_eq.mpr c15
        have c15b1 : (t308 != t315) = false := bne_eq_false_iff_eq.mpr c15
        clear c15
        by_cases c16 : t318 = t323
        · rw [if_pos c16] at H
          have c16b0 : (t318 == t323) = true := beq_iff_eq.mpr c16
          have c16b1 : (t318 != t323) = false := bne_eq_false_iff_eq.mpr c16
          clear c16
          by_cases c17 : t319 = t324
          · rw [if_pos c17] at H
            have c17b0 : (t319 == t324) = true := beq_iff_eq.mpr c17
            have c17b1 : (t319 != t324) = false := bne_eq_false_iff_eq.mpr c17
            clear c17
            replace H := Option.bind_eq_some_iff.mp H
            obtain ⟨t326, A180, H⟩ := H
            replace H : (some t326) = some r := H
            have A18 := Aside0.mk A180
            clear A180
            obtain rfl := Option.some.inj H
            go_enter Try.func5, Try.ntmps5
            go_wp2_with (first | ((with_reducible refine gate_callee (f := 33) rfl ?_); refine goesL_ (some 22) rfl rfl Try.func33 (by kernel_rfl) rfl #[.int .i64 a0, .slice A1 l1.length c1] rfl (by (try simp only [List.map_toArray, List.map_cons, List.map_nil]); first | done | rfl | (simp only [List.length_drop, List.length_take]; rfl)) ?_; (with_reducible refine (vault_Possible.calls k a0 _ _ l1 t307 t308 _ ?side1 ?side2 A7.out).mono ?_); (case side1 => repeat (first | exact HR1.out | (with_reducible refine Kd.C_alloc ?_ _) | (with_reducible refine Kd.C_drewN ?_ _) | (with_reducible refine Kd.C_drew ?_))); (case side2 => exact HC1.out); rintro e w19 ⟨v309, rfl, ho0, hb⟩; refine ⟨_, rfl, ?_⟩; have n0_ := Aside0.mk (Kd.R_lower ho0 (below_size (by repeat (first | (with_reducible first | exact HB.out | apply below_alloc | apply pw_below_drewN | apply below_drew1) | exact HB.out)))); have n1_ := Aside0.mk (below_step (by repeat (first | (with_reducible first | exact HB.out | apply below_alloc | apply pw_below_drewN | apply below_drew1) | exact HB.out)) hb); clear HB; have HO310 := n0_; have HB := n1_; clear n0_ n1_; (try clear hb); (try clear hb2); (try clear hk); (try clear hi); (try clear ho0)) | ((with_reducible refine gate_callee (f := 27) rfl ?_); refine goesL_ (some 28) rfl rfl Try.func27 (by kernel_rfl) rfl #[.slice A1 l1.length c1] rfl (by (try simp only [List.map_toArray, List.map_cons, List.map_nil]); first | done | rfl | (simp only [List.length_drop, List.length_take]; rfl)) ?_; (with_reducible refine (pianolalaw09_given.calls k _ _ l1 t311 _ ?side1 ?side2 A8.out).mono ?_); (case side1 => repeat (first | exact (Kd.C_below HR1.out HB.out) | (with_reducible refine Kd.C_alloc ?_ _) | (with_reducible refine Kd.C_drewN ?_ _) | (with_reducible refine Kd.C_drew ?_))); (case side2 => exact HC1.out); rintro e w20 ⟨v312, rfl, ho0, hb⟩; refine ⟨_, rfl, ?_⟩; have n0_ := Aside0.mk (Kd.R_below (by (with_reducible repeat (first | apply Kd.R_alloc | apply Kd.R_drewN | apply Kd.R_drew)); exact HO310.out) hb); have n1_ := Aside0.mk (Kd.R_lower ho0 (below_size (by repeat (first | (with_reducible first | exact HB.out | apply below_alloc | apply pw_below_drewN | apply below_drew1) | exact HB.out)))); have n2_ := Aside0.mk (below_step (by repeat (first | (with_reducible first | exact HB.out | apply below_alloc | apply pw_below_drewN | apply below_drew1) | exact HB.out)) hb); clear HO310; clear HB; have HO310 := n0_; have HO313 := n1_; have HB := n2_; clear n0_ n1_ n2_; (try clear hb); (try clear hb2); (try clear hk); (try clear hi); (try clear ho0); obtain ⟨Ao21, co21, eo21⟩ := Kd.R_slice HO313.out; subst eo21) | ((with_reducible refine gate_callee (f := 34) rfl ?_); refine goesL_ (some 29) rfl rfl Try.func34 (by kernel_rfl) rfl #[.int .i64 a0, .slice Ao21 t311.length co21] rfl (by (try simp only [List.map_toArray, List.map_cons, List.map_nil]); first | done | rfl | (simp only [List.length_drop, List.length_take]; rfl)) ?_; (with_reducible refine (pianolaref09_Possible.calls k a0 _ _ t311 t314 t315 _ ?side1 ?side2 A9.out).mono ?_); (case side1 => repeat (first | exact (Kd.R_reads' HO313.out).2.2 | (with_reducible refine Kd.C_alloc ?_ _) | (with_reducible refine Kd.C_drewN ?_ _) | (with_reducible refine Kd.C_drew ?_))); (case side2 => exact (Kd.R_reads' HO313.out).2.1); rintro e w22 ⟨v316, rfl, ho0, hb⟩; refine ⟨_, rfl, ?_⟩; have n0_ := Aside0.mk (Kd.R_elder' (by (with_reducible repeat (first | apply Kd.R_alloc | apply Kd.R_drewN | apply Kd.R_drew)); exact HO310.out) (Kd.R_base ho0) hb); have n1_ := Aside0.mk (Kd.R_below (by (with_reducible repeat (first | apply Kd.R_alloc | apply Kd.R_drewN | apply Kd.R_drew)); exact HO313.out) hb); have n2_ := Aside0.mk (Kd.R_lower (Kd.R_new' ho0 (Kd.R_lt (by (with_reducible repeat (first | apply Kd.R_alloc | apply Kd.R_drewN | apply Kd.R_drew)); exact HO310.out))) (below_size (by repeat (first | (with_reducible first | exact HB.out | apply below_alloc | apply pw_below_drewN | apply below_drew1) | exact HB.out)))); have n3_ := Aside0.mk (below_step (by repeat (first | (with_reducible first | exact HB.out | apply below_alloc | apply pw_below_drewN | apply below_drew1) | exact HB.out)) hb); clear HO310; clear HO313; clear HB; have HO310 := n0_; have HO313 := n1_; have HO317 := n2_; have HB := n3_; clear n0_ n1_ n2_ n3_; (try clear hb); (try clear hb2); (try clear hk); (try clear hi); (try clear ho0)) | ((with_reducible refine gate_callee (f := 35) rfl ?_); refine goesL_ (some 36) rfl rfl Try.func35 (by kernel_rfl) rfl #[.int .i64 a0, .slice A1 l1.length c1, .int .i64 a2] rfl (by (try simp only [List.map_toArray, List.map_cons, List.map_nil]); first | done | rfl | (simp only [List.length_drop, List.length_take]; rfl)) ?_; (with_reducible refine (vault_Count.calls k a0 _ _ l1 a2 t318 t319 _ ?side1 ?side2 A10.out).mono ?_); (case side1 => repeat (first | exact (Kd.C_below HR1.out HB.out) | (with_reducible refine Kd.C_alloc ?_ _) | (with_reducible refine Kd.C_drewN ?_ _) | (with_reducible refine Kd.C_drew ?_))); (case side2 => exact HC1.out); rintro e w23 ⟨rfl, hb⟩; refine ⟨_, rfl, ?_⟩; have n0_ := Aside0.mk (Kd.R_below (by (with_reducible repeat (first | apply Kd.R_alloc | apply Kd.R_drewN | apply Kd.R_drew)); exact HO310.out) hb); have n1_ := Aside0.mk (Kd.R_below (by (with_reducible repeat (first | apply Kd.R_alloc | apply Kd.R_drewN | apply Kd.R_drew)); exact HO313.out) hb); have n2_ := Aside0.mk (Kd.R_below (by (with_reducible repeat (first | apply Kd.R_alloc | apply Kd.R_drewN | apply Kd.R_drew)); exact HO317.out) hb); have n3_ := Aside0.mk (below_step (by repeat (first | (with_reducible first | exact HB.out | apply below_alloc | apply pw_below_drewN | apply below_drew1) | exact HB.out)) hb); clear HO310; clear HO313; clear HO317; clear HB; have HO310 := n0_; have HO313 := n1_; have HO317 := n2_; have HB := n3_; clear n0_ n1_ n2_ n3_; (try clear hb); (try clear hb2); (try clear hk); (try clear hi)) | ((with_reducible refine gate_callee (f := 27) rfl ?_); refine goesL_ (some 42) rfl rfl Try.func27 (by kernel_rfl) rfl #[.slice A1 l1.length c1] rfl (by (try simp only [List.map_toArray, List.map_cons, List.map_nil]); first | done | rfl | (simp only [List.length_drop, List.length_take]; rfl)) ?_; (with_reducible refine (pianolalaw09_given.calls k _ _ l1 t320 _ ?side1 ?side2 A11.out).mono ?_); (case side1 => repeat (first | exact (Kd.C_below HR1.out HB.out) | (with_reducible refine Kd.C_alloc ?_ _) | (with_reducible refine Kd.C_drewN ?_ _) | (with_reducible refine Kd.C_drew ?_))); (case side2 => exact HC1.out); rintro e w24 ⟨v321, rfl, ho0, hb⟩; refine ⟨_, rfl, ?_⟩; have n0_ := Aside0.mk (Kd.R_below (by (with_reducible repeat (first | apply Kd.R_alloc | apply Kd.R_drewN | apply Kd.R_drew)); exact HO310.out) hb); have n1_ := Aside0.mk (Kd.R_elder' (by (with_reducible repeat (first | apply Kd.R_alloc | apply Kd.R_drewN | apply Kd.R_drew)); exact HO313.out) (Kd.R_base ho0) hb); have n2_ := Aside0.mk (Kd.R_below (by (with_reducible repeat (first | apply Kd.R_alloc | apply Kd.R_drewN | apply Kd.R_drew)); exact HO317.out) hb); have n3_ := Aside0.mk (Kd.R_lower (Kd.R_new' ho0 (Kd.R_lt (by (with_reducible repeat (first | apply Kd.R_alloc | apply Kd.R_drewN | apply Kd.R_drew)); exact HO313.out))) (below_size (by repeat (first | (with_reducible first | exact HB.out | apply below_alloc | apply pw_below_drewN | apply below_drew1) | exact HB.out)))); have n4_ := Aside0.mk (below_step (by repeat (first | (with_reducible first | exact HB.out | apply below_alloc | apply pw_below_drewN | apply below_drew1) | exact HB.out)) hb); clear HO310; clear HO313; clear HO317; clear HB; have HO310 := n0_; have HO313 := n1_; have HO317 := n2_; have HO322 := n3_; have HB := n4_; clear n0_ n1_ n2_ n3_ n4_; (try clear hb); (try clear hb2); (try clear hk); (try clear hi); (try clear ho0); obtain ⟨Ao25, co25, eo25⟩ := Kd.R_slice HO322.out; subst eo25) | ((with_reducible refine gate_callee (f := 36) rfl ?_); refine goesL_ (some 44) rfl rfl Try.func36 (by kernel_rfl) rfl #[.int .i64 a0, .slice Ao25 t320.length co25, .int .i64 a2] rfl (by (try simp only [List.map_toArray, List.map_cons, List.map_nil]); first | done | rfl | (simp only [List.length_drop, List.length_take]; rfl)) ?_; (with_reducible refine (pianolaref09_Count.calls k a0 _ _ t320 a2 t323 t324 _ ?side1 ?side2 A12.out).mono ?_); (case side1 => repeat (first | exact (Kd.R_reads' HO322.out).2.2 | (with_reducible refine Kd.C_alloc ?_ _) | (with_reducible refine Kd.C_drewN ?_ _) | (with_reducible refine Kd.C_drew ?_))); (case side2 => exact (Kd.R_reads' HO322.out).2.1); rintro e w26 ⟨rfl, hb⟩; refine ⟨_, rfl, ?_⟩; have n0_ := Aside0.mk (Kd.R_below (by (with_reducible repeat (first | apply Kd.R_alloc | apply Kd.R_drewN | apply Kd.R_drew)); exact HO310.out) hb); have n1_ := Aside0.mk (Kd.R_below (by (with_reducible repeat (first | apply Kd.R_alloc | apply Kd.R_drewN | apply Kd.R_drew)); exact HO313.out) hb); have n2_ := Aside0.mk (Kd.R_below (by (with_reducible repeat (first | apply Kd.R_alloc | apply Kd.R_drewN | apply Kd.R_drew)); exact HO317.out) hb); have n3_ := Aside0.mk (Kd.R_below (by (with_reducible repeat (first | apply Kd.R_alloc | apply Kd.R_drewN | apply Kd.R_drew)); exact HO322.out) hb); have n4_ := Aside0.mk (below_step (by repeat (first | (with_reducible first | exact HB.out | apply below_alloc | apply pw_below_drewN | apply below_drew1) | exact HB.out)) hb); clear HO310; clear HO313; clear HO317; clear HO322; clear HB; have HO310 := n0_; have HO313 := n1_; have HO317 := n2_; have HO322 := n3_; have HB := n4_; clear n0_ n1_ n2_ n3_ n4_; (try clear hb); (try clear hb2); (try clear hk); (try clear hi); obtain ⟨Ao27, co27, eo27⟩ := Kd.R_slice HO310.out; subst eo27; obtain ⟨Ao28, co28, eo28⟩ := Kd.R_slice HO317.out; subst eo28) | ((with_reducible refine gate_callee (f := 32) rfl ?_); refine goesL_ (some 49) rfl rfl Try.func32 (by kernel_rfl) rfl #[.slice Ao27 t307.length co27, .slice Ao28 t314.length co28] rfl (by (try simp only [List.map_toArray, List.map_cons, List.map_nil]); first | done | rfl | (simp only [List.length_drop, List.length_take]; rfl)) ?_; (with_reducible refine (pianolalaw09_numbers.calls k _ _ t307 _ _ t314 true _ ?side1 ?side2 ?side3 ?side4 A13.out).mono ?_); (case side1 => repeat (first | exact (Kd.R_reads' HO310.out).2.2 | (with_reducible refine Kd.C_alloc ?_ _) | (with_reducible refine Kd.C_drewN ?_ _) | (with_reducible refine Kd.C_drew ?_))); (case side2 => exact (Kd.R_reads' HO310.out).2.1); (case side3 => repeat (first | exact (Kd.R_reads' HO317.out).2.2 | (with_reducible refine Kd.C_alloc ?_ _) | (with_reducible refine Kd.C_drewN ?_ _) | (with_reducible refine Kd.C_drew ?_))); (case side4 => exact (Kd.R_reads' HO317.out).2.1); rintro e w' ⟨rfl, ⟨nd, rfl⟩⟩; refine ⟨_, rfl, ?_⟩) | (go_at_call 17; (with_reducible refine (pianolalaw09_works.calls  t326 _ A18.out).mono ?_); rintro e w29 ⟨rfl, hb⟩; have n0_ := Aside0.mk (Kd.R_below (by (with_reducible repeat (first | apply Kd.R_alloc | apply Kd.R_drewN | apply Kd.R_drew)); exact HO310.out) hb); have n1_ := Aside0.mk (Kd.R_below (by (with_reducible repeat (first | apply Kd.R_alloc | apply Kd.R_drewN | apply Kd.R_drew)); exact HO313.out) hb); have n2_ := Aside0.mk (Kd.R_below (by (with_reducible repeat (first | apply Kd.R_alloc | apply Kd.R_drewN | apply Kd.R_drew)); exact HO317.out) hb); have n3_ := Aside0.mk (Kd.R_below (by (with_reducible repeat (first | apply Kd.R_alloc | apply Kd.R_drewN | apply Kd.R_drew)); exact HO322.out) hb); have n4_ := Aside0.mk (below_step (by repeat (first | (with_reducible first | exact HB.out | apply below_alloc | apply pw_below_drewN | apply below_drew1) | exact HB.out)) hb); clear HO310; clear HO313; clear HO317; clear HO322; clear HB; have HO310 := n0_; have HO313 := n1_; have HO317 := n2_; have HO322 := n3_; have HB := n4_; clear n0_ n1_ n2_ n3_ n4_; (try clear hb); (try clear hb2); (try clear hk); (try clear hi)))
            go_ret
            exact ⟨by first | rfl | (simp [errW_none, errW_some] <;> rfl) | (simp [*, errW_none, errW_some] <;> rfl), by repeat (first | (with_reducible first | exact HB.out | apply below_alloc | apply pw_below_drewN | apply below_drew1) | exact HB.out)⟩
          · rw [if_neg c17] at H
            have c17b0 : (t319 == t324) = false := beq_eq_false_iff_ne.mpr c17
            have c17b1 : (t319 != t324) = true := bne_iff_ne.mpr c17
            obtain rfl := Option.some.inj H
            go_enter Try.func5, Try.ntmps5
            go_wp2_with (first | ((with_reducible refine gate_callee (f := 33) rfl ?_); refine goesL_ (some 22) rfl rfl Try.func33 (by kernel_rfl) rfl #[.int .i64 a0, .slice A1 l1.length c1] rfl (by (try simp only [List.map_toArray, List.map_cons, List.map_nil]); first | done | rfl | (simp only [List.length_drop, List.length_take]; rfl)) ?_; (with_reducible refine (vault_Possible.calls k a0 _ _ l1 t307 t308 _ ?side1 ?side2 A7.out).mono ?_); (case side1 => repeat (first | exact HR1.out | (with_reducible refine Kd.C_alloc ?_ _) | (with_reducible refine Kd.C_drewN ?_ _) | (with_reducible refine Kd.C_drew ?_))); (case side2 => exact HC1.out); rintro e w30 ⟨v309, rfl, ho0, hb⟩; refine ⟨_, rfl, ?_⟩; have n0_ := Aside0.mk (Kd.R_lower ho0 (below_size (by repeat (first | (with_reducible first | exact HB.out | apply below_alloc | apply pw_below_drewN | apply below_drew1) | exact HB.out)))); have n1_ := Aside0.mk (below_step (by repeat (first | (with_reducible first | exact HB.out | apply below_alloc | apply pw_below_drewN | apply below_drew1) | exact HB.out)) hb); clear HB; have HO310 := n0_; have HB := n1_; clear n0_ n1_; (try clear hb); (try clear hb2); (try clear hk); (try clear hi); (try clear ho0)) | ((with_reducible refine gate_callee (f := 27) rfl ?_); refine goesL_ (some 28) rfl rfl Try.func27 (by kernel_rfl) rfl #[.slice A1 l1.length c1] rfl (by (try simp only [List.map_toArray, List.map_cons, List.map_nil]); first | done | rfl | (simp only [List.length_drop, List.length_take]; rfl)) ?_; (with_reducible refine (pianolalaw09_given.calls k _ _ l1 t311 _ ?side1 ?side2 A8.out).mono ?_); (case side1 => repeat (first | exact (Kd.C_below HR1.out HB.out) | (with_reducible refine Kd.C_alloc ?_ _) | (with_reducible refine Kd.C_drewN ?_ _) | (with_reducible refine Kd.C_drew ?_))); (case side2 => exact HC1.out); rintro e w31 ⟨v312, rfl, ho0, hb⟩; refine ⟨_, rfl, ?_⟩; have n0_ := Aside0.mk (Kd.R_below (by (with_reducible repeat (first | apply Kd.R_alloc | apply Kd.R_drewN | apply Kd.R_drew)); exact HO310.out) hb); have n1_ := Aside0.mk (Kd.R_lower ho0 (below_size (by repeat (first | (with_reducible first | exact HB.out | apply below_alloc | apply pw_below_drewN | apply below_drew1) | exact HB.out)))); have n2_ := Aside0.mk (below_step (by repeat (first | (with_reducible first | exact HB.out | apply below_alloc | apply pw_below_drewN | apply below_drew1) | exact HB.out)) hb); clear HO310; clear HB; have HO310 := n0_; have HO313 := n1_; have HB := n2_; clear n0_ n1_ n2_; (try clear hb); (try clear hb2); (try clear hk); (try clear hi); (try clear ho0); obtain ⟨Ao32, co32, eo32⟩ := Kd.R_slice HO313.out; subst eo32) | ((with_reducible refine gate_callee (f := 34) rfl ?_); refine goesL_ (some 29) rfl rfl Try.func34 (by kernel_rfl) rfl #[.int .i64 a0, .slice Ao32 t311.length co32] rfl (by (try simp only [List.map_toArray, List.map_cons, List.map_nil]); first | done | rfl | (simp only [List.length_drop, List.length_take]; rfl)) ?_; (with_reducible refine (pianolaref09_Possible.calls k a0 _ _ t311 t314 t315 _ ?side1 ?side2 A9.out).mono ?_); (case side1 => repeat (first | exact (Kd.R_reads' HO313.out).2.2 | (with_reducible refine Kd.C_alloc ?_ _) | (with_reducible refine Kd.C_drewN ?_ _) | (with_reducible refine Kd.C_drew ?_))); (case side2 => exact (Kd.R_reads' HO313.out).2.1); rintro e w33 ⟨v316, rfl, ho0, hb⟩; refine ⟨_, rfl, ?_⟩; have n0_ := Aside0.mk (Kd.R_elder' (by (with_reducible repeat (first | apply Kd.R_alloc | apply Kd.R_drewN | apply Kd.R_drew)); exact HO310.out) (Kd.R_base ho0) hb); have n1_ := Aside0.mk (Kd.R_below (by (with_reducible repeat (first | apply Kd.R_alloc | apply Kd.R_drewN | apply Kd.R_drew)); exact HO313.out) hb); have n2_ := Aside0.mk (Kd.R_lower (Kd.R_new' ho0 (Kd.R_lt (by (with_reducible repeat (first | apply Kd.R_alloc | apply Kd.R_drewN | apply Kd.R_drew)); exact HO310.out))) (below_size (by repeat (first | (with_reducible first | exact HB.out | apply below_alloc | apply pw_below_drewN | apply below_drew1) | exact HB.out)))); have n3_ := Aside0.mk (below_step (by repeat (first | (with_reducible first | exact HB.out | apply below_alloc | apply pw_below_drewN | apply below_drew1) | exact HB.out)) hb); clear HO310; clear HO313; clear HB; have HO310 := n0_; have HO313 := n1_; have HO317 := n2_; have HB := n3_; clear n0_ n1_ n2_ n3_; (try clear hb); (try clear hb2); (try clear hk); (try clear hi); (try clear ho0)) | ((with_reducible refine gate_callee (f := 35) rfl ?_); refine goesL_ (some 36) rfl rfl Try.func35 (by kernel_rfl) rfl #[.int .i64 a0, .slice A1 l1.length c1, .int .i64 a2] rfl (by (try simp only [List.map_toArray, List.map_cons, List.map_nil]); first | done | rfl | (simp only [List.length_drop, List.length_take]; rfl)) ?_; (with_reducible refine (vault_Count.calls k a0 _ _ l1 a2 t318 t319 _ ?side1 ?side2 A10.out).mono ?_); (case side1 => repeat (first | exact (Kd.C_below HR1.out HB.out) | (with_reducible refine Kd.C_alloc ?_ _) | (with_reducible refine Kd.C_drewN ?_ _) | (with_reducible refine Kd.C_drew ?_))); (case side2 => exact HC1.out); rintro e w34 ⟨rfl, hb⟩; refine ⟨_, rfl, ?_⟩; have n0_ := Aside0.mk (Kd.R_below (by (with_reducible repeat (first | apply Kd.R_alloc | apply Kd.R_drewN | apply Kd.R_drew)); exact HO310.out) hb); have n1_ := Aside0.mk (Kd.R_below (by (with_reducible repeat (first | apply Kd.R_alloc | apply Kd.R_drewN | apply Kd.R_drew)); exact HO313.out) hb); have n2_ := Aside0.mk (Kd.R_below (by (with_reducible repeat (first | apply Kd.R_alloc | apply Kd.R_drewN | apply Kd.R_drew)); exact HO317.out) hb); have n3_ := Aside0.mk (below_step (by repeat (first | (with_reducible first | exact HB.out | apply below_alloc | apply pw_below_drewN | apply below_drew1) | exact HB.out)) hb); clear HO310; clear HO313; clear HO317; clear HB; have HO310 := n0_; have HO313 := n1_; have HO317 := n2_; have HB := n3_; clear n0_ n1_ n2_ n3_; (try clear hb); (try clear hb2); (try clear hk); (try clear hi)) | ((with_reducible refine gate_callee (f := 27) rfl ?_); refine goesL_ (some 42) rfl rfl Try.func27 (by kernel_rfl) rfl #[.slice A1 l1.length c1] rfl (by (try simp only [List.map_toArray, List.map_cons, List.map_nil]); first | done | rfl | (simp only [List.length_drop, List.length_take]; rfl)) ?_; (with_reducible refine (pianolalaw09_given.calls k _ _ l1 t320 _ ?side1 ?side2 A11.out).mono ?_); (case side1 => repeat (first | exact (Kd.C_below HR1.out HB.out) | (with_reducible refine Kd.C_alloc ?_ _) | (with_reducible refine Kd.C_drewN ?_ _) | (with_reducible refine Kd.C_drew ?_))); (case side2 => exact HC1.out); rintro e w35 ⟨v321, rfl, ho0, hb⟩; refine ⟨_, rfl, ?_⟩; have n0_ := Aside0.mk (Kd.R_below (by (with_reducible repeat (first | apply Kd.R_alloc | apply Kd.R_drewN | apply Kd.R_drew)); exact HO310.out) hb); have n1_ := Aside0.mk (Kd.R_elder' (by (with_reducible repeat (first | apply Kd.R_alloc | apply Kd.R_drewN | apply Kd.R_drew)); exact HO313.out) (Kd.R_base ho0) hb); have n2_ := Aside0.mk (Kd.R_below (by (with_reducible repeat (first | apply Kd.R_alloc | apply Kd.R_drewN | apply Kd.R_drew)); exact HO317.out) hb); have n3_ := Aside0.mk (Kd.R_lower (Kd.R_new' ho0 (Kd.R_lt (by (with_reducible repeat (first | apply Kd.R_alloc | apply Kd.R_drewN | apply Kd.R_drew)); exact HO313.out))) (below_size (by repeat (first | (with_reducible first | exact HB.out | apply below_alloc | apply pw_below_drewN | apply below_drew1) | exact HB.out)))); have n4_ := Aside0.mk (below_step (by repeat (first | (with_reducible first | exact HB.out | apply below_alloc | apply pw_below_drewN | apply below_drew1) | exact HB.out)) hb); clear HO310; clear HO313; clear HO317; clear HB; have HO310 := n0_; have HO313 := n1_; have HO317 := n2_; have HO322 := n3_; have HB := n4_; clear n0_ n1_ n2_ n3_ n4_; (try clear hb); (try clear hb2); (try clear hk); (try clear hi); (try clear ho0); obtain ⟨Ao36, co36, eo36⟩ := Kd.R_slice HO322.out; subst eo36) | ((with_reducible refine gate_callee (f := 36) rfl ?_); refine goesL_ (some 44) rfl rfl Try.func36 (by kernel_rfl) rfl #[.int .i64 a0, .slice Ao36 t320.length co36, .int .i64 a2] rfl (by (try simp only [List.map_toArray, List.map_cons, List.map_nil]); first | done | rfl | (simp only [List.length_drop, List.length_take]; rfl)) ?_; (with_reducible refine (pianolaref09_Count.calls k a0 _ _ t320 a2 t323 t324 _ ?side1 ?side2 A12.out).mono ?_); (case side1 => repeat (first | exact (Kd.R_reads' HO322.out).2.2 | (with_reducible refine Kd.C_alloc ?_ _) | (with_reducible refine Kd.C_drewN ?_ _) | (with_reducible refine Kd.C_drew ?_))); (case side2 => exact (Kd.R_reads' HO322.out).2.1); rintro e w37 ⟨rfl, hb⟩; refine ⟨_, rfl, ?_⟩; have n0_ := Aside0.mk (Kd.R_below (by (with_reducible repeat (first | apply Kd.R_alloc | apply Kd.R_drewN | apply Kd.R_drew)); exact HO310.out) hb); have n1_ := Aside0.mk (Kd.R_below (by (with_reducible repeat (first | apply Kd.R_alloc | apply Kd.R_drewN | apply Kd.R_drew)); exact HO313.out) hb); have n2_ := Aside0.mk (Kd.R_below (by (with_reducible repeat (first | apply Kd.R_alloc | apply Kd.R_drewN | apply Kd.R_drew)); exact HO317.out) hb); have n3_ := Aside0.mk (Kd.R_below (by (with_reducible repeat (first | apply Kd.R_alloc | apply Kd.R_drewN | apply Kd.R_drew)); exact HO322.out) hb); have n4_ := Aside0.mk (below_step (by repeat (first | (with_reducible first | exact HB.out | apply below_alloc | apply pw_below_drewN | apply below_drew1) | exact HB.out)) hb); clear HO310; clear HO313; clear HO317; clear HO322; clear HB; have HO310 := n0_; have HO313 := n1_; have HO317 := n2_; have HO322 := n3_; have HB := n4_; clear n0_ n1_ n2_ n3_ n4_; (try clear hb); (try clear hb2); (try clear hk); (try clear hi); obtain ⟨Ao38, co38, eo38⟩ := Kd.R_slice HO310.out; subst eo38; obtain ⟨Ao39, co39, eo39⟩ := Kd.R_slice HO317.out; subst eo39) | ((with_reducible refine gate_callee (f := 32) rfl ?_); refine goesL_ (some 49) rfl rfl Try.func32 (by kernel_rfl) rfl #[.slice Ao38 t307.length co38, .slice Ao39 t314.length co39] rfl (by (try simp only [List.map_toArray, List.map_cons, List.map_nil]); first | done | rfl | (simp only [List.length_drop, List.length_take]; rfl)) ?_; (with_reducible refine (pianolalaw09_numbers.calls k _ _ t307 _ _ t314 true _ ?side1 ?side2 ?side3 ?side4 A13.out).mono ?_); (case side1 => repeat (first | exact (Kd.R_reads' HO310.out).2.2 | (with_reducible refine Kd.C_alloc ?_ _) | (with_reducible refine Kd.C_drewN ?_ _) | (with_reducible refine Kd.C_drew ?_))); (case side2 => exact (Kd.R_reads' HO310.out).2.1); (case side3 => repeat (first | exact (Kd.R_reads' HO317.out).2.2 | (with_reducible refine Kd.C_alloc ?_ _) | (with_reducible refine Kd.C_drewN ?_ _) | (with_reducible refine Kd.C_drew ?_))); (case side4 => exact (Kd.R_reads' HO317.out).2.1); rintro e w' ⟨rfl, ⟨nd, rfl⟩⟩; refine ⟨_, rfl, ?_⟩))
            go_ret
            exact ⟨by first | rfl | (simp [errW_none, errW_some] <;> rfl) | (simp [*, errW_none, errW_some] <;> rfl), by repeat (first | (with_reducible first | exact HB.out | apply below_alloc | apply pw_below_drewN | apply below_drew1) | exact HB.out)⟩
        · rw [if_neg c16] at H
          have c16b0 : (t318 == t323) = false := beq_eq_false_iff_ne.mpr c16
          have c16b1 : (t318 != t323) = true := bne_iff_ne.mpr c16
          obtain rfl := Option.some.inj H
          go_enter Try.func5, Try.ntmps5
          go_wp2_with (first | ((with_reducible refine gate_callee (f := 33) rfl ?_); refine goesL_ (some 22) rfl rfl Try.func33 (by kernel_rfl) rfl #[.int .i64 a0, .slice A1 l1.length c1] rfl (by (try simp only [List.map_toArray, List.map_cons, List.map_nil]); first | done | rfl | (simp only [List.length_drop, List.length_take]; rfl)) ?_; (with_reducible refine (vault_Possible.calls k a0 _ _ l1 t307 t308 _ ?side1 ?side2 A7.out).mono ?_); (case side1 => repeat (first | exact HR1.out | (with_reducible refine Kd.C_alloc ?_ _) | (with_reducible refine Kd.C_drewN ?_ _) | (with_reducible refine Kd.C_drew ?_))); (case side2 => exact HC1.out); rintro e w40 ⟨v309, rfl, ho0, hb⟩; refine ⟨_, rfl, ?_⟩; have n0_ := Aside0.mk (Kd.R_lower ho0 (below_size (by repeat (first | (with_reducible first | exact HB.out | apply below_alloc | apply pw_below_drewN | apply below_drew1) | exact HB.out)))); have n1_ := Aside0.mk (below_step (by repeat (first | (with_reducible first | exact HB.out | apply below_alloc | apply pw_below_drewN | apply below_drew1) | exact HB.out)) hb); clear HB; have HO310 := n0_; have HB := n1_; clear n0_ n1_; (try clear hb); (try clear hb2); (try clear hk); (try clear hi); (try clear ho0)) | ((with_reducible refine gate_callee (f := 27) rfl ?_); refine goesL_ (some 28) rfl rfl Try.func27 (by kernel_rfl) rfl #[.slice A1 l1.length c1] rfl (by (try simp only [List.map_toArray, List.map_cons, List.map_nil]); first | done | rfl | (simp only [List.length_drop, List.length_take]; rfl)) ?_; (with_reducible refine (pianolalaw09_given.calls k _ _ l1 t311 _ ?side1 ?side2 A8.out).mono ?_); (case side1 => repeat (first | exact (Kd.C_below HR1.out HB.out) | (with_reducible refine Kd.C_alloc ?_ _) | (with_reducible refine Kd.C_drewN ?_ _) | (with_reducible refine Kd.C_drew ?_))); (case side2 => exact HC1.out); rintro e w41 ⟨v312, rfl, ho0, hb⟩; refine ⟨_, rfl, ?_⟩; have n0_ := Aside0.mk (Kd.R_below (by (with_reducible repeat (first | apply Kd.R_alloc | apply Kd.R_drewN | apply Kd.R_drew)); exact HO310.out) hb); have n1_ := Aside0.mk (Kd.R_lower ho0 (below_size (by repeat (first | (with_reducible first | exact HB.out | apply below_alloc | apply pw_below_drewN | apply below_drew1) | exact HB.out)))); have n2_ := Aside0.mk (below_step (by repeat (first | (with_reducible first | exact HB.out | apply below_alloc | apply pw_below_drewN | apply below_drew1) | exact HB.out)) hb); clear HO310; clear HB; have HO310 := n0_; have HO313 := n1_; have HB := n2_; clear n0_ n1_ n2_; (try clear hb); (try clear hb2); (try clear hk); (try clear hi); (try clear ho0); obtain ⟨Ao42, co42, eo42⟩ := Kd.R_slice HO313.out; subst eo42) | ((with_reducible refine gate_callee (f := 34) rfl ?_); refine goesL_ (some 29) rfl rfl Try.func34 (by kernel_rfl) rfl #[.int .i64 a0, .slice Ao42 t311.length co42] rfl (by (try simp only [List.map_toArray, List.map_cons, List.map_nil]); first | done | rfl | (simp only [List.length_drop, List.length_take]; rfl)) ?_; (with_reducible refine (pianolaref09_Possible.calls k a0 _ _ t311 t314 t315 _ ?side1 ?side2 A9.out).mono ?_); (case side1 => repeat (first | exact (Kd.R_reads' HO313.out).2.2 | (with_reducible refine Kd.C_alloc ?_ _) | (with_reducible refine Kd.C_drewN ?_ _) | (with_reducible refine Kd.C_drew ?_))); (case side2 => exact (Kd.R_reads' HO313.out).2.1); rintro e w43 ⟨v316, rfl, ho0, hb⟩; refine ⟨_, rfl, ?_⟩; have n0_ := Aside0.mk (Kd.R_elder' (by (with_reducible repeat (first | apply Kd.R_alloc | apply Kd.R_drewN | apply Kd.R_drew)); exact HO310.out) (Kd.R_base ho0) hb); have n1_ := Aside0.mk (Kd.R_below (by (with_reducible repeat (first | apply Kd.R_alloc | apply Kd.R_drewN | apply Kd.R_drew)); exact HO313.out) hb); have n2_ := Aside0.mk (Kd.R_lower (Kd.R_new' ho0 (Kd.R_lt (by (with_reducible repeat (first | apply Kd.R_alloc | apply Kd.R_drewN | apply Kd.R_drew)); exact HO310.out))) (below_size (by repeat (first | (with_reducible first | exact HB.out | apply below_alloc | apply pw_below_drewN | apply below_drew1) | exact HB.out)))); have n3_ := Aside0.mk (below_step (by repeat (first | (with_reducible first | exact HB.out | apply below_alloc | apply pw_below_drewN | apply below_drew1) | exact HB.out)) hb); clear HO310; clear HO313; clear HB; have HO310 := n0_; have HO313 := n1_; have HO317 := n2_; have HB := n3_; clear n0_ n1_ n2_ n3_; (try clear hb); (try clear hb2); (try clear hk); (try clear hi); (try clear ho0)) | ((with_reducible refine gate_callee (f := 35) rfl ?_); refine goesL_ (some 36) rfl rfl Try.func35 (by kernel_rfl) rfl #[.int .i64 a0, .slice A1 l1.length c1, .int .i64 a2] rfl (by (try simp only [List.map_toArray, List.map_cons, List.map_nil]); first | done | rfl | (simp only [List.length_drop, List.length_take]; rfl)) ?_; (with_reducible refine (vault_Count.calls k a0 _ _ l1 a2 t318 t319 _ ?side1 ?side2 A10.out).mono ?_); (case side1 => repeat (first | exact (Kd.C_below HR1.out HB.out) | (with_reducible refine Kd.C_alloc ?_ _) | (with_reducible refine Kd.C_drewN ?_ _) | (with_reducible refine Kd.C_drew ?_))); (case side2 => exact HC1.out); rintro e w44 ⟨rfl, hb⟩; refine ⟨_, rfl, ?_⟩; have n0_ := Aside0.mk (Kd.R_below (by (with_reducible repeat (first | apply Kd.R_alloc | apply Kd.R_drewN | apply Kd.R_drew)); exact HO310.out) hb); have n1_ := Aside0.mk (Kd.R_below (by (with_reducible repeat (first | apply Kd.R_alloc | apply Kd.R_drewN | apply Kd.R_drew)); exact HO313.out) hb); have n2_ := Aside0.mk (Kd.R_below (by (with_reducible repeat (first | apply Kd.R_alloc | apply Kd.R_drewN | apply Kd.R_drew)); exact HO317.out) hb); have n3_ := Aside0.mk (below_step (by repeat (first | (with_reducible first | exact HB.out | apply below_alloc | apply pw_below_drewN | apply below_drew1) | exact HB.out)) hb); clear HO310; clear HO313; clear HO317; clear HB; have HO310 := n0_; have HO313 := n1_; have HO317 := n2_; have HB := n3_; clear n0_ n1_ n2_ n3_; (try clear hb); (try clear hb2); (try clear hk); (try clear hi)) | ((with_reducible refine gate_callee (f := 27) rfl ?_); refine goesL_ (some 42) rfl rfl Try.func27 (by kernel_rfl) rfl #[.slice A1 l1.length c1] rfl (by (try simp only [List.map_toArray, List.map_cons, List.map_nil]); first | done | rfl | (simp only [List.length_drop, List.length_take]; rfl)) ?_; (with_reducible refine (pianolalaw09_given.calls k _ _ l1 t320 _ ?side1 ?side2 A11.out).mono ?_); (case side1 => repeat (first | exact (Kd.C_below HR1.out HB.out) | (with_reducible refine Kd.C_alloc ?_ _) | (with_reducible refine Kd.C_drewN ?_ _) | (with_reducible refine Kd.C_drew ?_))); (case side2 => exact HC1.out); rintro e w45 ⟨v321, rfl, ho0, hb⟩; refine ⟨_, rfl, ?_⟩; have n0_ := Aside0.mk (Kd.R_below (by (with_reducible repeat (first | apply Kd.R_alloc | apply Kd.R_drewN | apply Kd.R_drew)); exact HO310.out) hb); have n1_ := Aside0.mk (Kd.R_elder' (by (with_reducible repeat (first | apply Kd.R_alloc | apply Kd.R_drewN | apply Kd.R_drew)); exact HO313.out) (Kd.R_base ho0) hb); have n2_ := Aside0.mk (Kd.R_below (by (with_reducible repeat (first | apply Kd.R_alloc | apply Kd.R_drewN | apply Kd.R_drew)); exact HO317.out) hb); have n3_ := Aside0.mk (Kd.R_lower (Kd.R_new' ho0 (Kd.R_lt (by (with_reducible repeat (first | apply Kd.R_alloc | apply Kd.R_drewN | apply Kd.R_drew)); exact HO313.out))) (below_size (by repeat (first | (with_reducible first | exact HB.out | apply below_alloc | apply pw_below_drewN | apply below_drew1) | exact HB.out)))); have n4_ := Aside0.mk (below_step (by repeat (first | (with_reducible first | exact HB.out | apply below_alloc | apply pw_below_drewN | apply below_drew1) | exact HB.out)) hb); clear HO310; clear HO313; clear HO317; clear HB; have HO310 := n0_; have HO313 := n1_; have HO317 := n2_; have HO322 := n3_; have HB := n4_; clear n0_ n1_ n2_ n3_ n4_; (try clear hb); (try clear hb2); (try clear hk); (try clear hi); (try clear ho0); obtain ⟨Ao46, co46, eo46⟩ := Kd.R_slice HO322.out; subst eo46) | ((with_reducible refine gate_callee (f := 36) rfl ?_); refine goesL_ (some 44) rfl rfl Try.func36 (by kernel_rfl) rfl #[.int .i64 a0, .slice Ao46 t320.length co46, .int .i64 a2] rfl (by (try simp only [List.map_toArray, List.map_cons, List.map_nil]); first | done | rfl | (simp only [List.length_drop, List.length_take]; rfl)) ?_; (with_reducible refine (pianolaref09_Count.calls k a0 _ _ t320 a2 t323 t324 _ ?side1 ?side2 A12.out).mono ?_); (case side1 => repeat (first | exact (Kd.R_reads' HO322.out).2.2 | (with_reducible refine Kd.C_alloc ?_ _) | (with_reducible refine Kd.C_drewN ?_ _) | (with_reducible refine Kd.C_drew ?_))); (case side2 => exact (Kd.R_reads' HO322.out).2.1); rintro e w47 ⟨rfl, hb⟩; refine ⟨_, rfl, ?_⟩; have n0_ := Aside0.mk (Kd.R_below (by (with_reducible repeat (first | apply Kd.R_alloc | apply Kd.R_drewN | apply Kd.R_drew)); exact HO310.out) hb); have n1_ := Aside0.mk (Kd.R_below (by (with_reducible repeat (first | apply Kd.R_alloc | apply Kd.R_drewN | apply Kd.R_drew)); exact HO313.out) hb); have n2_ := Aside0.mk (Kd.R_below (by (with_reducible repeat (first | apply Kd.R_alloc | apply Kd.R_drewN | apply Kd.R_drew)); exact HO317.out) hb); have n3_ := Aside0.mk (Kd.R_below (by (with_reducible repeat (first | apply Kd.R_alloc | apply Kd.R_drewN | apply Kd.R_drew)); exact HO322.out) hb); have n4_ := Aside0.mk (below_step (by repeat (first | (with_reducible first | exact HB.out | apply below_alloc | apply pw_below_drewN | apply below_drew1) | exact HB.out)) hb); clear HO310; clear HO313; clear HO317; clear HO322; clear HB; have HO310 := n0_; have HO313 := n1_; have HO317 := n2_; have HO322 := n3_; have HB := n4_; clear n0_ n1_ n2_ n3_ n4_; (try clear hb); (try clear hb2); (try clear hk); (try clear hi); obtain ⟨Ao48, co48, eo48⟩ := Kd.R_slice HO310.out; subst eo48; obtain ⟨Ao49, co49, eo49⟩ := Kd.R_slice HO317.out; subst eo49) | ((with_reducible refine gate_callee (f := 32) rfl ?_); refine goesL_ (some 49) rfl rfl Try.func32 (by kernel_rfl) rfl #[.slice Ao48 t307.length co48, .slice Ao49 t314.length co49] rfl (by (try simp only [List.map_toArray, List.map_cons, List.map_nil]); first | done | rfl | (simp only [List.length_drop, List.length_take]; rfl)) ?_; (with_reducible refine (pianolalaw09_numbers.calls k _ _ t307 _ _ t314 true _ ?side1 ?side2 ?side3 ?side4 A13.out).mono ?_); (case side1 => repeat (first | exact (Kd.R_reads' HO310.out).2.2 | (with_reducible refine Kd.C_alloc ?_ _) | (with_reducible refine Kd.C_drewN ?_ _) | (with_reducible refine Kd.C_drew ?_))); (case side2 => exact (Kd.R_reads' HO310.out).2.1); (case side3 => repeat (first | exact (Kd.R_reads' HO317.out).2.2 | (with_reducible refine Kd.C_alloc ?_ _) | (with_reducible refine Kd.C_drewN ?_ _) | (with_reducible refine Kd.C_drew ?_))); (case side4 => exact (Kd.R_reads' HO317.out).2.1); rintro e w' ⟨rfl, ⟨nd, rfl⟩⟩; refine ⟨_, rfl, ?_⟩))
          go_ret
          exact ⟨by first | rfl | (simp [errW_none, errW_some] <;> rfl) | (simp [*, errW_none, errW_some] <;> rfl), by repeat (first | (with_reducible first | exact HB.out | apply below_alloc | apply pw_below_drewN | apply below_drew1) | exact HB.out)⟩
      · rw [if_neg c15] at H
        have c15b0 : (t308 == t315) = false := beq_eq_false_iff_ne.mpr c15
        have c15b1 : (t308 != t315) = true := bne_iff_ne.mpr c15
        obtain rfl := Option.some.inj H
        go_enter Try.func5, Try.ntmps5
        go_wp2_with (first | ((with_reducible refine gate_callee (f := 33) rfl ?_); refine goesL_ (some 22) rfl rfl Try.func33 (by kernel_rfl) rfl #[.int .i64 a0, .slice A1 l1.length c1] rfl (by (try simp only [List.map_toArray, List.map_cons, List.map_nil]); first | done | rfl | (simp only [List.length_drop, List.length_take]; rfl)) ?_; (with_reducible refine (vault_Possible.calls k a0 _ _ l1 t307 t308 _ ?side1 ?side2 A7.out).mono ?_); (case side1 => repeat (first | exact HR1.out | (with_reducible refine Kd.C_alloc ?_ _) | (with_reducible refine Kd.C_drewN ?_ _) | (with_reducible refine Kd.C_drew ?_))); (case side2 => exact HC1.out); rintro e w50 ⟨v309, rfl, ho0, hb⟩; refine ⟨_, rfl, ?_⟩; have n0_ := Aside0.mk (Kd.R_lower ho0 (below_size (by repeat (first | (with_reducible first | exact HB.out | apply below_alloc | apply pw_below_drewN | apply below_drew1) | exact HB.out)))); have n1_ := Aside0.mk (below_step (by repeat (first | (with_reducible first | exact HB.out | apply below_alloc | apply pw_below_drewN | apply below_drew1) | exact HB.out)) hb); clear HB; have HO310 := n0_; have HB := n1_; clear n0_ n1_; (try clear hb); (try clear hb2); (try clear hk); (try clear hi); (try clear ho0)) | ((with_reducible refine gate_callee (f := 27) rfl ?_); refine goesL_ (some 28) rfl rfl Try.func27 (by kernel_rfl) rfl #[.slice A1 l1.length c1] rfl (by (try simp only [List.map_toArray, List.map_cons, List.map_nil]); first | done | rfl | (simp only [List.length_drop, List.length_take]; rfl)) ?_; (with_reducible refine (pianolalaw09_given.calls k _ _ l1 t311 _ ?side1 ?side2 A8.out).mono ?_); (case side1 => repeat (first | exact (Kd.C_below HR1.out HB.out) | (with_reducible refine Kd.C_alloc ?_ _) | (with_reducible refine Kd.C_drewN ?_ _) | (with_reducible refine Kd.C_drew ?_))); (case side2 => exact HC1.out); rintro e w51 ⟨v312, rfl, ho0, hb⟩; refine ⟨_, rfl, ?_⟩; have n0_ := Aside0.mk (Kd.R_below (by (with_reducible repeat (first | apply Kd.R_alloc | apply Kd.R_drewN | apply Kd.R_drew)); exact HO310.out) hb); have n1_ := Aside0.mk (Kd.R_lower ho0 (below_size (by repeat (first | (with_reducible first | exact HB.out | apply below_alloc | apply pw_below_drewN | apply below_drew1) | exact HB.out)))); have n2_ := Aside0.mk (below_step (by repeat (first | (with_reducible first | exact HB.out | apply below_alloc | apply pw_below_drewN | apply below_drew1) | exact HB.out)) hb); clear HO310; clear HB; have HO310 := n0_; have HO313 := n1_; have HB := n2_; clear n0_ n1_ n2_; (try clear hb); (try clear hb2); (try clear hk); (try clear hi); (try clear ho0); obtain ⟨Ao52, co52, eo52⟩ := Kd.R_slice HO313.out; subst eo52) | ((with_reducible refine gate_callee (f := 34) rfl ?_); refine goesL_ (some 29) rfl rfl Try.func34 (by kernel_rfl) rfl #[.int .i64 a0, .slice Ao52 t311.length co52] rfl (by (try simp only [List.map_toArray, List.map_cons, List.map_nil]); first | done | rfl | (simp only [List.length_drop, List.length_take]; rfl)) ?_; (with_reducible refine (pianolaref09_Possible.calls k a0 _ _ t311 t314 t315 _ ?side1 ?side2 A9.out).mono ?_); (case side1 => repeat (first | exact (Kd.R_reads' HO313.out).2.2 | (with_reducible refine Kd.C_alloc ?_ _) | (with_reducible refine Kd.C_drewN ?_ _) | (with_reducible refine Kd.C_drew ?_))); (case side2 => exact (Kd.R_reads' HO313.out).2.1); rintro e w53 ⟨v316, rfl, ho0, hb⟩; refine ⟨_, rfl, ?_⟩; have n0_ := Aside0.mk (Kd.R_elder' (by (with_reducible repeat (first | apply Kd.R_alloc | apply Kd.R_drewN | apply Kd.R_drew)); exact HO310.out) (Kd.R_base ho0) hb); have n1_ := Aside0.mk (Kd.R_below (by (with_reducible repeat (first | apply Kd.R_alloc | apply Kd.R_drewN | apply Kd.R_drew)); exact HO313.out) hb); have n2_ := Aside0.mk (Kd.R_lower (Kd.R_new' ho0 (Kd.R_lt (by (with_reducible repeat (first | apply Kd.R_alloc | apply Kd.R_drewN | apply Kd.R_drew)); exact HO310.out))) (below_size (by repeat (first | (with_reducible first | exact HB.out | apply below_alloc | apply pw_below_drewN | apply below_drew1) | exact HB.out)))); have n3_ := Aside0.mk (below_step (by repeat (first | (with_reducible first | exact HB.out | apply below_alloc | apply pw_below_drewN | apply below_drew1) | exact HB.out)) hb); clear HO310; clear HO313; clear HB; have HO310 := n0_; have HO313 := n1_; have HO317 := n2_; have HB := n3_; clear n0_ n1_ n2_ n3_; (try clear hb); (try clear hb2); (try clear hk); (try clear hi); (try clear ho0)) | ((with_reducible refine gate_callee (f := 35) rfl ?_); refine goesL_ (some 36) rfl rfl Try.func35 (by kernel_rfl) rfl #[.int .i64 a0, .slice A1 l1.length c1, .int .i64 a2] rfl (by (try simp only [List.map_toArray, List.map_cons, List.map_nil]); first | done | rfl | (simp only [List.length_drop, List.length_take]; rfl)) ?_; (with_reducible refine (vault_Count.calls k a0 _ _ l1 a2 t318 t319 _ ?side1 ?side2 A10.out).mono ?_); (case side1 => repeat (first | exact (Kd.C_below HR1.out HB.out) | (with_reducible refine Kd.C_alloc ?_ _) | (with_reducible refine Kd.C_drewN ?_ _) | (with_reducible refine Kd.C_drew ?_))); (case side2 => exact HC1.out); rintro e w54 ⟨rfl, hb⟩; refine ⟨_, rfl, ?_⟩; have n0_ := Aside0.mk (Kd.R_below (by (with_reducible repeat (first | apply Kd.R_alloc | apply Kd.R_drewN | apply Kd.R_drew)); exact HO310.out) hb); have n1_ := Aside0.mk (Kd.R_below (by (with_reducible repeat (first | apply Kd.R_alloc | apply Kd.R_drewN | apply Kd.R_drew)); exact HO313.out) hb); have n2_ := Aside0.mk (Kd.R_below (by (with_reducible repeat (first | apply Kd.R_alloc | apply Kd.R_drewN | apply Kd.R_drew)); exact HO317.out) hb); have n3_ := Aside0.mk (below_step (by repeat (first | (with_reducible first | exact HB.out | apply below_alloc | apply pw_below_drewN | apply below_drew1) | exact HB.out)) hb); clear HO310; clear HO313; clear HO317; clear HB; have HO310 := n0_; have HO313 := n1_; have HO317 := n2_; have HB := n3_; clear n0_ n1_ n2_ n3_; (try clear hb); (try clear hb2); (try clear hk); (try clear hi)) | ((with_reducible refine gate_callee (f := 27) rfl ?_); refine goesL_ (some 42) rfl rfl Try.func27 (by kernel_rfl) rfl #[.slice A1 l1.length c1] rfl (by (try simp only [List.map_toArray, List.map_cons, List.map_nil]); first | done | rfl | (simp only [List.length_drop, List.length_take]; rfl)) ?_; (with_reducible refine (pianolalaw09_given.calls k _ _ l1 t320 _ ?side1 ?side2 A11.out).mono ?_); (case side1 => repeat (first | exact (Kd.C_below HR1.out HB.out) | (with_reducible refine Kd.C_alloc ?_ _) | (with_reducible refine Kd.C_drewN ?_ _) | (with_reducible refine Kd.C_drew ?_))); (case side2 => exact HC1.out); rintro e w55 ⟨v321, rfl, ho0, hb⟩; refine ⟨_, rfl, ?_⟩; have n0_ := Aside0.mk (Kd.R_below (by (with_reducible repeat (first | apply Kd.R_alloc | apply Kd.R_drewN | apply Kd.R_drew)); exact HO310.out) hb); have n1_ := Aside0.mk (Kd.R_elder' (by (with_reducible repeat (first | apply Kd.R_alloc | apply Kd.R_drewN | apply Kd.R_drew)); exact HO313.out) (Kd.R_base ho0) hb); have n2_ := Aside0.mk (Kd.R_below (by (with_reducible repeat (first | apply Kd.R_alloc | apply Kd.R_drewN | apply Kd.R_drew)); exact HO317.out) hb); have n3_ := Aside0.mk (Kd.R_lower (Kd.R_new' ho0 (Kd.R_lt (by (with_reducible repeat (first | apply Kd.R_alloc | apply Kd.R_drewN | apply Kd.R_drew)); exact HO313.out))) (below_size (by repeat (first | (with_reducible first | exact HB.out | apply below_alloc | apply pw_below_drewN | apply below_drew1) | exact HB.out)))); have n4_ := Aside0.mk (below_step (by repeat (first | (with_reducible first | exact HB.out | apply below_alloc | apply pw_below_drewN | apply below_drew1) | exact HB.out)) hb); clear HO310; clear HO313; clear HO317; clear HB; have HO310 := n0_; have HO313 := n1_; have HO317 := n2_; have HO322 := n3_; have HB := n4_; clear n0_ n1_ n2_ n3_ n4_; (try clear hb); (try clear hb2); (try clear hk); (try clear hi); (try clear ho0); obtain ⟨Ao56, co56, eo56⟩ := Kd.R_slice HO322.out; subst eo56) | ((with_reducible refine gate_callee (f := 36) rfl ?_); refine goesL_ (some 44) rfl rfl Try.func36 (by kernel_rfl) rfl #[.int .i64 a0, .slice Ao56 t320.length co56, .int .i64 a2] rfl (by (try simp only [List.map_toArray, List.map_cons, List.map_nil]); first | done | rfl | (simp only [List.length_drop, List.length_take]; rfl)) ?_; (with_reducible refine (pianolaref09_Count.calls k a0 _ _ t320 a2 t323 t324 _ ?side1 ?side2 A12.out).mono ?_); (case side1 => repeat (first | exact (Kd.R_reads' HO322.out).2.2 | (with_reducible refine Kd.C_alloc ?_ _) | (with_reducible refine Kd.C_drewN ?_ _) | (with_reducible refine Kd.C_drew ?_))); (case side2 => exact (Kd.R_reads' HO322.out).2.1); rintro e w57 ⟨rfl, hb⟩; refine ⟨_, rfl, ?_⟩; have n0_ := Aside0.mk (Kd.R_below (by (with_reducible repeat (first | apply Kd.R_alloc | apply Kd.R_drewN | apply Kd.R_drew)); exact HO310.out) hb); have n1_ := Aside0.mk (Kd.R_below (by (with_reducible repeat (first | apply Kd.R_alloc | apply Kd.R_drewN | apply Kd.R_drew)); exact HO313.out) hb); have n2_ := Aside0.mk (Kd.R_below (by (with_reducible repeat (first | apply Kd.R_alloc | apply Kd.R_drewN | apply Kd.R_drew)); exact HO317.out) hb); have n3_ := Aside0.mk (Kd.R_below (by (with_reducible repeat (first | apply Kd.R_alloc | apply Kd.R_drewN | apply Kd.R_drew)); exact HO322.out) hb); have n4_ := Aside0.mk (below_step (by repeat (first | (with_reducible first | exact HB.out | apply below_alloc | apply pw_below_drewN | apply below_drew1) | exact HB.out)) hb); clear HO310; clear HO313; clear HO317; clear HO322; clear HB; have HO310 := n0_; have HO313 := n1_; have HO317 := n2_; have HO322 := n3_; have HB := n4_; clear n0_ n1_ n2_ n3_ n4_; (try clear hb); (try clear hb2); (try clear hk); (try clear hi); obtain ⟨Ao58, co58, eo58⟩ := Kd.R_slice HO310.out; subst eo58; obtain ⟨Ao59, co59, eo59⟩ := Kd.R_slice HO317.out; subst eo59) | ((with_reducible refine gate_callee (f := 32) rfl ?_); refine goesL_ (some 49) rfl rfl Try.func32 (by kernel_rfl) rfl #[.slice Ao58 t307.length co58, .slice Ao59 t314.length co59] rfl (by (try simp only [List.map_toArray, List.map_cons, List.map_nil]); first | done | rfl | (simp only [List.length_drop, List.length_take]; rfl)) ?_; (with_reducible refine (pianolalaw09_numbers.calls k _ _ t307 _ _ t314 true _ ?side1 ?side2 ?side3 ?side4 A13.out).mono ?_); (case side1 => repeat (first | exact (Kd.R_reads' HO310.out).2.2 | (with_reducible refine Kd.C_alloc ?_ _) | (with_reducible refine Kd.C_drewN ?_ _) | (with_reducible refine Kd.C_drew ?_))); (case side2 => exact (Kd.R_reads' HO310.out).2.1); (case side3 => repeat (first | exact (Kd.R_reads' HO317.out).2.2 | (with_reducible refine Kd.C_alloc ?_ _) | (with_reducible refine Kd.C_drewN ?_ _) | (with_reducible refine Kd.C_drew ?_))); (case side4 => exact (Kd.R_reads' HO317.out).2.1); rintro e w' ⟨rfl, ⟨nd, rfl⟩⟩; refine ⟨_, rfl, ?_⟩))
        go_ret
        exact ⟨by first | rfl | (simp [errW_none, errW_some] <;> rfl) | (simp [*, errW_none, errW_some] <;> rfl), by repeat (first | (with_reducible first | exact HB.out | apply below_alloc | apply pw_below_drewN | apply below_drew1) | exact HB.out)⟩
    · replace c14 := Bool.eq_false_iff.mpr c14
      subst c14
      have H1 : (some false) = some r := by rw [if_neg (show ¬ (false = true) by decide)] at H; exact H
      clear H
      have H := H1
      clear H1
      obtain rfl := Option.some.inj H
      go_enter Try.func5, Try.ntmps5
      go_wp2_with (first | ((with_reducible refine gate_callee (f := 33) rfl ?_); refine goesL_ (some 22) rfl rfl Try.func33 (by kernel_rfl) rfl #[.int .i64 a0, .slice A1 l1.length c1] rfl (by (try simp only [List.map_toArray, List.map_cons, List.map_nil]); first | done | rfl | (simp only [List.length_drop, List.length_take]; rfl)) ?_; (with_reducible refine (vault_Possible.calls k a0 _ _ l1 t307 t308 _ ?side1 ?side2 A7.out).mono ?_); (case side1 => repeat (first | exact HR1.out | (with_reducible refine Kd.C_alloc ?_ _) | (with_reducible refine Kd.C_drewN ?_ _) | (with_reducible refine Kd.C_drew ?_))); (case side2 => exact HC1.out); rintro e w60 ⟨v309, rfl, ho0, hb⟩; refine ⟨_, rfl, ?_⟩; have n0_ := Aside0.mk (Kd.R_lower ho0 (below_size (by repeat (first | (with_reducible first | exact HB.out | apply below_alloc | apply pw_below_drewN | apply below_drew1) | exact HB.out)))); have n1_ := Aside0.mk (below_step (by repeat (first | (with_reducible first | exact HB.out | apply below_alloc | apply pw_below_drewN | apply below_drew1) | exact HB.out)) hb); clear HB; have HO310 := n0_; have HB := n1_; clear n0_ n1_; (try clear hb); (try clear hb2); (try clear hk); (try clear hi); (try clear ho0)) | ((with_reducible refine gate_callee (f := 27) rfl ?_); refine goesL_ (some 28) rfl rfl Try.func27 (by kernel_rfl) rfl #[.slice A1 l1.length c1] rfl (by (try simp only [List.map_toArray, List.map_cons, List.map_nil]); first | done | rfl | (simp only [List.length_drop, List.length_take]; rfl)) ?_; (with_reducible refine (pianolalaw09_given.calls k _ _ l1 t311 _ ?side1 ?side2 A8.out).mono ?_); (case side1 => repeat (first | exact (Kd.C_below HR1.out HB.out) | (with_reducible refine Kd.C_alloc ?_ _) | (with_reducible refine Kd.C_drewN ?_ _) | (with_reducible refine Kd.C_drew ?_))); (case side2 => exact HC1.out); rintro e w61 ⟨v312, rfl, ho0, hb⟩; refine ⟨_, rfl, ?_⟩; have n0_ := Aside0.mk (Kd.R_below (by (with_reducible repeat (first | apply Kd.R_alloc | apply Kd.R_drewN | apply Kd.R_drew)); exact HO310.out) hb); have n1_ := Aside0.mk (Kd.R_lower ho0 (below_size (by repeat (first | (with_reducible first | exact HB.out | apply below_alloc | apply pw_below_drewN | apply below_drew1) | exact HB.out)))); have n2_ := Aside0.mk (below_step (by repeat (first | (with_reducible first | exact HB.out | apply below_alloc | apply pw_below_drewN | apply below_drew1) | exact HB.out)) hb); clear HO310; clear HB; have HO310 := n0_; have HO313 := n1_; have HB := n2_; clear n0_ n1_ n2_; (try clear hb); (try clear hb2); (try clear hk); (try clear hi); (try clear ho0); obtain ⟨Ao62, co62, eo62⟩ := Kd.R_slice HO313.out; subst eo62) | ((with_reducible refine gate_callee (f := 34) rfl ?_); refine goesL_ (some 29) rfl rfl Try.func34 (by kernel_rfl) rfl #[.int .i64 a0, .slice Ao62 t311.length co62] rfl (by (try simp only [List.map_toArray, List.map_cons, List.map_nil]); first | done | rfl | (simp only [List.length_drop, List.length_take]; rfl)) ?_; (with_reducible refine (pianolaref09_Possible.calls k a0 _ _ t311 t314 t315 _ ?side1 ?side2 A9.out).mono ?_); (case side1 => repeat (first | exact (Kd.R_reads' HO313.out).2.2 | (with_reducible refine Kd.C_alloc ?_ _) | (with_reducible refine Kd.C_drewN ?_ _) | (with_reducible refine Kd.C_drew ?_))); (case side2 => exact (Kd.R_reads' HO313.out).2.1); rintro e w63 ⟨v316, rfl, ho0, hb⟩; refine ⟨_, rfl, ?_⟩; have n0_ := Aside0.mk (Kd.R_elder' (by (with_reducible repeat (first | apply Kd.R_alloc | apply Kd.R_drewN | apply Kd.R_drew)); exact HO310.out) (Kd.R_base ho0) hb); have n1_ := Aside0.mk (Kd.R_below (by (with_reducible repeat (first | apply Kd.R_alloc | apply Kd.R_drewN | apply Kd.R_drew)); exact HO313.out) hb); have n2_ := Aside0.mk (Kd.R_lower (Kd.R_new' ho0 (Kd.R_lt (by (with_reducible repeat (first | apply Kd.R_alloc | apply Kd.R_drewN | apply Kd.R_drew)); exact HO310.out))) (below_size (by repeat (first | (with_reducible first | exact HB.out | apply below_alloc | apply pw_below_drewN | apply below_drew1) | exact HB.out)))); have n3_ := Aside0.mk (below_step (by repeat (first | (with_reducible first | exact HB.out | apply below_alloc | apply pw_below_drewN | apply below_drew1) | exact HB.out)) hb); clear HO310; clear HO313; clear HB; have HO310 := n0_; have HO313 := n1_; have HO317 := n2_; have HB := n3_; clear n0_ n1_ n2_ n3_; (try clear hb); (try clear hb2); (try clear hk); (try clear hi); (try clear ho0)) | ((with_reducible refine gate_callee (f := 35) rfl ?_); refine goesL_ (some 36) rfl rfl Try.func35 (by kernel_rfl) rfl #[.int .i64 a0, .slice A1 l1.length c1, .int .i64 a2] rfl (by (try simp only [List.map_toArray, List.map_cons, List.map_nil]); first | done | rfl | (simp only [List.length_drop, List.length_take]; rfl)) ?_; (with_reducible refine (vault_Count.calls k a0 _ _ l1 a2 t318 t319 _ ?side1 ?side2 A10.out).mono ?_); (case side1 => repeat (first | exact (Kd.C_below HR1.out HB.out) | (with_reducible refine Kd.C_alloc ?_ _) | (with_reducible refine Kd.C_drewN ?_ _) | (with_reducible refine Kd.C_drew ?_))); (case side2 => exact HC1.out); rintro e w64 ⟨rfl, hb⟩; refine ⟨_, rfl, ?_⟩; have n0_ := Aside0.mk (Kd.R_below (by (with_reducible repeat (first | apply Kd.R_alloc | apply Kd.R_drewN | apply Kd.R_drew)); exact HO310.out) hb); have n1_ := Aside0.mk (Kd.R_below (by (with_reducible repeat (first | apply Kd.R_alloc | apply Kd.R_drewN | apply Kd.R_drew)); exact HO313.out) hb); have n2_ := Aside0.mk (Kd.R_below (by (with_reducible repeat (first | apply Kd.R_alloc | apply Kd.R_drewN | apply Kd.R_drew)); exact HO317.out) hb); have n3_ := Aside0.mk (below_step (by repeat (first | (with_reducible first | exact HB.out | apply below_alloc | apply pw_below_drewN | apply below_drew1) | exact HB.out)) hb); clear HO310; clear HO313; clear HO317; clear HB; have HO310 := n0_; have HO313 := n1_; have HO317 := n2_; have HB := n3_; clear n0_ n1_ n2_ n3_; (try clear hb); (try clear hb2); (try clear hk); (try clear hi)) | ((with_reducible refine gate_callee (f := 27) rfl ?_); refine goesL_ (some 42) rfl rfl Try.func27 (by kernel_rfl) rfl #[.slice A1 l1.length c1] rfl (by (try simp only [List.map_toArray, List.map_cons, List.map_nil]); first | done | rfl | (simp only [List.length_drop, List.length_take]; rfl)) ?_; (with_reducible refine (pianolalaw09_given.calls k _ _ l1 t320 _ ?side1 ?side2 A11.out).mono ?_); (case side1 => repeat (first | exact (Kd.C_below HR1.out HB.out) | (with_reducible refine Kd.C_alloc ?_ _) | (with_reducible refine Kd.C_drewN ?_ _) | (with_reducible refine Kd.C_drew ?_))); (case side2 => exact HC1.out); rintro e w65 ⟨v321, rfl, ho0, hb⟩; refine ⟨_, rfl, ?_⟩; have n0_ := Aside0.mk (Kd.R_below (by (with_reducible repeat (first | apply Kd.R_alloc | apply Kd.R_drewN | apply Kd.R_drew)); exact HO310.out) hb); have n1_ := Aside0.mk (Kd.R_elder' (by (with_reducible repeat (first | apply Kd.R_alloc | apply Kd.R_drewN | apply Kd.R_drew)); exact HO313.out) (Kd.R_base ho0) hb); have n2_ := Aside0.mk (Kd.R_below (by (with_reducible repeat (first | apply Kd.R_alloc | apply Kd.R_drewN | apply Kd.R_drew)); exact HO317.out) hb); have n3_ := Aside0.mk (Kd.R_lower (Kd.R_new' ho0 (Kd.R_lt (by (with_reducible repeat (first | apply Kd.R_alloc | apply Kd.R_drewN | apply Kd.R_drew)); exact HO313.out))) (below_size (by repeat (first | (with_reducible first | exact HB.out | apply below_alloc | apply pw_below_drewN | apply below_drew1) | exact HB.out)))); have n4_ := Aside0.mk (below_step (by repeat (first | (with_reducible first | exact HB.out | apply below_alloc | apply pw_below_drewN | apply below_drew1) | exact HB.out)) hb); clear HO310; clear HO313; clear HO317; clear HB; have HO310 := n0_; have HO313 := n1_; have HO317 := n2_; have HO322 := n3_; have HB := n4_; clear n0_ n1_ n2_ n3_ n4_; (try clear hb); (try clear hb2); (try clear hk); (try clear hi); (try clear ho0); obtain ⟨Ao66, co66, eo66⟩ := Kd.R_slice HO322.out; subst eo66) | ((with_reducible refine gate_callee (f := 36) rfl ?_); refine goesL_ (some 44) rfl rfl Try.func36 (by kernel_rfl) rfl #[.int .i64 a0, .slice Ao66 t320.length co66, .int .i64 a2] rfl (by (try simp only [List.map_toArray, List.map_cons, List.map_nil]); first | done | rfl | (simp only [List.length_drop, List.length_take]; rfl)) ?_; (with_reducible refine (pianolaref09_Count.calls k a0 _ _ t320 a2 t323 t324 _ ?side1 ?side2 A12.out).mono ?_); (case side1 => repeat (first | exact (Kd.R_reads' HO322.out).2.2 | (with_reducible refine Kd.C_alloc ?_ _) | (with_reducible refine Kd.C_drewN ?_ _) | (with_reducible refine Kd.C_drew ?_))); (case side2 => exact (Kd.R_reads' HO322.out).2.1); rintro e w67 ⟨rfl, hb⟩; refine ⟨_, rfl, ?_⟩; have n0_ := Aside0.mk (Kd.R_below (by (with_reducible repeat (first | apply Kd.R_alloc | apply Kd.R_drewN | apply Kd.R_drew)); exact HO310.out) hb); have n1_ := Aside0.mk (Kd.R_below (by (with_reducible repeat (first | apply Kd.R_alloc | apply Kd.R_drewN | apply Kd.R_drew)); exact HO313.out) hb); have n2_ := Aside0.mk (Kd.R_below (by (with_reducible repeat (first | apply Kd.R_alloc | apply Kd.R_drewN | apply Kd.R_drew)); exact HO317.out) hb); have n3_ := Aside0.mk (Kd.R_below (by (with_reducible repeat (first | apply Kd.R_alloc | apply Kd.R_drewN | apply Kd.R_drew)); exact HO322.out) hb); have n4_ := Aside0.mk (below_step (by repeat (first | (with_reducible first | exact HB.out | apply below_alloc | apply pw_below_drewN | apply below_drew1) | exact HB.out)) hb); clear HO310; clear HO313; clear HO317; clear HO322; clear HB; have HO310 := n0_; have HO313 := n1_; have HO317 := n2_; have HO322 := n3_; have HB := n4_; clear n0_ n1_ n2_ n3_ n4_; (try clear hb); (try clear hb2); (try clear hk); (try clear hi); obtain ⟨Ao68, co68, eo68⟩ := Kd.R_slice HO310.out; subst eo68; obtain ⟨Ao69, co69, eo69⟩ := Kd.R_slice HO317.out; subst eo69) | ((with_reducible refine gate_callee (f := 32) rfl ?_); refine goesL_ (some 49) rfl rfl Try.func32 (by kernel_rfl) rfl #[.slice Ao68 t307.length co68, .slice Ao69 t314.length co69] rfl (by (try simp only [List.map_toArray, List.map_cons, List.map_nil]); first | done | rfl | (simp only [List.length_drop, List.length_take]; rfl)) ?_; (with_reducible refine (pianolalaw09_numbers.calls k _ _ t307 _ _ t314 false _ ?side1 ?side2 ?side3 ?side4 A13.out).mono ?_); (case side1 => repeat (first | exact (Kd.R_reads' HO310.out).2.2 | (with_reducible refine Kd.C_alloc ?_ _) | (with_reducible refine Kd.C_drewN ?_ _) | (with_reducible refine Kd.C_drew ?_))); (case side2 => exact (Kd.R_reads' HO310.out).2.1); (case side3 => repeat (first | exact (Kd.R_reads' HO317.out).2.2 | (with_reducible refine Kd.C_alloc ?_ _) | (with_reducible refine Kd.C_drewN ?_ _) | (with_reducible refine Kd.C_drew ?_))); (case side4 => exact (Kd.R_reads' HO317.out).2.1); rintro e w' ⟨rfl, ⟨nd, rfl⟩⟩; refine ⟨_, rfl, ?_⟩))
      go_ret
      exact ⟨by first | rfl | (simp [errW_none, errW_some] <;> rfl) | (simp [*, errW_none, errW_some] <;> rfl), by repeat (first | (with_reducible first | exact HB.out | apply below_alloc | apply pw_below_drewN | apply below_drew1) | exact HB.out)⟩
end Go.Proofs.Ytpfkfbbekfkcgaa.P
end
section
namespace Go.Proofs.Ytpfkfbbekfkcgaa.P
set_option linter.unusedVariables false
set_option linter.unusedSimpArgs false
abbrev K251 := Fin 251
def fk (a : Int) : K251 := ⟨(a % 251).toNat, by omega⟩
theorem fk_val (a : Int) : ((fk a).val : Int) = a % 251 := by
  show (((a % 251).toNat : Nat) : Int) = _
  omega
theorem fk_eq {a b : Int} : fk a = fk b ↔ a % 251 = b % 251 := by
  constructor
  · intro h
    rw [← fk_val, ← fk_val, h]
  · intro h
    apply Fin.ext
    have := fk_val a
    have := fk_val b
    omega
theorem fk_of {k : K251} {a : Int} (h : (k.val : Int) = a % 251) : fk a = k := by
  apply Fin.ext
  have := fk_val a
  omega
theorem fk_mod (a : Int) : fk (a % 251) = fk a := fk_eq.2 (by omega)
theorem fk_add (a b : Int) : fk (a + b) = fk a + fk b := by
  apply fk_of
  have h1 := fk_val a
  have h2 := fk_val b
  rw [Fin.val_add]
  omega
theorem fk_sub (a b : Int) : fk (a - b) = fk a - fk b := by
  apply fk_of
  have h1 := fk_val a
  have h2 := fk_val b
  have h3 := (fk b).isLt
  rw [Fin.val_sub]
  omega
theorem fk_mul (a b : Int) : fk (a * b) = fk a * fk b := by
  apply fk_of
  have h1 := fk_val a
  have h2 := fk_val b
  rw [Fin.val_mul]
  rw [Int.mul_emod, ← h1, ← h2]
  simp
theorem fk_zero : fk 0 = 0 := rfl
theorem fk_one : fk 1 = 1 := rfl
theorem fk_inj {a b : Int} (a0 : 0 ≤ a) (a1 : a ≤ 250) (b0 : 0 ≤ b) (b1 : b ≤ 250) (h : fk a = fk b) : a = b := by
  have := fk_eq.1 h
  omega
def iF (a : K251) : K251 := a ^ 249
theorem inv_ex : ∀ a : K251, a ≠ 0 → a * iF a = 1 := by decide +kernel
theorem mul_zero' {a b : K251} (h : a * b = 0) (ha : a ≠ 0) : b = 0 := by
  have h1 := inv_ex a ha
  grind
def eF : List K251 → K251 → K251
  | [], _ => 0
  | a :: l, x => a + x * eF l x
def dv : List K251 → K251 → List K251
  | [], _ => []
  | [_], _ => []
  | _ :: b :: l, r => eF (b :: l) r :: dv (b :: l) r
theorem dv_len : ∀ (l : List K251) (r : K251), (dv l r).length = l.length - 1
  | [], _ => rfl
  | [_], _ => rfl
  | _ :: b :: l, r => by
    have := dv_len (b :: l) r
    simp only [dv, List.length_cons] at this ⊢
    omega
theorem dv_eF : ∀ (l : List K251) (r x : K251), eF l x - eF l r = (x - r) * eF (dv l r) x
  | [], r, x => by simp only [eF, dv]; grind
  | [a], r, x => by simp only [eF, dv]; grind
  | a :: b :: l, r, x => by
    have ih := dv_eF (b :: l) r x
    have e1 : eF (a :: b :: l) x = a + x * eF (b :: l) x := rfl
    have e2 : eF (a :: b :: l) r = a + r * eF (b :: l) r := rfl
    have e3 : eF (dv (a :: b :: l) r) x = eF (b :: l) r + x * eF (dv (b :: l) r) x := rfl
    rw [e1, e2, e3]
    grind
theorem dv_zero : ∀ (l : List K251) (r : K251), (∀ c ∈ dv l r, c = 0) → eF l r = 0 → ∀ c ∈ l, c = 0
  | [], _, _, _ => fun _ h => by cases h
  | [a], r, _, h => fun c hc => by
    simp only [eF] at h
    rw [List.mem_singleton] at hc
    subst hc
    grind
  | a :: b :: l, r, hd, h => fun c hc => by
    have h1 : eF (b :: l) r = 0 := hd _ (by simp [dv])
    have h2 := dv_zero (b :: l) r (fun c hc => hd c (by simp only [dv, List.mem_cons]; exact .inr hc)) h1
    have e2 : eF (a :: b :: l) r = a + r * eF (b :: l) r := rfl
    rw [e2, h1] at h
    cases hc with
    | head => grind
    | tail _ hc => exact h2 c hc
theorem roots : ∀ (n : Nat) (l xs : List K251), l.length = n → n ≤ xs.length → xs.Nodup → (∀ x ∈ xs, eF l x = 0) → ∀ c ∈ l, c = 0
  | 0, l, _, hl, _, _, _ => by
    rw [List.length_eq_zero_iff] at hl
    subst hl
    exact fun _ h => by cases h
  | n + 1, l, [], _, hx, _, _ => by simp at hx
  | n + 1, l, r :: ys, hl, hx, hd, hr => by
    rw [List.nodup_cons] at hd
    have h0 := hr r (by simp)
    refine dv_zero l r ?_ h0
    refine roots n (dv l r) ys (by rw [dv_len]; omega) (by simpa using hx) hd.2 (fun y hy => ?_)
    have h1 := hr y (by simp [hy])
    have h2 := dv_eF l r y
    rw [h0, h1] at h2
    refine mul_zero' (a := y - r) (by rw [← h2]; grind) (fun e => hd.1 ?_)
    have : y = r := by grind
    rw [← this]; exact hy
def subL (l m : List K251) : List K251 := List.zipWith (· - ·) l m
theorem eF_sub : ∀ (l m : List K251) (x : K251), l.length = m.length → eF (subL l m) x = eF l x - eF m x
  | [], [], x, _ => by simp only [subL, List.zipWith_nil_left, eF]; grind
  | a :: l, b :: m, x, h => by
    have ih := eF_sub l m x (by simpa using h)
    simp only [subL, List.zipWith_cons_cons, eF] at ih ⊢
    rw [ih]
    grind
  | [], _ :: _, _, h => by simp at h
  | _ :: _, [], _, h => by simp at h
theorem subL_zero : ∀ (l m : List K251), l.length = m.length → (∀ c ∈ subL l m, c = 0) → l = m
  | [], [], _, _ => rfl
  | a :: l, b :: m, h, hz => by
    have h1 : a - b = 0 := hz _ (by simp [subL])
    have h2 := subL_zero l m (by simpa using h) (fun c hc => hz c (by simp only [subL, List.zipWith_cons_cons, List.mem_cons] at hc ⊢; exact .inr hc))
    rw [h2, show a = b by grind]
  | [], _ :: _, h, _ => by simp at h
  | _ :: _, [], h, _ => by simp at h
theorem uniqueF (l m xs : List K251) (h : l.length = m.length) (hx : l.length ≤ xs.length) (hd : xs.Nodup) (he : ∀ x ∈ xs, eF l x = eF m x) : l = m := by
  refine subL_zero l m h (roots l.length _ xs (by simp [subL, h]) hx hd (fun x hx => ?_))
  rw [eF_sub _ _ _ h, he x hx]
  grind
end Go.Proofs.Ytpfkfbbekfkcgaa.P
end
section
namespace Go.Proofs.Ytpfkfbbekfkcgaa.P
open Go.RowKit Go.Proofs.YtpfkfbbekfkcgaaW.PrintWords Go.Proofs.YtpfkfbbekfkcgaaW.PrintLast Go.Proofs.YtpfkfbbekfkcgaaW.PrintMore
set_option linter.unusedVariables false
set_option linter.unusedSimpArgs false
theorem inv_all' : ∀ n : Fin 251, fk (inv (n.val : Int)) = iF n := by decide +kernel
theorem fk_inv {a : Int} (ha : F251 a) : fk (inv a) = iF (fk a) := by
  obtain ⟨a0, a1⟩ := ha
  have h := inv_all' ⟨a.toNat, by omega⟩
  have e : ((⟨a.toNat, by omega⟩ : Fin 251).val : Int) = a := by simp [Int.toNat_of_nonneg a0]
  rw [e] at h
  rw [h]
  congr 1
  exact (fk_of (by simp; omega)).symm
theorem fk_ev (p : List Int) (x : Int) : fk (ev p x) = eF (p.map fk) (fk x) := by
  induction p with
  | nil => rfl
  | cons c p ih =>
    show fk (((ev p x * x) % 251 + c) % 251) = fk c + fk x * eF (p.map fk) (fk x)
    rw [fk_mod, fk_add, fk_mod, fk_mul, ih]
    grind
def facF (x : K251) (a b : S61) : K251 := if a.f0 = b.f0 then 1 else (x - fk b.f0) * iF (fk a.f0 - fk b.f0)
def prodF (x : K251) (a : S61) (l : List S61) : K251 := l.foldr (fun b p => facF x a b * p) 1
def sumF (f : S61 → K251) (l : List S61) : K251 := l.foldr (fun a v => f a + v) 0
theorem fk_part_from (x : Int) (a : S61) : ∀ (l : List S61) (p : Int), fk (l.foldl (factor x a) p) = fk p * prodF (fk x) a l
  | [], p => by show fk p = fk p * 1; grind
  | b :: l, p => by
    have e : fk (factor x a p b) = fk p * facF (fk x) a b := by
      unfold factor facF
      split
      · grind
      · rw [fk_mod, fk_mul, fk_mod, fk_mul, fk_mod, fk_sub, fk_inv (mod_in _), fk_mod, fk_sub]
        grind
    rw [List.foldl_cons, fk_part_from x a l, e]
    show _ = fk p * (facF (fk x) a b * prodF (fk x) a l)
    grind
theorem fk_part (x : Int) (l : List S61) (a : S61) : fk (part x l a) = fk a.f1 * prodF (fk x) a l := by
  unfold part
  rw [fk_part_from, fk_mod]
theorem fk_lag_from (x : Int) (m : List S61) : ∀ (l : List S61) (v : Int), fk (l.foldl (fun v a => (v + part x m a) % 251) v) = fk v + sumF (fun a => fk a.f1 * prodF (fk x) a m) l
  | [], v => by show fk v = fk v + 0; grind
  | a :: l, v => by
    rw [List.foldl_cons, fk_lag_from x m l, fk_mod, fk_add, fk_part]
    show _ = fk v + (fk a.f1 * prodF (fk x) a m + sumF _ l)
    grind
def lagF (l : List S61) (x : K251) : K251 := sumF (fun a => fk a.f1 * prodF x a l) l
theorem fk_lag (l : List S61) (x : Int) : fk (lag l x) = lagF l (fk x) := by
  unfold lag
  rw [fk_lag_from, fk_zero]
  show 0 + lagF l (fk x) = _
  grind
theorem lag_in (l : List S61) (x : Int) : F251 (lag l x) := by
  unfold lag
  refine snoc_ind (P := fun m => F251 (m.foldl (fun v a => (v + part x l a) % 251) 0)) ?_ ?_ l
  · exact ⟨Int.le_refl _, by show (0 : Int) ≤ 250; decide⟩
  · intro m a _
    rw [List.foldl_append]
    exact mod_in _
structure KD (l : List S61) : Prop where
  nd : (l.map S61.f0).Nodup
  k : ∀ s ∈ l, F251 s.f0
  v : ∀ s ∈ l, F251 s.f1
theorem fk_ne {a b : Int} (ha : F251 a) (hb : F251 b) (h : a ≠ b) : fk a ≠ fk b := fun e => h (fk_inj ha.1 ha.2 hb.1 hb.2 e)
theorem KD.sub {l m : List S61} (h : KD l) (p : m.Sublist l) : KD m :=
  ⟨h.nd.sublist (p.map _), fun s hs => h.k s (p.subset hs), fun s hs => h.v s (p.subset hs)⟩
def places (l : List S61) : List K251 := l.map fun s => fk s.f0
theorem nodup_map {α β : Type} {f : α → β} : ∀ {l : List α}, l.Nodup → (∀ a ∈ l, ∀ b ∈ l, f a = f b → a = b) → (l.map f).Nodup
  | [], _, _ => List.nodup_nil
  | a :: l, h, hi => by
    rw [List.nodup_cons] at h
    rw [List.map_cons, List.nodup_cons]
    refine ⟨fun hm => ?_, nodup_map h.2 (fun x hx y hy => hi x (List.mem_cons_of_mem _ hx) y (List.mem_cons_of_mem _ hy))⟩
    obtain ⟨b, hb, e⟩ := List.mem_map.1 hm
    have := hi b (List.mem_cons_of_mem _ hb) a (List.mem_cons_self ..) e
    exact h.1 (this ▸ hb)
theorem places_nd {l : List S61} (h : KD l) : (places l).Nodup := by
  have e : places l = (l.map S61.f0).map fk := by simp [places]
  rw [e]
  refine nodup_map h.nd (fun a ha b hb e => ?_)
  obtain ⟨s, hs, rfl⟩ := List.mem_map.1 ha
  obtain ⟨t, ht, rfl⟩ := List.mem_map.1 hb
  have h1 := h.k s hs
  have h2 := h.k t ht
  exact fk_inj h1.1 h1.2 h2.1 h2.2 e
theorem prodF_zero {x : K251} {a b : S61} : ∀ {l : List S61}, b ∈ l → a.f0 ≠ b.f0 → x = fk b.f0 → prodF x a l = 0
  | c :: l, hb, hne, hx => by
    show facF x a c * prodF x a l = 0
    cases hb with
    | head =>
      unfold facF
      rw [if_neg hne, hx]
      grind
    | tail _ hb =>
      rw [prodF_zero hb hne hx]
      grind
theorem prodF_one (a : S61) : ∀ (l : List S61), (∀ s ∈ l, F251 s.f0) → F251 a.f0 → prodF (fk a.f0) a l = 1
  | [], _, _ => rfl
  | b :: l, hl, ha => by
    show facF _ a b * prodF _ a l = 1
    rw [prodF_one a l (fun s hs => hl s (List.mem_cons_of_mem _ hs)) ha]
    unfold facF
    split
    · grind
    · rename_i hne
      have h1 := fk_ne ha (hl b (List.mem_cons_self ..)) hne
      have h2 := inv_ex (fk a.f0 - fk b.f0) (fun e => h1 (by grind))
      rw [h2]
      grind
theorem sumF_one {f : S61 → K251} {a : S61} : ∀ {l : List S61}, (l.map S61.f0).Nodup → a ∈ l → (∀ b ∈ l, b.f0 ≠ a.f0 → f b = 0) → sumF f l = f a
  | b :: l, hn, ha, hz => by
    show f b + sumF f l = f a
    rw [List.map_cons, List.nodup_cons] at hn
    cases ha with
    | head =>
      have : sumF f l = 0 := by
        have : ∀ m : List S61, (∀ c ∈ m, f c = 0) → sumF f m = 0 := by
          intro m
          induction m with
          | nil => exact fun _ => rfl
          | cons c m ih =>
            intro h
            show f c + sumF f m = 0
            rw [h c (List.mem_cons_self ..), ih (fun d hd => h d (List.mem_cons_of_mem _ hd))]
            grind
        exact this l (fun c hc => hz c (List.mem_cons_of_mem _ hc) (fun e => hn.1 (e ▸ List.mem_map_of_mem hc)))
      rw [this]
      grind
    | tail _ ha =>
      have h1 : b.f0 ≠ a.f0 := fun e => hn.1 (e ▸ List.mem_map_of_mem ha)
      rw [hz b (List.mem_cons_self ..) h1, sumF_one hn.2 ha (fun c hc => hz c (List.mem_cons_of_mem _ hc))]
      grind
theorem lagF_at {l : List S61} (h : KD l) {a : S61} (ha : a ∈ l) : lagF l (fk a.f0) = fk a.f1 := by
  unfold lagF
  rw [sumF_one h.nd ha (fun b hb hne => by rw [prodF_zero ha hne rfl]; grind), prodF_one a l h.k (h.k a ha)]
  grind
def mulC (k d : K251) : K251 → List K251 → List K251
  | c, [] => [c * d]
  | c, b :: q => (c - b * k) * d :: mulC k d b q
theorem mulC_len (k d : K251) : ∀ (c : K251) (q : List K251), (mulC k d c q).length = q.length + 1
  | _, [] => rfl
  | _, b :: q => by simp [mulC, mulC_len k d b q]
theorem mulC_eF (k d x : K251) : ∀ (c : K251) (q : List K251), eF (mulC k d c q) x = d * (c + (x - k) * eF q x)
  | c, [] => by simp only [mulC, eF]; grind
  | c, b :: q => by
    simp only [mulC, eF]
    rw [mulC_eF k d x b q]
    grind
def addL : List K251 → List K251 → List K251
  | [], m => m
  | l, [] => l
  | a :: l, b :: m => (a + b) :: addL l m
theorem addL_len : ∀ (l m : List K251), (addL l m).length = max l.length m.length
  | [], m => by simp [addL]
  | a :: l, [] => by simp [addL]
  | a :: l, b :: m => by simp [addL, addL_len l m]
theorem addL_eF (x : K251) : ∀ (l m : List K251), eF (addL l m) x = eF l x + eF m x
  | [], m => by simp only [addL, eF]; grind
  | a :: l, [] => by simp only [addL, eF]; grind
  | a :: l, b :: m => by
    simp only [addL, eF]
    rw [addL_eF x l m]
    grind
def oneL (a : S61) : List S61 → List K251
  | [] => [1]
  | b :: l => if a.f0 = b.f0 then oneL a l else mulC (fk b.f0) (iF (fk a.f0 - fk b.f0)) 0 (oneL a l)
theorem oneL_eF (x : K251) (a : S61) : ∀ (l : List S61), eF (oneL a l) x = prodF x a l
  | [] => by simp only [oneL, eF]; show _ = (1 : K251); grind
  | b :: l => by
    have ih := oneL_eF x a l
    show _ = facF x a b * prodF x a l
    unfold oneL facF
    split
    · rw [ih]; grind
    · rw [mulC_eF, ih]; grind
theorem oneL_le (a : S61) : ∀ (l : List S61), (oneL a l).length ≤ l.length + 1
  | [] => by simp [oneL]
  | b :: l => by
    have := oneL_le a l
    unfold oneL
    split
    · simp; omega
    · rw [mulC_len]; simp; omega
theorem oneL_lt {a : S61} : ∀ {l : List S61}, a ∈ l → (oneL a l).length ≤ l.length
  | b :: l, h => by
    unfold oneL
    cases h with
    | head =>
      rw [if_pos rfl]
      have := oneL_le a l
      simpa using this
    | tail _ h =>
      have := oneL_lt h
      split
      · simp; omega
      · rw [mulC_len]; simp; omega
def scL (c : K251) (q : List K251) : List K251 := q.map fun a => c * a
theorem scL_eF (c x : K251) : ∀ q : List K251, eF (scL c q) x = c * eF q x
  | [] => by simp only [scL, List.map_nil, eF]; grind
  | a :: q => by
    have ih := scL_eF c x q
    simp only [scL, List.map_cons, eF] at ih ⊢
    rw [ih]
    grind
def lagL (m : List S61) : List S61 → List K251
  | [] => []
  | a :: l => addL (scL (fk a.f1) (oneL a m)) (lagL m l)
theorem lagL_eF (x : K251) (m : List S61) : ∀ l : List S61, eF (lagL m l) x = sumF (fun a => fk a.f1 * prodF x a m) l
  | [] => rfl
  | a :: l => by
    show eF (addL _ _) x = fk a.f1 * prodF x a m + sumF _ l
    rw [addL_eF, scL_eF, oneL_eF, lagL_eF x m l]
theorem lagL_len (m : List S61) : ∀ l : List S61, (∀ a ∈ l, a ∈ m) → (lagL m l).length ≤ m.length
  | [], _ => by simp [lagL]
  | a :: l, h => by
    have h1 := lagL_len m l (fun b hb => h b (List.mem_cons_of_mem _ hb))
    have h2 := oneL_lt (h a (List.mem_cons_self ..))
    rw [lagL, addL_len, scL, List.length_map]
    omega
theorem eF_zeros (x : K251) (n : Nat) : ∀ l : List K251, eF (l ++ List.replicate n 0) x = eF l x
  | [] => by
    induction n with
    | zero => rfl
    | succ n ih =>
      simp only [List.nil_append, List.replicate_succ, eF] at ih ⊢
      rw [ih]
      grind
  | a :: l => by
    have := eF_zeros x n l
    simp only [List.cons_append, eF]
    rw [this]
theorem lag_list (l : List S61) (n : Nat) (hn : l.length ≤ n) : ∃ p : List K251, p.length = n ∧ ∀ x, eF p x = lagF l x := by
  refine ⟨lagL l l ++ List.replicate (n - (lagL l l).length) 0, ?_, fun x => ?_⟩
  · have := lagL_len l l (fun a h => h)
    simp; omega
  · rw [eF_zeros, lagL_eF]; rfl
end Go.Proofs.Ytpfkfbbekfkcgaa.P
end
section
namespace Go.Proofs.Ytpfkfbbekfkcgaa.P
open Go.RowKit Go.Proofs.YtpfkfbbekfkcgaaW.PrintWords Go.Proofs.YtpfkfbbekfkcgaaW.PrintLast Go.Proofs.YtpfkfbbekfkcgaaW.PrintMore
set_option linter.unusedVariables false
set_option linter.unusedSimpArgs false
theorem zipF_nil (F : Int → Int → Int) : zipF F [] [] = [] := rfl
theorem zipF_cons (F : Int → Int → Int) (a b : Int) (p q : List Int) : zipF F (a :: p) (b :: q) = F a b :: zipF F p q := by
  unfold zipF
  rw [List.length_cons, List.length_cons, Nat.succ_max_succ, List.range_succ_eq_map, List.map_cons, List.map_map]
  rfl
theorem zipF_left (F : Int → Int → Int) (a : Int) (p : List Int) : zipF F (a :: p) [] = F a 0 :: zipF F p [] := by
  unfold zipF
  rw [List.length_cons, List.length_nil, Nat.max_eq_left (Nat.zero_le _), Nat.max_eq_left (Nat.zero_le _), List.range_succ_eq_map, List.map_cons, List.map_map]
  rfl
theorem zipF_right (F : Int → Int → Int) (b : Int) (q : List Int) : zipF F [] (b :: q) = F 0 b :: zipF F [] q := by
  unfold zipF
  rw [List.length_cons, List.length_nil, Nat.max_eq_right (Nat.zero_le _), Nat.max_eq_right (Nat.zero_le _), List.range_succ_eq_map, List.map_cons, List.map_map]
  rfl
theorem eF_add : ∀ (p q : List Int) (x : K251), eF ((zipF addF p q).map fk) x = eF (p.map fk) x + eF (q.map fk) x
  | [], [], x => by rw [zipF_nil]; simp only [List.map_nil, eF]; grind
  | a :: p, [], x => by
    have ih := eF_add p [] x
    rw [zipF_left]
    simp only [List.map_cons, List.map_nil, eF, addF] at ih ⊢
    rw [ih, fk_mod, fk_add, fk_zero]
    grind
  | [], b :: q, x => by
    have ih := eF_add [] q x
    rw [zipF_right]
    simp only [List.map_cons, List.map_nil, eF, addF] at ih ⊢
    rw [ih, fk_mod, fk_add, fk_zero]
    grind
  | a :: p, b :: q, x => by
    have ih := eF_add p q x
    rw [zipF_cons]
    simp only [List.map_cons, eF, addF] at ih ⊢
    rw [ih, fk_mod, fk_add]
    grind
theorem eF_subF : ∀ (p q : List Int) (x : K251), eF ((zipF subF p q).map fk) x = eF (p.map fk) x - eF (q.map fk) x
  | [], [], x => by rw [zipF_nil]; simp only [List.map_nil, eF]; grind
  | a :: p, [], x => by
    have ih := eF_subF p [] x
    rw [zipF_left]
    simp only [List.map_cons, List.map_nil, eF, subF] at ih ⊢
    rw [ih, fk_mod, fk_sub, fk_zero]
    grind
  | [], b :: q, x => by
    have ih := eF_subF [] q x
    rw [zipF_right]
    simp only [List.map_cons, List.map_nil, eF, subF] at ih ⊢
    rw [ih, fk_mod, fk_sub, fk_zero]
    grind
  | a :: p, b :: q, x => by
    have ih := eF_subF p q x
    rw [zipF_cons]
    simp only [List.map_cons, eF, subF] at ih ⊢
    rw [ih, fk_mod, fk_sub]
    grind
theorem eF_scale (a : Int) (x : K251) : ∀ p : List Int, eF ((scale p a).map fk) x = fk a * eF (p.map fk) x
  | [] => by simp only [scale, List.map_nil, eF]; grind
  | c :: p => by
    have ih := eF_scale a x p
    simp only [scale, List.map_cons, eF] at ih ⊢
    rw [ih, fk_mod, fk_mul]
    grind
def prodK (l : List S61) (x : K251) : K251 := l.foldl (fun v s => v * (x - fk s.f0)) 1
theorem prodK_snoc (l : List S61) (a : S61) (x : K251) : prodK (l ++ [a]) x = prodK l x * (x - fk a.f0) := by
  unfold prodK
  rw [List.foldl_append]; rfl
theorem zero_mul' (a b : K251) (h : a = 0) : a * b = 0 := by subst h; grind
theorem prodK_zero {a : S61} {l : List S61} : a ∈ l → prodK l (fk a.f0) = 0 := by
  refine snoc_ind (P := fun l => a ∈ l → prodK l (fk a.f0) = 0) (fun h => by cases h) ?_ l
  intro l b ih h
  rw [prodK_snoc]
  rcases List.mem_append.1 h with h | h
  · exact zero_mul' _ _ (ih h)
  · rw [List.mem_singleton] at h
    subst h
    grind
theorem prodK_ne {x : K251} {l : List S61} : (∀ a ∈ l, x ≠ fk a.f0) → prodK l x ≠ 0 := by
  refine snoc_ind (P := fun l => (∀ a ∈ l, x ≠ fk a.f0) → prodK l x ≠ 0) (fun _ => show (1 : K251) ≠ 0 by decide) ?_ l
  intro l b ih h e
  rw [prodK_snoc] at e
  have h1 := ih (fun a ha => h a (List.mem_append_left _ ha))
  have h2 := mul_zero' e h1
  exact h b (List.mem_append_right _ (List.mem_singleton_self b)) (by grind)
theorem solved_two (l : List S61) (x : K251) : eF ((solved l).2.map fk) x = prodK l x := by
  refine snoc_ind (P := fun l => eF ((solved l).2.map fk) x = prodK l x) ?_ ?_ l
  · show eF ([1].map fk) x = 1
    simp only [List.map_cons, List.map_nil, eF, fk_one]
    grind
  · intro l a ih
    rw [solved_snoc, prodK_snoc]
    show eF ((zipF subF (0 :: (solved l).2) (scale (solved l).2 a.f0)).map fk) x = _
    rw [eF_subF, eF_scale, List.map_cons]
    simp only [eF, fk_zero]
    rw [ih]
    grind
theorem solved_len (l : List S61) : (solved l).1.length = l.length := by
  refine snoc_ind (P := fun l => (solved l).1.length = l.length) rfl ?_ l
  intro l a ih
  rw [solved_snoc]
  have h2 := (solved_in l).2.2.2
  simp only [solveStep, zipF_len, scale_len, List.length_append, List.length_singleton, ih, h2]
  omega
theorem solved_at (l : List S61) : KD l → ∀ a ∈ l, eF ((solved l).1.map fk) (fk a.f0) = fk a.f1 := by
  refine snoc_ind (P := fun l => KD l → ∀ a ∈ l, eF ((solved l).1.map fk) (fk a.f0) = fk a.f1) (fun _ a h => by cases h) ?_ l
  intro l b ih hk a ha
  have hl : KD l := hk.sub (List.sublist_append_left _ _)
  rw [solved_snoc]
  show eF ((zipF addF (solved l).1 (scale (solved l).2 _)).map fk) _ = _
  rw [eF_add, eF_scale, solved_two]
  rcases List.mem_append.1 ha with ha | ha
  · rw [ih hl a ha, prodK_zero ha]
    grind
  · rw [List.mem_singleton] at ha
    subst ha
    have hne : prodK l (fk a.f0) ≠ 0 := prodK_ne (fun c hc => by
      have hn := hk.nd
      rw [List.map_append, List.nodup_append] at hn
      exact fk_ne (hk.k a (by simp)) (hk.k c (by simp [hc])) (fun e => hn.2.2 c.f0 (List.mem_map_of_mem hc) a.f0 (by simp) e.symm))
    have h2 := inv_ex _ hne
    rw [fk_mod, fk_mul, fk_mod, fk_sub, fk_inv (ev_in _ _), fk_ev, fk_ev, solved_two]
    grind
def Fit (n : Nat) (l : List S61) : Prop := ∃ p : List K251, p.length = n ∧ ∀ a ∈ l, eF p (fk a.f0) = fk a.f1
theorem fit_unique {l : List S61} (h : KD l) {p q : List K251} (hp : p.length = q.length) (hl : p.length ≤ l.length)
    (h1 : ∀ a ∈ l, eF p (fk a.f0) = fk a.f1) (h2 : ∀ a ∈ l, eF q (fk a.f0) = fk a.f1) : p = q := by
  refine uniqueF p q (places l) hp (by simpa [places] using hl) (places_nd h) (fun x hx => ?_)
  obtain ⟨a, ha, rfl⟩ := List.mem_map.1 hx
  rw [h1 a ha, h2 a ha]
theorem all_fk {p q : List Int} (hp : all251 p) (hq : all251 q) (h : p.map fk = q.map fk) : p = q := by
  induction p generalizing q with
  | nil =>
    cases q with
    | nil => rfl
    | cons b q => simp at h
  | cons a p ih =>
    cases q with
    | nil => simp at h
    | cons b q =>
      simp only [List.map_cons, List.cons.injEq] at h
      have ha := hp a (by simp)
      have hb := hq b (by simp)
      rw [fk_inj ha.1 ha.2 hb.1 hb.2 h.1, ih (fun x hx => hp x (by simp [hx])) (fun x hx => hq x (by simp [hx])) h.2]
theorem agreeB_fit {n : Nat} {l : List S61} (h : KD l) : agreeB n l = true ↔ Fit n l := by
  unfold agreeB
  by_cases c : (l.length : Int) ≤ n
  · rw [if_pos c]
    obtain ⟨p, hp, he⟩ := lag_list l n (by omega)
    exact ⟨fun _ => ⟨p, hp, fun a ha => by rw [he, lagF_at h ha]⟩, fun _ => rfl⟩
  · rw [if_neg c, show (n : Int).toNat = n by omega]
    have ht : KD (l.take n) := h.sub (List.take_sublist _ _)
    obtain ⟨p, hp, he⟩ := lag_list (l.take n) n (by rw [List.length_take]; omega)
    have hlie : lieS (l.take n) (l.drop n) = true ↔ ∀ s ∈ l.drop n, lag (l.take n) s.f0 = s.f1 := by
      unfold lieS
      simp
    rw [hlie]
    constructor
    · intro hd
      refine ⟨p, hp, fun a ha => ?_⟩
      rw [he]
      rw [← List.take_append_drop n l] at ha
      rcases List.mem_append.1 ha with ha | ha
      · exact lagF_at ht ha
      · rw [← fk_lag, hd a ha]
    · rintro ⟨q, hq, hqa⟩ s hs
      have e : p = q := fit_unique ht (by omega) (by rw [List.length_take]; omega) (fun a ha => by rw [he, lagF_at ht ha]) (fun a ha => hqa a (List.mem_of_mem_take ha))
      have hs' := List.mem_of_mem_drop hs
      have h1 := hqa s hs'
      rw [← e, he, ← fk_lag] at h1
      have hv := h.v s hs'
      exact fk_inj (lag_in _ _).1 (lag_in _ _).2 hv.1 hv.2 h1
theorem ev_eq {p : List Int} {s : S61} (hv : F251 s.f1) : ev p s.f0 = s.f1 ↔ eF (p.map fk) (fk s.f0) = fk s.f1 := by
  rw [← fk_ev]
  exact ⟨fun e => by rw [e], fun e => fk_inj (ev_in _ _).1 (ev_in _ _).2 hv.1 hv.2 e⟩
theorem lieP_iff {p : List Int} {l : List S61} (h : ∀ s ∈ l, F251 s.f1) : lieP p l = true ↔ ∀ s ∈ l, eF (p.map fk) (fk s.f0) = fk s.f1 := by
  unfold lieP
  simp only [Bool.not_eq_true', List.any_eq_false, bne_iff_ne, ne_eq, Decidable.not_not]
  exact ⟨fun hh s hs => (ev_eq (h s hs)).1 (hh s hs), fun hh s hs => (ev_eq (h s hs)).2 (hh s hs)⟩
def itp (n : Nat) (l : List S61) : List Int := (solved (l.take n)).1
theorem itp_len {n : Nat} {l : List S61} (hn : n ≤ l.length) : (itp n l).length = n := by
  unfold itp
  rw [solved_len, List.length_take]
  omega
theorem itp_in (n : Nat) (l : List S61) : all251 (itp n l) := (solved_in _).1
theorem itp_only {n : Nat} {l : List S61} (h : KD l) (hn : n ≤ l.length) {p : List K251} (hp : p.length = n) (ha : ∀ a ∈ l.take n, eF p (fk a.f0) = fk a.f1) : (itp n l).map fk = p := by
  have ht : KD (l.take n) := h.sub (List.take_sublist _ _)
  exact fit_unique ht (by rw [List.length_map, itp_len hn, hp]) (by rw [List.length_map, itp_len hn, List.length_take]; omega) (solved_at _ ht) ha
theorem lieP_fit {n : Nat} {l : List S61} (h : KD l) (hn : n ≤ l.length) : lieP (itp n l) l = true ↔ Fit n l := by
  rw [lieP_iff h.v]
  constructor
  · exact fun hh => ⟨(itp n l).map fk, by rw [List.length_map, itp_len hn], hh⟩
  · rintro ⟨p, hp, ha⟩
    rw [itp_only h hn hp (fun a hm => ha a (List.mem_of_mem_take hm))]
    exact ha
theorem lag_itp {n : Nat} {l : List S61} (h : KD l) (hn : n ≤ l.length) (x : Int) : lag (l.take n) x = ev (itp n l) x := by
  have ht : KD (l.take n) := h.sub (List.take_sublist _ _)
  obtain ⟨p, hp, he⟩ := lag_list (l.take n) n (by rw [List.length_take]; omega)
  have e := itp_only h hn hp (fun a ha => by rw [he, lagF_at ht ha])
  refine fk_inj (lag_in _ _).1 (lag_in _ _).2 (ev_in _ _).1 (ev_in _ _).2 ?_
  rw [fk_lag, fk_ev, e, he]
end Go.Proofs.Ytpfkfbbekfkcgaa.P
end
section
namespace Go.Proofs.Ytpfkfbbekfkcgaa.P
open Go.RowKit Go.Proofs.YtpfkfbbekfkcgaaW.PrintWords Go.Proofs.YtpfkfbbekfkcgaaW.PrintLast Go.Proofs.YtpfkfbbekfkcgaaW.PrintMore
set_option linter.unusedVariables false
set_option linter.unusedSimpArgs false
theorem Ev.pos {α : Type} {c : Prop} [Decidable c] {f g : Nat → Option α} {r : α} (h : c) (H : Ev f r) : Ev (fun k => if c then f k else g k) r := by
  simpa only [if_pos h] using H
theorem Ev.neg {α : Type} {c : Prop} [Decidable c] {f g : Nat → Option α} {r : α} (h : ¬ c) (H : Ev g r) : Ev (fun k => if c then f k else g k) r := by
  simpa only [if_neg h] using H
theorem Ev.have {α : Type} {x : Option α} {r : α} (h : x = some r) : Ev (fun _ => x) r := ⟨0, fun _ _ => h⟩
theorem w_nat (n : Nat) (h : n ≤ 4611686018427387904) : wrap64 ((n : Int) + 1) = ((n + 1 : Nat) : Int) := by unfold wrap64; omega
theorem rd_at (l : List Int) (n : Nat) (h : n < l.length) : rd l (n : Int) = l[n] := by
  unfold rd
  rw [Int.toNat_natCast, List.getD_eq_getElem?_getD, List.getElem?_eq_getElem h]; rfl
theorem drop_at {α : Type} (l : List α) (n : Nat) (h : n < l.length) : l.drop n = l[n] :: l.drop (n + 1) := List.drop_eq_getElem_cons h
theorem take_at {α : Type} (l : List α) (n : Nat) (h : n < l.length) : l.take (n + 1) = l.take n ++ [l[n]] := by rw [List.take_succ_eq_append_getElem h]
theorem rd61_at (l : List S61) (n : Nat) (h : n < l.length) : rd_T61 l (n : Int) = l[n] := by
  unfold rd_T61
  rw [Int.toNat_natCast, List.getD_eq_getElem?_getD, List.getElem?_eq_getElem h]; rfl
theorem rd91_at (l : List S91) (n : Nat) (h : n < l.length) : rd_T91 l (n : Int) = l[n] := by
  unfold rd_T91
  rw [Int.toNat_natCast, List.getD_eq_getElem?_getD, List.getElem?_eq_getElem h]; rfl
def g91 (s : S61) : S91 := ⟨s.f0, s.f1⟩
theorem rd91_g (l : List S61) (n : Nat) (h : n < l.length) : rd_T91 (l.map g91) (n : Int) = g91 l[n] := by
  rw [rd91_at _ _ (by simpa using h), List.getElem_map]
theorem is_f (a b c : Int) : pianolaref09_is.f a b c = some (btw b a c) := by
  unfold pianolaref09_is.f pianolaref01_Is.f btw
  by_cases h : b ≤ a
  · have : a ≥ b := h
    simp [h, this]
  · have : ¬ a ≥ b := h
    simp [h, this]
theorem mod_f (a : Int) (h0 : -1000000000000000 ≤ a) (h1 : a ≤ 1000000000000000) : pianolaref09_mod.f a = some (a % 251) := of_f a h0 h1
theorem ref_inv_all : ∀ n : Fin 251, n.val ≠ 0 → pianolaref09_inverse.f 252 (n.val : Int) = some (inv (n.val : Int)) := by decide +kernel
theorem ref_inv (a : Int) (ha : F251 a) (h : a ≠ 0) : Ev (fun k => pianolaref09_inverse.f k a) (inv a) := by
  obtain ⟨a0, a1⟩ := ha
  have := ref_inv_all ⟨a.toNat, by omega⟩ (by simp; omega)
  exact Ev.of (fun k => pianolaref09_inverse.mono _ k) (by simpa [Int.toNat_of_nonneg a0] using this)
theorem value_ev (l : List Int) (x : Int) (hx : F251 x) (hl : all251 l) (hn : l.length ≤ 1000000) : Ev (fun k => pianolaref09_value.f k l x) (ev l x) := by
  have key : ∀ (d n : Nat) (s p : Int), n + d = l.length → F251 s → F251 p → fk (ev l x) = fk s + fk p * eF ((l.drop n).map fk) (fk x) → Ev (fun k => pianolaref09_value.l0 k l x s p (n : Int)) (ev l x) := by
    intro d
    induction d with
    | zero =>
      intro n s p hd hs hp he
      refine Ev.step (fun k => by rw [pianolaref09_value.l0]) ?_
      refine Ev.neg (by omega) (Ev.have ?_)
      rw [List.drop_of_length_le (by omega)] at he
      simp only [List.map_nil, eF] at he
      rw [fk_inj (ev_in l x).1 (ev_in l x).2 hs.1 hs.2 (by rw [he]; grind)]
    | succ d ih =>
      intro n s p hd hs hp he
      have hlt : n < l.length := by omega
      have hc := hl _ (List.getElem_mem hlt)
      obtain ⟨m0, m1⟩ := mul_bd _ _ hc hp
      obtain ⟨q0, q1⟩ := mul_bd _ _ hp hx
      obtain ⟨s0, s1⟩ := hs
      refine Ev.step (fun k => by rw [pianolaref09_value.l0]) ?_
      refine Ev.pos (by omega) (Ev.pos (by omega) ?_)
      rw [rd_at l n hlt, show wrap64 (l[n] * p) = l[n] * p by unfold wrap64; omega, show wrap64 (s + l[n] * p) = s + l[n] * p by unfold wrap64; omega, show wrap64 (p * x) = p * x by unfold wrap64; omega]
      rw [mod_f _ (by omega) (by omega), mod_f _ (by omega) (by omega), w_nat n (by omega)]
      refine Ev.bind (Ev.now _) (Ev.bind (Ev.now _) ?_)
      refine ih (n + 1) _ _ (by omega) (mod_in _) (mod_in _) ?_
      rw [he, drop_at l n hlt, fk_mod, fk_mod, fk_add, fk_mul, fk_mul]
      simp only [List.map_cons, eF]
      grind
  refine key l.length 0 0 1 (by omega) ⟨by omega, by omega⟩ ⟨by omega, by omega⟩ ?_
  rw [fk_ev, fk_zero, fk_one, List.drop_zero]
  grind
end Go.Proofs.Ytpfkfbbekfkcgaa.P
end
section
namespace Go.Proofs.Ytpfkfbbekfkcgaa.P
open Go.RowKit Go.Proofs.YtpfkfbbekfkcgaaW.PrintWords Go.Proofs.YtpfkfbbekfkcgaaW.PrintLast Go.Proofs.YtpfkfbbekfkcgaaW.PrintMore
set_option linter.unusedVariables false
set_option linter.unusedSimpArgs false
theorem any_at (l : List S61) (n : Nat) (h : n < l.length) (P : S61 → Bool) : (l.take (n + 1)).any P = ((l.take n).any P || P l[n]) := by
  rw [take_at l n h, List.any_append]; simp
theorem refcheck_inner (l : List S61) (hl : l.length ≤ 20) (n : Nat) (hn : n < l.length) (R : Int)
    (H : (l.take n).any (fun t => t.f0 == l[n].f0) = false → Ev (fun k => pianolaref09_check.l0 k (l.map g91) ((n + 1 : Nat) : Int)) R)
    (H' : (l.take n).any (fun t => t.f0 == l[n].f0) = true → R = 9) :
    ∀ (d m : Nat), m + d = n → (l.take m).any (fun t => t.f0 == l[n].f0) = false → Ev (fun k => pianolaref09_check.l1 k (l.map g91) (n : Int) (m : Int)) R := by
  intro d
  induction d with
  | zero =>
    intro m hm ha
    refine Ev.step (fun k => by rw [pianolaref09_check.l1]) ?_
    refine Ev.neg (by omega) ?_
    obtain rfl : m = n := by omega
    rw [w_nat m (by omega)]
    exact H ha
  | succ d ih =>
    intro m hm ha
    have hlt : m < l.length := by omega
    refine Ev.step (fun k => by rw [pianolaref09_check.l1]) ?_
    refine Ev.pos (by omega) (Ev.pos (by omega) (Ev.pos (by simp; omega) (Ev.pos (by omega) (Ev.pos (by simp; omega) ?_))))
    rw [rd91_g l m hlt, rd91_g l n hn, w_nat m (by omega)]
    by_cases c : l[m].f0 = l[n].f0
    · refine Ev.pos c (Ev.have ?_)
      rw [H']
      rw [List.any_eq_true]
      exact ⟨l[m], by rw [List.mem_take_iff_getElem]; exact ⟨m, by omega, rfl⟩, by simpa using c⟩
    · refine Ev.neg c (ih (m + 1) (by omega) ?_)
      rw [any_at l m hlt, ha]
      simpa using c
theorem refcheck_ev (need : Int) (l : List S61) : Ev (fun k => pianolaref09_check.f k need (l.map g91)) (checkE need l) := by
  unfold pianolaref09_check.f checkE
  rw [is_f]
  refine Ev.bind (Ev.now _) ?_
  by_cases b : btw 1 need 8 = true
  · refine Ev.pos b ?_
    simp only [b, Bool.true_eq_false, if_false]
    by_cases hl : l.length > 20
    · refine Ev.pos (by simp; omega) (Ev.have ?_)
      rw [if_pos hl]
    · refine Ev.neg (by simp; omega) ?_
      rw [if_neg hl]
      have key : ∀ (d n : Nat), n + d = l.length → Ev (fun k => pianolaref09_check.l0 k (l.map g91) (n : Int)) (scan (l.take n) (l.drop n)) := by
        intro d
        induction d with
        | zero =>
          intro n hd
          refine Ev.step (fun k => by rw [pianolaref09_check.l0]) ?_
          refine Ev.neg (by simp; omega) (Ev.have ?_)
          rw [List.drop_of_length_le (by omega)]; rfl
        | succ d ih =>
          intro n hd
          have hlt : n < l.length := by omega
          refine Ev.step (fun k => by rw [pianolaref09_check.l0]) ?_
          refine Ev.pos (by simp; omega) (Ev.pos (by omega) ?_)
          rw [rd91_g l n hlt, is_f, is_f, drop_at l n hlt]
          refine Ev.bind (Ev.now _) ?_
          have hi : Ev (fun k => pianolaref09_check.j1 k (l.map g91) (n : Int) (!(btw 1 l[n].f0 20 && btw 0 l[n].f1 250))) (scan (l.take n) (l[n] :: l.drop (n + 1))) := by
            refine Ev.step (fun k => by rw [pianolaref09_check.j1]) ?_
            unfold scan
            by_cases c : (btw 1 l[n].f0 20 && btw 0 l[n].f1 250) = true
            · refine Ev.neg (by simp [c]) ?_
              rw [if_neg (by simp [c])]
              refine refcheck_inner l (by omega) n hlt _ (fun ha => ?_) (fun ha => ?_) n 0 (by omega) rfl
              · rw [if_neg (by rw [ha]; simp), ← take_at l n hlt]
                exact ih (n + 1) (by omega)
              · rw [if_pos ha]
            · rw [Bool.not_eq_true] at c
              refine Ev.pos (by rw [c]; rfl) (Ev.have ?_)
              rw [if_pos c]
          by_cases c1 : btw 1 l[n].f0 20 = true
          · refine Ev.pos c1 (Ev.bind (Ev.now _) ?_)
            have := hi
            rw [c1, Bool.true_and] at this
            exact this
          · refine Ev.neg c1 ?_
            have := hi
            rw [Bool.not_eq_true] at c1
            rw [c1, Bool.false_and] at this
            exact this
      have := key l.length 0 (by omega)
      exact this
  · refine Ev.neg b (Ev.have ?_)
    simp [b]
theorem scan_nd : ∀ (l b : List S61), scan b l = 0 → (b.map S61.f0).Nodup → ((b ++ l).map S61.f0).Nodup
  | [], b, _, hb => by rwa [List.append_nil]
  | s :: r, b, h, hb => by
    unfold scan at h
    by_cases c1 : (btw 1 s.f0 20 && btw 0 s.f1 250) = false
    · rw [if_pos c1] at h; omega
    · rw [if_neg c1] at h
      by_cases c2 : (b.any fun t => t.f0 == s.f0) = true
      · rw [if_pos c2] at h; omega
      · rw [if_neg c2] at h
        have := scan_nd r (b ++ [s]) h (by
          rw [List.map_append, List.nodup_append]
          refine ⟨hb, by simp, fun x hx y hy e => c2 ?_⟩
          obtain ⟨t, ht, rfl⟩ := List.mem_map.1 hx
          simp only [List.map_cons, List.map_nil, List.mem_singleton] at hy
          exact List.any_eq_true.2 ⟨t, ht, by simp [e, hy]⟩)
        rwa [List.append_assoc, List.singleton_append] at this
structure Fine (need : Int) (l : List S61) : Prop where
  n0 : 1 ≤ need
  n1 : need ≤ 8
  len : l.length ≤ 20
  good : ∀ s ∈ l, Good s
  kd : KD l
theorem checkE_fine {need : Int} {l : List S61} (h : checkE need l = 0) : Fine need l := by
  obtain ⟨a, b, c, d, e⟩ := checkE_ok h
  refine ⟨a, b, c, d, ?_, fun s hs => ?_, fun s hs => ?_⟩
  · have := scan_nd l [] e List.nodup_nil
    simpa using this
  · have := d s hs
    exact ⟨by have := this.1; omega, by have := this.2.1; omega⟩
  · have := d s hs
    exact ⟨this.2.2.1, this.2.2.2⟩
theorem set_mid {α : Type} (a : List α) (b v : α) (c : List α) : (a ++ b :: c).set a.length v = a ++ v :: c := by simp
theorem rd_mid (a : List Int) (b : Int) (c : List Int) : rd (a ++ b :: c) (a.length : Int) = b := by
  rw [rd_at _ _ (by simp)]
  simp
def mulTI (k d : Int) : Int → List Int → List Int
  | _, [] => []
  | c, b :: q => (c - ((b * k) % 251) * d) % 251 :: mulTI k d ((0 + b * d) % 251) q
def tailZ (c : Int) : List Int → List Int
  | [] => []
  | _ :: q => c :: List.replicate q.length 0
theorem tailZ_len (c : Int) (q : List Int) : (tailZ c q).length = q.length := by cases q <;> simp [tailZ]
theorem mulTI_len (k d : Int) : ∀ (c : Int) (q : List Int), (mulTI k d c q).length = q.length
  | _, [] => rfl
  | c, b :: q => by simp [mulTI, mulTI_len k d _ q]
theorem mulTI_in (k d : Int) : ∀ (c : Int) (q : List Int), all251 (mulTI k d c q)
  | _, [] => fun _ h => by cases h
  | c, b :: q => fun x hx => by
    cases hx with
    | head => exact mod_in _
    | tail _ hx => exact mulTI_in k d _ q x hx
theorem through_l2 (l : List S61) (x3 x5 : List Int) (x4 m : Nat) (d R' : Int) (R : List Int) (hm : m < l.length) (hk : F251 l[m].f0) (hd : F251 d) (hx5 : all251 x5) (h20 : x5.length ≤ 1000) :
    ∀ (rem pre done : List Int) (c : Int), x5 = pre ++ rem → done.length = pre.length → F251 c →
    Ev (fun k => pianolaref09_through.l1 k (l.map g91) x3 (x4 : Int) (done ++ mulTI l[m].f0 d c rem) ((m + 1 : Nat) : Int)) R →
    m ≤ 1000000 →
    Ev (fun k => pianolaref09_through.l2 k (l.map g91) x3 (x4 : Int) x5 (m : Int) d (done ++ tailZ c rem) (pre.length : Int)) R := by
  intro rem
  induction rem with
  | nil =>
    intro pre done c e hl hc H hm1
    refine Ev.step (fun k => by rw [pianolaref09_through.l2]) ?_
    refine Ev.neg (by rw [e, List.append_nil]; omega) ?_
    rw [w_nat m (by omega)]
    exact H
  | cons b q ih =>
    intro pre done c e hl hc H hm1
    have hb : F251 b := hx5 b (by rw [e]; simp)
    obtain ⟨p0, p1⟩ := mul_bd _ _ hb hk
    obtain ⟨q0, q1⟩ := mul_bd _ _ (mod_in (b * l[m].f0)) hd
    obtain ⟨s0, s1⟩ := mul_bd _ _ hb hd
    obtain ⟨c0, c1⟩ := hc
    have hlen : x5.length = pre.length + (q.length + 1) := by rw [e]; simp
    refine Ev.step (fun k => by rw [pianolaref09_through.l2]) ?_
    refine Ev.pos (by omega) (Ev.pos (by omega) (Ev.pos (by rw [List.length_append, tailZ_len]; simp; omega) (Ev.pos (by omega) (Ev.pos (by simp; omega) ?_))))
    have e5 : rd x5 (pre.length : Int) = b := by rw [e]; exact rd_mid pre b q
    have e8 : rd (done ++ tailZ c (b :: q)) (pre.length : Int) = c := by rw [← hl]; exact rd_mid done c _
    rw [e5, e8, rd91_g l m hm]
    simp only [g91]
    rw [show wrap64 (b * l[m].f0) = b * l[m].f0 by unfold wrap64; omega, Int.tmod_eq_emod_of_nonneg p0, show wrap64 ((b * l[m].f0) % 251 * d) = (b * l[m].f0) % 251 * d by unfold wrap64; omega,
      show wrap64 (c - (b * l[m].f0) % 251 * d) = c - (b * l[m].f0) % 251 * d by unfold wrap64; omega, mod_f _ (by omega) (by omega)]
    refine Ev.bind (Ev.now _) (Ev.bind (Ev.now _) ?_)
    rw [w_nat pre.length (by omega), Int.toNat_natCast, ← hl]
    have es : (done ++ tailZ c (b :: q)).set done.length ((c - (b * l[m].f0) % 251 * d) % 251) = done ++ (c - (b * l[m].f0) % 251 * d) % 251 :: List.replicate q.length 0 := set_mid _ _ _ _
    rw [es]
    have hpre : ((pre ++ [b]).length : Int) = ((done.length + 1 : Nat) : Int) := by rw [List.length_append, hl]; simp
    have hdone : (done ++ [(c - (b * l[m].f0) % 251 * d) % 251]).length = (pre ++ [b]).length := by simp [hl]
    cases q with
    | nil =>
      refine Ev.neg (by rw [hlen]; simp; omega) ?_
      have := ih (pre ++ [b]) (done ++ [(c - (b * l[m].f0) % 251 * d) % 251]) 0 (by rw [e]; simp) hdone ⟨by omega, by omega⟩ (by simpa [mulTI] using H) hm1
      rw [hpre] at this
      simpa [tailZ] using this
    | cons b2 q2 =>
      refine Ev.pos (by rw [hlen]; simp; omega) (Ev.pos (by omega) (Ev.pos (by rw [List.length_append, tailZ_len]; simp; omega) ?_))
      have er : rd (done ++ (c - (b * l[m].f0) % 251 * d) % 251 :: List.replicate (b2 :: q2).length 0) ((done.length + 1 : Nat) : Int) = 0 := by
        have := rd_mid (done ++ [(c - (b * l[m].f0) % 251 * d) % 251]) 0 (List.replicate q2.length 0)
        rw [List.length_append] at this
        simpa [List.replicate_succ] using this
      rw [er, show wrap64 (b * d) = b * d by unfold wrap64; omega, show wrap64 (0 + b * d) = 0 + b * d by unfold wrap64; omega, mod_f _ (by omega) (by omega)]
      refine Ev.bind (Ev.now _) ?_
      have := ih (pre ++ [b]) (done ++ [(c - (b * l[m].f0) % 251 * d) % 251]) ((0 + b * d) % 251) (by rw [e]; simp) hdone (mod_in _) (by
        rw [List.append_assoc, List.singleton_append]
        exact H) hm1
      rw [hpre] at this
      have e9 : (done ++ (c - (b * l[m].f0) % 251 * d) % 251 :: List.replicate (b2 :: q2).length 0).set (((done.length + 1 : Nat) : Int)).toNat ((0 + b * d) % 251) = done ++ [(c - (b * l[m].f0) % 251 * d) % 251] ++ tailZ ((0 + b * d) % 251) (b2 :: q2) := by
        simp [List.replicate_succ, tailZ]
      rw [e9]
      exact this
def mulT (k d : K251) : K251 → List K251 → List K251
  | _, [] => []
  | c, b :: q => (c - b * k * d) :: mulT k d (b * d) q
def mulD (k d : K251) : K251 → List K251 → List K251
  | c, [] => [c]
  | c, b :: q => (c - b * k * d) :: mulD k d (b * d) q
theorem mulTI_fk (k d : Int) : ∀ (c : Int) (q : List Int), (mulTI k d c q).map fk = mulT (fk k) (fk d) (fk c) (q.map fk)
  | _, [] => rfl
  | c, b :: q => by
    simp only [mulTI, List.map_cons, mulT]
    rw [mulTI_fk k d _ q, fk_mod, fk_sub, fk_mul, fk_mod, fk_mul, fk_mod, fk_add, fk_mul, fk_zero, show (0 : K251) + fk b * fk d = fk b * fk d by grind]
theorem mulT_zeros (k d : K251) : ∀ m : Nat, mulT k d 0 (List.replicate m 0) = List.replicate m 0
  | 0 => rfl
  | m + 1 => by
    rw [List.replicate_succ]
    simp only [mulT]
    rw [show (0 : K251) * d = 0 by grind, mulT_zeros k d m, show (0 : K251) - 0 * k * d = 0 by grind]
theorem mulT_mulD (k d : K251) (m : Nat) : ∀ (c : K251) (q : List K251), mulT k d c (q ++ List.replicate (m + 1) 0) = mulD k d c q ++ List.replicate m 0
  | c, [] => by
    rw [List.nil_append, List.replicate_succ]
    simp only [mulT, mulD]
    rw [show (0 : K251) * d = 0 by grind, mulT_zeros k d m, show c - 0 * k * d = c by grind]
    rfl
  | c, b :: q => by
    simp only [List.cons_append, mulT, mulD]
    rw [mulT_mulD k d m _ q]
theorem mulD_len (k d : K251) : ∀ (c : K251) (q : List K251), (mulD k d c q).length = q.length + 1
  | _, [] => rfl
  | _, b :: q => by simp [mulD, mulD_len k d _ q]
theorem mulD_eF (k d x : K251) : ∀ (c : K251) (q : List K251), eF (mulD k d c q) x = c + d * (x - k) * eF q x
  | c, [] => by simp only [mulD, eF]; grind
  | c, b :: q => by
    simp only [mulD, eF]
    rw [mulD_eF k d x _ q]
    grind
theorem prodF_snoc (x : K251) (a b : S61) : ∀ l : List S61, prodF x a (l ++ [b]) = prodF x a l * facF x a b
  | [] => by show facF x a b * 1 = 1 * facF x a b; grind
  | c :: l => by
    show facF x a c * prodF x a (l ++ [b]) = facF x a c * prodF x a l * facF x a b
    rw [prodF_snoc x a b l]
    grind
theorem sumF_snoc (f : S61 → K251) (b : S61) : ∀ l : List S61, sumF f (l ++ [b]) = sumF f l + f b
  | [] => by show f b + 0 = 0 + f b; grind
  | c :: l => by
    show f c + sumF f (l ++ [b]) = f c + sumF f l + f b
    rw [sumF_snoc f b l]
    grind
theorem kd_at {l : List S61} (h : KD l) {i j : Nat} (hi : i < l.length) (hj : j < l.length) : l[i].f0 = l[j].f0 ↔ i = j := by
  constructor
  · intro e
    have hn := h.nd
    have hp := List.pairwise_iff_getElem.1 hn
    rcases Nat.lt_trichotomy i j with c | c | c
    · exact absurd (by rw [List.getElem_map, List.getElem_map]; exact e) (hp i j (by simpa using hi) (by simpa using hj) c)
    · exact c
    · exact absurd (by rw [List.getElem_map, List.getElem_map]; exact e.symm) (hp j i (by simpa using hj) (by simpa using hi) c)
  · rintro rfl; rfl
theorem through_l1 (l : List S61) (hk : KD l) (h20 : l.length ≤ 1000) (x3 : List Int) (i : Nat) (hi : i < l.length) (R : List Int)
    (H : ∀ one : List Int, one.length = l.length → all251 one → (∀ x, eF (one.map fk) x = prodF x l[i] l) → Ev (fun k => pianolaref09_through.l3 k (l.map g91) x3 (i : Int) one 0) R) :
    ∀ (d m : Nat) (x5 : List Int) (q : List K251), m + d = l.length → x5.length = l.length → all251 x5 → x5.map fk = q ++ List.replicate (l.length - q.length) 0 → q.length = 1 + (if m ≤ i then m else m - 1) → (∀ x, eF q x = prodF x l[i] (l.take m)) →
    Ev (fun k => pianolaref09_through.l1 k (l.map g91) x3 (i : Int) x5 (m : Int)) R := by
  intro d
  induction d with
  | zero =>
    intro m x5 q hm hl5 ha hq hql he
    refine Ev.step (fun k => by rw [pianolaref09_through.l1]) ?_
    refine Ev.neg (by simp; omega) ?_
    refine H x5 hl5 ha (fun x => ?_)
    rw [hq, eF_zeros, he x, List.take_of_length_le (by omega)]
  | succ d ih =>
    intro m x5 q hm hl5 ha hq hql he
    have hlt : m < l.length := by omega
    refine Ev.step (fun k => by rw [pianolaref09_through.l1]) ?_
    refine Ev.pos (by simp; omega) ?_
    by_cases c : m = i
    · subst c
      refine Ev.pos rfl ?_
      rw [w_nat m (by omega)]
      refine ih (m + 1) x5 q (by omega) hl5 ha hq (by rw [hql, if_pos (Nat.le_refl _), if_neg (by omega)]; omega) (fun x => ?_)
      rw [take_at l m hlt, prodF_snoc, he x]
      unfold facF
      rw [if_pos rfl]
      grind
    · have ne : ¬ l[i].f0 = l[m].f0 := fun e => c ((kd_at hk hi hlt).1 e).symm
      refine Ev.neg (by omega) (Ev.pos (by omega) (Ev.pos (by simp; omega) (Ev.pos (by omega) ?_)))
      have h1 := hk.k l[i] (List.getElem_mem hi)
      have h2 := hk.k l[m] (List.getElem_mem hlt)
      obtain ⟨h10, h11⟩ := h1
      obtain ⟨h20', h21⟩ := h2
      rw [rd91_g l i hi, rd91_g l m hlt]
      simp only [g91]
      rw [show wrap64 (l[i].f0 - l[m].f0) = l[i].f0 - l[m].f0 by unfold wrap64; omega, mod_f _ (by omega) (by omega)]
      refine Ev.bind (Ev.now _) (Ev.bind (ref_inv _ (mod_in _) (by omega)) ?_)
      refine Ev.pos (by omega) (Ev.pos (by simp; omega) ?_)
      obtain ⟨b5, q5, e5⟩ : ∃ b q', x5 = b :: q' := by
        cases x5 with
        | nil => simp at hl5; omega
        | cons b q' => exact ⟨b, q', rfl⟩
      have hqlt : q.length + 1 ≤ l.length := by
        rw [hql]
        split <;> omega
      have := through_l2 l x3 x5 i m (inv ((l[i].f0 - l[m].f0) % 251)) 0 R hlt ⟨h20', h21⟩ (inv_in _) ha (by omega) x5 [] [] 0 rfl rfl ⟨by omega, by omega⟩ ?_ (by omega)
      · simp only [List.nil_append, List.length_nil] at this
        have e8 : tailZ 0 x5 = List.replicate ((l.map g91).length : Int).toNat 0 := by
          rw [e5]
          show 0 :: List.replicate q5.length 0 = _
          rw [← List.replicate_succ]
          congr 1
          rw [e5] at hl5
          simp at hl5 ⊢
          omega
        rw [e8] at this
        exact this
      · rw [List.nil_append]
        refine ih (m + 1) _ (mulD (fk l[m].f0) (fk (inv ((l[i].f0 - l[m].f0) % 251))) 0 q) (by omega) (by rw [mulTI_len, hl5]) (mulTI_in _ _ _ _) ?_ ?_ (fun x => ?_)
        · rw [mulTI_fk, hq, mulD_len, show l.length - q.length = (l.length - (q.length + 1)) + 1 by omega, fk_zero]
          exact mulT_mulD _ _ _ _ _
        · rw [mulD_len, hql]
          split <;> split <;> omega
        · rw [mulD_eF, he x, take_at l m hlt, prodF_snoc]
          unfold facF
          rw [if_neg ne, fk_inv (mod_in _), fk_mod, fk_sub]
          grind
def addI (v : Int) (a b : List Int) : List Int := List.zipWith (fun o e => (o + e * v) % 251) a b
theorem through_l3 (l : List S61) (h20 : l.length ≤ 1000) (i : Nat) (hi : i < l.length) (hv : F251 l[i].f1) (x5 : List Int) (h5 : all251 x5) (h5l : x5.length ≤ 1000) (R : List Int) :
    ∀ (r5 pre done r3 : List Int), x5 = pre ++ r5 → done.length = pre.length → r3.length = r5.length → (∀ c ∈ r3, F251 c) →
    Ev (fun k => pianolaref09_through.l0 k (l.map g91) (done ++ addI l[i].f1 r3 r5) ((i + 1 : Nat) : Int)) R →
    Ev (fun k => pianolaref09_through.l3 k (l.map g91) (done ++ r3) (i : Int) x5 (pre.length : Int)) R := by
  intro r5
  induction r5 with
  | nil =>
    intro pre done r3 e hl h3 hin H
    refine Ev.step (fun k => by rw [pianolaref09_through.l3]) ?_
    refine Ev.neg (by rw [e, List.append_nil]; omega) ?_
    rw [w_nat i (by omega)]
    cases r3 with
    | nil => exact H
    | cons => simp at h3
  | cons b q ih =>
    intro pre done r3 e hl h3 hin H
    cases r3 with
    | nil => simp at h3
    | cons c r3 =>
      have hb : F251 b := h5 b (by rw [e]; simp)
      obtain ⟨p0, p1⟩ := mul_bd _ _ hb hv
      obtain ⟨c0, c1⟩ := hin c (by simp)
      have hlen : x5.length = pre.length + (q.length + 1) := by rw [e]; simp
      refine Ev.step (fun k => by rw [pianolaref09_through.l3]) ?_
      refine Ev.pos (by omega) (Ev.pos (by omega) (Ev.pos (by simp; omega) (Ev.pos (by omega) (Ev.pos (by simp; omega) ?_))))
      have e5 : rd x5 (pre.length : Int) = b := by rw [e]; exact rd_mid pre b q
      have e8 : rd (done ++ c :: r3) (pre.length : Int) = c := by rw [← hl]; exact rd_mid done c _
      rw [e5, e8, rd91_g l i hi]
      simp only [g91]
      rw [show wrap64 (b * l[i].f1) = b * l[i].f1 by unfold wrap64; omega, show wrap64 (c + b * l[i].f1) = c + b * l[i].f1 by unfold wrap64; omega, mod_f _ (by omega) (by omega)]
      refine Ev.bind (Ev.now _) ?_
      rw [w_nat pre.length (by omega), Int.toNat_natCast, ← hl, set_mid]
      have := ih (pre ++ [b]) (done ++ [(c + b * l[i].f1) % 251]) r3 (by rw [e]; simp) (by simp [hl]) (by simpa using h3) (fun x hx => hin x (by simp [hx])) (by
        rw [List.append_assoc, List.singleton_append]
        exact H)
      rw [List.length_append, ← hl] at this
      simpa using this
theorem addI_len (v : Int) (a b : List Int) (h : a.length = b.length) : (addI v a b).length = b.length := by simp [addI, h]
theorem addI_in (v : Int) : ∀ (a b : List Int), all251 (addI v a b)
  | [], _ => fun _ h => by cases h
  | _ :: _, [] => fun _ h => by cases h
  | a :: p, b :: q => fun x hx => by
    cases hx with
    | head => exact mod_in _
    | tail _ hx => exact addI_in v p q x hx
theorem addI_eF (v : Int) (x : K251) : ∀ (a b : List Int), a.length = b.length → eF ((addI v a b).map fk) x = eF (a.map fk) x + eF (b.map fk) x * fk v
  | [], [], _ => by simp only [addI, List.zipWith_nil_left, List.map_nil, eF]; grind
  | [], _ :: _, h => by simp at h
  | _ :: _, [], h => by simp at h
  | a :: p, b :: q, h => by
    have ih := addI_eF v x p q (by simpa using h)
    simp only [addI, List.zipWith_cons_cons, List.map_cons, eF] at ih ⊢
    rw [ih, fk_mod, fk_add, fk_mul]
    grind
theorem through_ev (l : List S61) (hk : KD l) (h20 : l.length ≤ 1000) : Ev (fun k => pianolaref09_through.f k (l.map g91)) (solved l).1 := by
  unfold pianolaref09_through.f
  refine Ev.pos (by omega) (Ev.pos (by simp; omega) ?_)
  have key : ∀ (d i : Nat) (out : List Int), i + d = l.length → out.length = l.length → all251 out → (∀ x, eF (out.map fk) x = sumF (fun a => fk a.f1 * prodF x a l) (l.take i)) →
      Ev (fun k => pianolaref09_through.l0 k (l.map g91) out (i : Int)) (solved l).1 := by
    intro d
    induction d with
    | zero =>
      intro i out hd ho ha he
      refine Ev.step (fun k => by rw [pianolaref09_through.l0]) ?_
      refine Ev.neg (by simp; omega) (Ev.have ?_)
      congr 1
      refine all_fk ha (solved_in l).1 ?_
      refine fit_unique hk (by simp [ho, solved_len]) (by simp [ho]) (fun a hm => ?_) (solved_at l hk)
      rw [he, List.take_of_length_le (by omega)]
      exact lagF_at hk hm
    | succ d ih =>
      intro i out hd ho ha he
      have hi : i < l.length := by omega
      have hv := hk.v l[i] (List.getElem_mem hi)
      refine Ev.step (fun k => by rw [pianolaref09_through.l0]) ?_
      refine Ev.pos (by simp; omega) (Ev.pos (by omega) (Ev.pos (by simp; omega) (Ev.bind (Ev.now _) (Ev.pos (by simp; omega) ?_))))
      have e0 : (List.replicate ((l.map g91).length : Int).toNat (0 : Int)).set (0 : Int).toNat 1 = 1 :: List.replicate (l.length - 1) 0 := by
        rw [List.length_map, Int.toNat_natCast, show l.length = (l.length - 1) + 1 by omega, List.replicate_succ]
        rfl
      rw [e0]
      refine through_l1 l hk h20 out i hi _ (fun one h1 h2 h3 => ?_) l.length 0 _ [1] (by omega) (by simp; omega) ?_ ?_ ?_ ?_
      · refine through_l3 l h20 i hi hv one h2 (by omega) _ one [] [] out rfl rfl (by omega) ha ?_
        rw [List.nil_append]
        refine ih (i + 1) _ (by omega) (by rw [addI_len _ _ _ (by omega)]; exact h1) (addI_in _ _ _) (fun x => ?_)
        rw [addI_eF _ _ _ _ (by omega), he, h3, take_at l i hi, sumF_snoc]
        grind
      · intro c hc
        rw [List.mem_cons, List.mem_replicate] at hc
        rcases hc with rfl | ⟨_, rfl⟩
        · exact ⟨by omega, by omega⟩
        · exact ⟨by omega, by omega⟩
      · simp [fk_zero, fk_one]
      · simp
      · intro x
        show 1 + x * 0 = 1
        grind
  refine key l.length 0 _ (by omega) (by simp) ?_ (fun x => ?_)
  · intro c hc
    rw [List.mem_replicate] at hc
    rw [hc.2]
    exact ⟨by omega, by omega⟩
  · have := eF_zeros x ((l.map g91).length : Int).toNat []
    rw [List.map_replicate, fk_zero]
    exact this
theorem lieP_cons (p : List Int) (a : S61) (m : List S61) : lieP p (a :: m) = ((ev p a.f0 == a.f1) && lieP p m) := by
  unfold lieP
  rw [List.any_cons, Bool.not_or]
  simp [bne]
theorem lie_ev (p : List Int) (l : List S61) (hp : all251 p) (hpl : p.length ≤ 1000) (hl : ∀ s ∈ l, F251 s.f0) (hll : l.length ≤ 1000000) : Ev (fun k => pianolaref09_lie.f k p (l.map g91)) (lieP p l) := by
  unfold pianolaref09_lie.f
  have key : ∀ (d n : Nat), n + d = l.length → Ev (fun k => pianolaref09_lie.l0 k p (l.map g91) (n : Int)) (lieP p (l.drop n)) := by
    intro d
    induction d with
    | zero =>
      intro n hd
      refine Ev.step (fun k => by rw [pianolaref09_lie.l0]) ?_
      refine Ev.neg (by simp; omega) (Ev.have ?_)
      rw [List.drop_of_length_le (by omega)]; rfl
    | succ d ih =>
      intro n hd
      have hlt : n < l.length := by omega
      refine Ev.step (fun k => by rw [pianolaref09_lie.l0]) ?_
      refine Ev.pos (by simp; omega) (Ev.pos (by omega) ?_)
      rw [rd91_g l n hlt]
      simp only [g91]
      refine Ev.bind (value_ev p _ (hl _ (List.getElem_mem hlt)) hp (by omega)) ?_
      rw [w_nat n (by omega), drop_at l n hlt]
      by_cases c : ev p l[n].f0 = l[n].f1
      · refine Ev.pos c ?_
        have := ih (n + 1) (by omega)
        rw [lieP_cons, beq_iff_eq.2 c, Bool.true_and]
        exact this
      · refine Ev.neg c (Ev.have ?_)
        rw [lieP_cons, beq_eq_false_iff_ne.2 c, Bool.false_and]
  exact key l.length 0 (by omega)
theorem agree_same {need : Int} {l : List S61} (h : Fine need l) (hl : need < l.length) : lieP (solved (l.take need.toNat)).1 l = agreeB need l := by
  have hn : ((need.toNat : Nat) : Int) = need := by have := h.n0; omega
  have h1 := agreeB_fit (n := need.toNat) h.kd
  have h2 := lieP_fit (n := need.toNat) h.kd (by omega)
  rw [hn] at h1
  rw [Bool.eq_iff_iff]
  exact h2.trans h1.symm
theorem map_take' (l : List S61) (n : Nat) : (l.map g91).take n = (l.take n).map g91 := (List.map_take).symm
theorem refagree_ev {need : Int} {l : List S61} (h : Fine need l) : Ev (fun k => pianolaref09_agree.f k need (l.map g91)) (agreeB need l) := by
  unfold pianolaref09_agree.f
  have n0 := h.n0
  have n1 := h.n1
  have hl := h.len
  by_cases c : (l.length : Int) ≤ need
  · refine Ev.pos (by simpa using c) (Ev.have ?_)
    unfold agreeB
    rw [if_pos c]
  · refine Ev.neg (by simpa using c) (Ev.pos (by omega) (Ev.pos (by simp; omega) ?_))
    rw [map_take']
    refine Ev.bind (through_ev _ (h.kd.sub (List.take_sublist _ _)) (by simp; omega)) ?_
    refine Ev.bind (lie_ev _ l (solved_in _).1 (by rw [solved_len]; simp; omega) h.kd.k (by omega)) (Ev.have ?_)
    rw [agree_same h (by omega)]
theorem okSB_of {l : List S61} (h : ∀ s ∈ l, Good s) : okSB l = true := by
  unfold okSB
  rw [List.all_eq_true]
  intro a ha
  have := h a ha
  unfold Good at this
  simp only [Bool.and_eq_true, decide_eq_true_eq]
  omega
theorem agree_f {need : Int} {l : List S61} (h : Fine need l) : vault_agree.f need l = some (agreeB need l) := by
  unfold vault_agree.f
  have := h.n0
  have := h.len
  rw [if_pos (by simp only [Bool.and_eq_true, decide_eq_true_eq]; exact ⟨⟨okSB_of h.good, by omega⟩, by omega⟩)]
theorem vcheck_f (need : Int) (l : List S61) : vault_check.f need l = some (checkE need l) := rfl
theorem given_ev (l : List S61) (h : l.length ≤ 1000000) : Ev (fun k => pianolalaw09_given.f k l) (l.map g91) := by
  unfold pianolalaw09_given.f
  have key : ∀ (d n : Nat), n + d = l.length → Ev (fun k => pianolalaw09_given.l0 k l ((l.take n).map g91) (n : Int)) (l.map g91) := by
    intro d
    induction d with
    | zero =>
      intro n hd
      refine Ev.step (fun k => by rw [pianolalaw09_given.l0]) ?_
      refine Ev.neg (by omega) (Ev.have ?_)
      rw [List.take_of_length_le (by omega)]
    | succ d ih =>
      intro n hd
      have hlt : n < l.length := by omega
      refine Ev.step (fun k => by rw [pianolalaw09_given.l0]) ?_
      refine Ev.pos (by omega) (Ev.pos (by omega) (Ev.pos (by simp; omega) ?_))
      rw [rd61_at l n hlt, w_nat n (by omega)]
      have := ih (n + 1) (by omega)
      rw [take_at l n hlt, List.map_append] at this
      exact this
  exact key l.length 0 (by omega)
theorem numbers_ev (a b : List Int) (h : a.length ≤ 1000000) : Ev (fun k => pianolalaw09_numbers.f k a b) (decide (a = b)) := by
  unfold pianolalaw09_numbers.f
  by_cases hl : a.length = b.length
  · refine Ev.pos (by omega) ?_
    have key : ∀ (d n : Nat), n + d = a.length → Ev (fun k => pianolalaw09_numbers.l0 k a b (n : Int)) (decide (a.drop n = b.drop n)) := by
      intro d
      induction d with
      | zero =>
        intro n hd
        refine Ev.step (fun k => by rw [pianolalaw09_numbers.l0]) ?_
        refine Ev.neg (by omega) (Ev.have ?_)
        rw [List.drop_of_length_le (by omega), List.drop_of_length_le (by omega)]
        simp
      | succ d ih =>
        intro n hd
        have h1 : n < a.length := by omega
        have h2 : n < b.length := by omega
        refine Ev.step (fun k => by rw [pianolalaw09_numbers.l0]) ?_
        refine Ev.pos (by omega) (Ev.pos (by omega) (Ev.pos (by omega) ?_))
        rw [rd_at a n h1, rd_at b n h2, w_nat n (by omega), drop_at a n h1, drop_at b n h2]
        by_cases c : a[n] = b[n]
        · refine Ev.pos c ?_
          have := ih (n + 1) (by omega)
          rw [show decide (a[n] :: a.drop (n + 1) = b[n] :: b.drop (n + 1)) = decide (a.drop (n + 1) = b.drop (n + 1)) from decide_eq_decide.2 (by rw [List.cons.injEq]; exact ⟨fun h => h.2, fun h => ⟨c, h⟩⟩)]
          exact this
        · refine Ev.neg c (Ev.have ?_)
          rw [decide_eq_false (fun e => c (List.cons.inj e).1)]
    exact key a.length 0 (by omega)
  · refine Ev.neg (by omega) (Ev.have ?_)
    rw [decide_eq_false]
    intro e
    rw [e] at hl
    exact hl rfl
theorem lieP_full {need : Int} {l : List S61} (h : Fine need l) (e : (l.length : Int) = need) : lieP (solved (l.take need.toNat)).1 l = true := by
  have h2 := lieP_fit (n := need.toNat) h.kd (by omega)
  refine h2.2 ?_
  have h1 := agreeB_fit (n := need.toNat) h.kd
  refine h1.1 ?_
  unfold agreeB
  rw [if_pos (by omega)]
theorem agree_le {need : Int} {l : List S61} (h : Fine need l) (e : need ≤ (l.length : Int)) : lieP (solved (l.take need.toNat)).1 l = agreeB need l := by
  by_cases c : need < l.length
  · exact agree_same h c
  · rw [lieP_full h (by omega)]
    unfold agreeB
    rw [if_pos (by omega)]
end Go.Proofs.Ytpfkfbbekfkcgaa.P
end
section
namespace Go.Proofs.Ytpfkfbbekfkcgaa.P
open Go.RowKit Go.Proofs.YtpfkfbbekfkcgaaW.PrintWords Go.Proofs.YtpfkfbbekfkcgaaW.PrintLast Go.Proofs.YtpfkfbbekfkcgaaW.PrintMore
set_option linter.unusedVariables false
set_option linter.unusedSimpArgs false
def powN : Nat → Int
  | 0 => 1
  | n + 1 => mn (powN n * 251) 4503599627370496
theorem powN_bd : ∀ n, 1 ≤ powN n ∧ powN n ≤ 4503599627370496
  | 0 => by unfold powN; omega
  | n + 1 => by
    have := powN_bd n
    unfold powN mn
    split <;> omega
theorem ev_zero {p : List Int} (h : all251 p) (hl : 0 < p.length) : ev p 0 = rd p 0 := by
  cases p with
  | nil => simp at hl
  | cons c p =>
    obtain ⟨c0, c1⟩ := h c (by simp)
    show ((ev p 0 * 0) % 251 + c) % 251 = c
    omega
def countR (need : Int) (l : List S61) (s : Int) : Int :=
  if (l.length : Int) < need then powN (need.toNat - 1 - l.length) else if agreeB need l = true then (if rd (itp need.toNat l) 0 = s then 1 else 0) else 0
theorem countR_bd (need : Int) (l : List S61) (s : Int) : 0 ≤ countR need l s := by
  unfold countR
  split
  · have := powN_bd (need.toNat - 1 - l.length); omega
  · split
    · split <;> omega
    · omega
theorem counted_ev {need : Int} {l : List S61} (h : Fine need l) (s : Int) : Ev (fun k => vault_counted.f k need l s) (countR need l s) := by
  have n0 := h.n0
  have n1 := h.n1
  have hl := h.len
  unfold vault_counted.f countR
  by_cases c : (l.length : Int) < need
  · refine Ev.pos c ?_
    rw [if_pos c, show wrap64 (wrap64 (need - 1) - (l.length : Int)) = need - 1 - l.length by unfold wrap64; omega]
    have key : ∀ (d n : Nat), n + d = need.toNat - 1 - l.length → Ev (fun k => vault_counted.l0 k (powN n) (need - 1 - l.length) (n : Int)) (powN (need.toNat - 1 - l.length)) := by
      intro d
      induction d with
      | zero =>
        intro n hd
        refine Ev.step (fun k => by rw [vault_counted.l0]) ?_
        refine Ev.neg (by omega) (Ev.have ?_)
        rw [show n = need.toNat - 1 - l.length by omega]
      | succ d ih =>
        intro n hd
        have := powN_bd n
        refine Ev.step (fun k => by rw [vault_counted.l0]) ?_
        refine Ev.pos (by omega) ?_
        rw [show wrap64 (powN n * 251) = powN n * 251 by unfold wrap64; omega, w_nat n (by omega)]
        exact ih (n + 1) (by omega)
    exact key (need.toNat - 1 - l.length) 0 (by omega)
  · refine Ev.neg c ?_
    rw [if_neg c, agree_f h]
    refine Ev.bind (Ev.now _) ?_
    by_cases a : agreeB need l = true
    · refine Ev.pos a ?_
      rw [if_pos a]
      refine Ev.pos (by omega) (Ev.pos (by omega) ?_)
      have e : vault_span_at.f (l.take need.toNat) 0 = some (rd (itp need.toNat l) 0) := by
        unfold vault_span_at.f
        rw [if_pos (by
          simp only [Bool.and_eq_true, decide_eq_true_eq]
          exact ⟨⟨⟨okSB_of (fun s hs => h.good s (List.mem_of_mem_take hs)), by omega⟩, by omega⟩, by rw [List.length_take]; omega⟩)]
        rw [lag_itp h.kd (by omega), ev_zero (itp_in _ _) (by rw [itp_len (by omega)]; omega)]
      rw [e]
      refine Ev.bind (Ev.now _) ?_
      by_cases q : rd (itp need.toNat l) 0 = s
      · exact Ev.pos q (Ev.have (by rw [if_pos q]))
      · exact Ev.neg q (Ev.have (by rw [if_neg q]))
    · exact Ev.neg a (Ev.have (by rw [if_neg a]))
theorem refcount_ev {need : Int} {l : List S61} (h : Fine need l) (s : Int) : Ev (fun k => pianolaref09_count.f k need (l.map g91) s) (countR need l s) := by
  have n0 := h.n0
  have n1 := h.n1
  have hl := h.len
  unfold pianolaref09_count.f countR
  by_cases c : (l.length : Int) < need
  · refine Ev.neg (by simp; omega) ?_
    rw [if_pos c]
    have key : ∀ (d n : Nat), n + d = need.toNat - 1 - l.length → Ev (fun k => pianolaref09_count.l0 k need (powN n) ((l.length + 1 + n : Nat) : Int)) (powN (need.toNat - 1 - l.length)) := by
      intro d
      induction d with
      | zero =>
        intro n hd
        refine Ev.step (fun k => by rw [pianolaref09_count.l0]) ?_
        refine Ev.neg (by omega) (Ev.have ?_)
        rw [show n = need.toNat - 1 - l.length by omega]
      | succ d ih =>
        intro n hd
        have := powN_bd n
        refine Ev.step (fun k => by rw [pianolaref09_count.l0]) ?_
        refine Ev.pos (by omega) ?_
        rw [show wrap64 (powN n * 251) = powN n * 251 by unfold wrap64; omega, w_nat (l.length + 1 + n) (by omega)]
        exact ih (n + 1) (by omega)
    have := key (need.toNat - 1 - l.length) 0 (by omega)
    rw [List.length_map, w_nat l.length (by omega)]
    exact this
  · refine Ev.pos (by simp; omega) (Ev.pos (by omega) (Ev.pos (by simp; omega) ?_))
    rw [if_neg c, map_take']
    refine Ev.bind (through_ev _ (h.kd.sub (List.take_sublist _ _)) (by simp; omega)) ?_
    refine Ev.bind (lie_ev _ l (solved_in _).1 (by rw [solved_len]; simp; omega) h.kd.k (by omega)) ?_
    rw [agree_le h (by omega)]
    by_cases a : agreeB need l = true
    · refine Ev.pos a ?_
      rw [if_pos a]
      refine Ev.pos (by rw [solved_len, List.length_take]; omega) ?_
      by_cases q : rd (itp need.toNat l) 0 = s
      · exact Ev.pos q (Ev.have (by rw [if_pos q]))
      · exact Ev.neg q (Ev.have (by rw [if_neg q]))
    · exact Ev.neg a (Ev.have (by rw [if_neg a]))
def possTo (need : Int) (l : List S61) (n : Nat) : List Int := ((List.range n).filter fun s : Nat => decide (countR need l (s : Int) > 0)).map fun s : Nat => (s : Int)
theorem possTo_succ (need : Int) (l : List S61) (n : Nat) : possTo need l (n + 1) = if countR need l (n : Int) > 0 then possTo need l n ++ [(n : Int)] else possTo need l n := by
  unfold possTo
  rw [List.range_succ, List.filter_append, List.map_append]
  by_cases c : countR need l (n : Int) > 0
  · simp [c]
  · simp [c]
theorem possTo_len (need : Int) (l : List S61) (n : Nat) : (possTo need l n).length ≤ n := by
  unfold possTo
  rw [List.length_map]
  have := List.length_filter_le (fun s : Nat => decide (countR need l (s : Int) > 0)) (List.range n)
  simpa using this
def possR (need : Int) (l : List S61) : List Int × Int := if checkE need l = 0 then (possTo need l 251, 0) else ([], checkE need l)
theorem Possible_ev (need : Int) (l : List S61) : Ev (fun k => vault_Possible.f k need l) (possR need l) := by
  unfold vault_Possible.f possR
  rw [vcheck_f]
  refine Ev.bind (Ev.now _) ?_
  by_cases h : checkE need l = 0
  · rw [if_pos h]
    refine Ev.pos h ?_
    have hf := checkE_fine h
    have key : ∀ (d n : Nat), n + d = 251 → Ev (fun k => vault_Possible.l0 k need l (possTo need l n) (n : Int)) (possTo need l 251, 0) := by
      intro d
      induction d with
      | zero =>
        intro n hd
        refine Ev.step (fun k => by rw [vault_Possible.l0]) ?_
        refine Ev.neg (by omega) (Ev.have ?_)
        rw [show n = 251 by omega]
      | succ d ih =>
        intro n hd
        refine Ev.step (fun k => by rw [vault_Possible.l0]) ?_
        refine Ev.pos (by omega) (Ev.bind (counted_ev hf _) ?_)
        have := ih (n + 1) (by omega)
        rw [possTo_succ] at this
        have hp := possTo_len need l n
        rw [w_nat n (by omega)]
        by_cases c : countR need l (n : Int) > 0
        · rw [if_pos c] at this
          exact Ev.pos c (Ev.pos (by omega) this)
        · rw [if_neg c] at this
          exact Ev.neg c this
    exact key 251 0 (by omega)
  · exact Ev.neg h (Ev.have (by rw [if_neg h]))
theorem refPossible_ev (need : Int) (l : List S61) : Ev (fun k => pianolaref09_Possible.f k need (l.map g91)) (possR need l) := by
  unfold pianolaref09_Possible.f possR
  refine Ev.bind (refcheck_ev need l) ?_
  by_cases h : checkE need l = 0
  · rw [if_pos h]
    refine Ev.pos h ?_
    have hf := checkE_fine h
    have key : ∀ (d n : Nat), n + d = 251 → Ev (fun k => pianolaref09_Possible.l0 k need (l.map g91) (possTo need l n) (n : Int)) (possTo need l 251, 0) := by
      intro d
      induction d with
      | zero =>
        intro n hd
        refine Ev.step (fun k => by rw [pianolaref09_Possible.l0]) ?_
        refine Ev.neg (by omega) (Ev.have ?_)
        rw [show n = 251 by omega]
      | succ d ih =>
        intro n hd
        refine Ev.step (fun k => by rw [pianolaref09_Possible.l0]) ?_
        refine Ev.pos (by omega) (Ev.bind (refcount_ev hf _) ?_)
        have := ih (n + 1) (by omega)
        rw [possTo_succ] at this
        have hp := possTo_len need l n
        rw [w_nat n (by omega)]
        by_cases c : countR need l (n : Int) > 0
        · rw [if_pos c] at this
          exact Ev.pos c (Ev.pos (by omega) this)
        · rw [if_neg c] at this
          exact Ev.neg c this
    exact key 251 0 (by omega)
  · exact Ev.neg h (Ev.have (by rw [if_neg h]))
def countE (need : Int) (l : List S61) (s : Int) : Int × Int := if checkE need l = 0 then (if btw 0 s 250 = true then (countR need l s, 0) else (0, 3)) else (0, checkE need l)
theorem Count_ev (need : Int) (l : List S61) (s : Int) : Ev (fun k => vault_Count.f k need l s) (countE need l s) := by
  unfold vault_Count.f countE
  rw [vcheck_f]
  refine Ev.bind (Ev.now _) ?_
  by_cases h : checkE need l = 0
  · rw [if_pos h]
    refine Ev.pos h ?_
    rw [btw_f]
    refine Ev.bind (Ev.now _) ?_
    by_cases c : btw 0 s 250 = true
    · exact Ev.pos c (Ev.bind (counted_ev (checkE_fine h) s) (Ev.have (by rw [if_pos c])))
    · exact Ev.neg c (Ev.have (by rw [if_neg c]))
  · exact Ev.neg h (Ev.have (by rw [if_neg h]))
theorem refCount_ev (need : Int) (l : List S61) (s : Int) : Ev (fun k => pianolaref09_Count.f k need (l.map g91) s) (countE need l s) := by
  unfold pianolaref09_Count.f countE
  refine Ev.bind (refcheck_ev need l) ?_
  by_cases h : checkE need l = 0
  · rw [if_pos h]
    refine Ev.pos h ?_
    rw [is_f]
    refine Ev.bind (Ev.now _) ?_
    refine Ev.step (fun k => by rw [pianolaref09_Count.j0]) ?_
    by_cases c : btw 0 s 250 = true
    · exact Ev.neg (by simp [c]) (Ev.pos h (Ev.bind (refcount_ev (checkE_fine h) s) (Ev.have (by rw [if_pos c]))))
    · exact Ev.pos (by simpa using c) (Ev.neg (by decide) (Ev.have (by rw [if_neg c])))
  · refine Ev.neg h ?_
    refine Ev.step (fun k => by rw [pianolaref09_Count.j0]) ?_
    exact Ev.neg (by simp) (Ev.neg h (Ev.have (by rw [if_neg h])))
end Go.Proofs.Ytpfkfbbekfkcgaa.P
end
section
namespace Go.Proofs.Ytpfkfbbekfkcgaa.Pure
open Go.RowKit Go.Proofs.Ytpfkfbbekfkcgaa.P Go.Proofs.YtpfkfbbekfkcgaaW.PrintWords Go.Proofs.YtpfkfbbekfkcgaaW.PrintLast
theorem VaultPossible (a0 : Int) (l : List S61) (a2 : Int) (_ : (Lit.int .i64 a0).wf = true) (_ : ∀ s ∈ l, (Lit.int .i64 s.f0).wf = true ∧ (Lit.int .i64 s.f1).wf = true) (_ : (Lit.int .i64 a2).wf = true) :
    ∃ k, pianolalaw09_VaultPossible.f k a0 l a2 = some true := by
  refine Ev.rounds ?_
  unfold pianolalaw09_VaultPossible.f
  by_cases h : (l.length : Int) > 60
  · exact Ev.pos h (Ev.have rfl)
  · refine Ev.neg h ?_
    refine Ev.bind (Possible_ev a0 l) (Ev.bind (given_ev l (by omega)) (Ev.bind (refPossible_ev a0 l) (Ev.bind (Count_ev a0 l a2) (Ev.bind (given_ev l (by omega)) (Ev.bind (refCount_ev a0 l a2) ?_)))))
    refine Ev.bind (numbers_ev _ _ ?_) ?_
    · unfold possR
      split
      · have := possTo_len a0 l 251
        show (possTo a0 l 251).length ≤ 1000000
        omega
      · simp
    · exact Ev.pos (by simp) (Ev.pos rfl (Ev.pos rfl (Ev.pos rfl (Ev.have rfl))))
end Go.Proofs.Ytpfkfbbekfkcgaa.Pure
end
