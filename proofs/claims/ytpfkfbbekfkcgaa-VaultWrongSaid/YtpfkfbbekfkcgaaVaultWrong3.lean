/- Words and contracts for a claim. -/
import Derived.Test.YtpfkfbbekfkcgaaVaultWrong2
import Derived.OpenShut
import Derived.Deep.Slices
import Derived.ChangeSame
section
namespace Go.Proofs.Ytpfkfbbekfkcgaa.P
open Go.ChangeShapes Go.WideShapes Go.Deep Go.RowKit Go.Proofs.YtpfkfbbekfkcgaaW.PrintWords
set_option maxRecDepth 100000
set_option linter.unusedVariables false
set_option linter.unusedSimpArgs false
theorem two_of {α : Type} {l : List α} (h : l.length = 2) : ∃ a b, l = [a, b] := by
  match l, h with
  | [a, b], _ => exact ⟨a, b, rfl⟩
theorem pair_u8 {H : Type} {enc : TypeId × Value → H} {w : World} {base : Nat} {spare : Nat → Bool} {held : Bool} {fuel : Nat} {cs : List Value} {x : DataW H × List MemPlace} (h : DataW.trod enc Try.prog w base spare held fuel 64 cs = some x) :
    ∃ a b : Int, cs = [.int .u8 a, .int .u8 b] ∧ (Lit.int .u8 a).wf = true ∧ (Lit.int .u8 b).wf = true ∧ x = (.agg [.lit (.int .u8 a), .lit (.int .u8 b)], []) := by
  obtain ⟨xs, m, _, hx, hcl, hxl, hg⟩ := DataW.trod_array Try.underlying64 h
  have hc : Try.prog.cellsOf 64 = 2 := by kernel_rfl
  have hc5 : Try.prog.cellsOf 5 = 1 := by kernel_rfl
  rw [hc] at hcl
  obtain ⟨c0, c1, rfl⟩ := two_of hcl
  obtain ⟨y0, y1, rfl⟩ := two_of hxl
  have h0 := hg 0 (by omega)
  have h1 := hg 1 (by omega)
  rw [hc5] at h0 h1
  obtain ⟨a, e0, z0, w0⟩ := DataW.trod_int Try.underlying5 (show DataW.trod enc Try.prog w base spare held m 5 [c0] = some y0 from h0)
  obtain ⟨b, e1, z1, w1⟩ := DataW.trod_int Try.underlying5 (show DataW.trod enc Try.prog w base spare held m 5 [c1] = some y1 from h1)
  injection e0 with e0
  injection e1 with e1
  subst e0 e1 z0 z1
  exact ⟨a, b, rfl, w0, w1, hx⟩
theorem open_bytes2_66 {H : Type} {enc : TypeId × Value → H} {w : World} {base : Nat} {spare : Nat → Bool} {held : Bool} {fuel : Nat} {A : Option Addr} {len cap : Nat} {x : DataW H × List MemPlace}
    (h : DataW.trod enc Try.prog w base spare held fuel 66 [.slice A len cap] = some x) :
    ∃ l : List S64, Kd.C k64 w A l.length l ∧ l.length = len ∧ l.length ≤ cap ∧ ∀ s ∈ l, (Lit.int .u8 s.f0).wf = true ∧ (Lit.int .u8 s.f1).wf = true := by
  have hc : Try.prog.cellsOf 64 = 2 := by kernel_rfl
  rcases open_slice Try.underlying66 h with ⟨hcs, _⟩ | ⟨a, len', cap', m, n, D, Pl, hcs, hb, hl, hm, hmm, hx, hi⟩
  · injection hcs with hcs _
    injection hcs with e1 e2 e3
    subst e1 e2 e3
    exact ⟨[], ⟨rfl, by simp, fun h => absurd h (by simp)⟩, rfl, Nat.le_refl _, fun _ h => by cases h⟩
  · injection hcs with hcs _
    injection hcs with e1 e2 e3
    subst e1 e2 e3
    have hlm : len ≤ m := by rw [hmm]; split <;> omega
    have each : ∀ i, i < len → ∃ s : S64, w.cell? (a.add (i * 2)) = some (.int .u8 s.f0) ∧ w.cell? (a.add (i * 2 + 1)) = some (.int .u8 s.f1) ∧ (Lit.int .u8 s.f0).wf = true ∧ (Lit.int .u8 s.f1).wf = true := by
      intro i hlt
      obtain ⟨cs', hcc, ht⟩ := hi i (by omega)
      rw [hc] at hcc
      obtain ⟨y0, y1, e, w0, w1, _⟩ := pair_u8 ht
      subst e
      obtain ⟨_, _, hat⟩ := World.cells?_some hcc
      have h0 := hat 0 (by omega)
      have h1 := hat 1 (by omega)
      rw [Go.Deep.add_add] at h0 h1
      exact ⟨⟨y0, y1⟩, h0, h1, w0, w1⟩
    obtain ⟨F, hF⟩ : ∃ F : Nat → S64, ∀ i, i < len → w.cell? (a.add (i * 2)) = some (.int .u8 (F i).f0) ∧ w.cell? (a.add (i * 2 + 1)) = some (.int .u8 (F i).f1) ∧ (Lit.int .u8 (F i).f0).wf = true ∧ (Lit.int .u8 (F i).f1).wf = true :=
      ⟨fun i => if h : i < len then Classical.choose (each i h) else z64, fun i h => by simp only [dif_pos h]; exact Classical.choose_spec (each i h)⟩
    have hlen : ((List.range len).map F).length = len := by simp
    refine ⟨(List.range len).map F, ?_, hlen, by rw [hlen]; exact hl, fun s hs => ?_⟩
    · rw [hlen]
      refine ⟨hlen, by unfold maxLen at hm; omega, fun _ => ⟨a, rfl, fun j p hp => ?_⟩⟩
      obtain ⟨hj, rfl⟩ := List.getElem?_eq_some_iff.1 hp
      have hF' := hF j (by simpa using hj)
      refine ⟨_, rfl, k64_mk w _, fun i u hu => ?_⟩
      simp only [List.getElem_map, List.getElem_range] at hu
      show w.cell? (a.add (j * 2 + i)) = _
      match i, hu with
      | 0, hu => cases hu; exact hF'.1
      | 1, hu => cases hu; exact hF'.2.1
      | _ + 2, hu => simp at hu
    · obtain ⟨i, hi, rfl⟩ := List.mem_map.1 hs
      exact (hF i (List.mem_range.1 hi)).2.2
end Go.Proofs.Ytpfkfbbekfkcgaa.P
end
section
namespace Go.Proofs.Ytpfkfbbekfkcgaa.P
open Go.RowKit Go.Proofs.YtpfkfbbekfkcgaaW.PrintWords Go.Proofs.YtpfkfbbekfkcgaaW.PrintLast Go.Proofs.YtpfkfbbekfkcgaaW.PrintMore
attribute [local go_sem] max2_int min2_int max_two min_two max_three min_three max_four min_four
set_option linter.unusedVariables false
set_option linter.unusedSimpArgs false
attribute [local go_sem high] eqA61
def pianolalaw09_Lock_made.l0 : Nat → List Int → List Int → Int → Option (List Int)
  | 0, _, _, _ => none
  | k + 1, x0, x3, x4 => if x4 < (x0.length : Int) then (if x4 < 8 then (if 0 ≤ x4 then (if x3.length < 17592186044416 then (pianolalaw09_Lock_made.l0 k x0 (x3 ++ [Int.tmod (wrap64 (rd x0 x4)) 251]) (wrap64 (x4 + 1))) else (none)) else (none)) else (if (x3.length : Int) = 0 then (some (([0] : List Int))) else (some x3))) else (if (x3.length : Int) = 0 then (some (([0] : List Int))) else (some x3))
def pianolalaw09_Lock_made.f (k : Nat) (l0 : List Int) : Option (List Int) := pianolalaw09_Lock_made.l0 k l0 ([] : List Int) 0
set_option maxHeartbeats 8000000 in
set_option maxRecDepth 100000 in
theorem pianolalaw09_Lock_made.calls (k : Nat) (A0 : Option Addr) (c0 : Nat) (l0 : List Int) (r : List Int) (w : World) (hr0 : Kd.C (Kd.int .u8) w A0 l0.length l0) (hc0 : l0.length ≤ c0) (h : pianolalaw09_Lock_made.f k l0 = some r) :
    Calls Try.prog 41 #[.slice A0 l0.length c0] w fun e w' => ∃ v0_ : Value, e = .returned (v0_) ∧ Kd.R (Kd.int .i64) 3 w' w.heap.size (fun _ => True) v0_ r ∧ Below w.heap.size w w' := by
  have HR0 := Aside0.mk hr0
  have HC0 := Aside0.mk hc0
  clear hr0 hc0
  have HB := Aside0.mk (Below.refl w.heap.size w)
  have H : (pianolalaw09_Lock_made.l0 k l0 ([] : List Int) 0) = some r := h
  clear h
  have H' := Aside0.mk H
  clear H
  go_enter Try.func41, Try.ntmps41
  go_wp2
  go_loopg [3, 4] k (fun kq v3 v4 w' => ∃ (x3_1 : List Int) (x4_1 : Int), v4 = .int .i64 x4_1 ∧ Aside0 (pianolalaw09_Lock_made.l0 kq l0 x3_1 x4_1 = some r) ∧ Aside0 (kq ≤ k) ∧ Aside0 (Kd.R (Kd.int .i64) 3 w' w.heap.size (fun _ => True) v3 x3_1) ∧ Aside0 (Below w.heap.size w w'))
  case atStart => exact ⟨(([] : List Int)), (0), (by first | rfl | (simp; done) | (simp [*]; done)), H', ⟨Nat.le_refl _⟩, ⟨by first | exact Kd.R_nil _ _ _ _ _ | exact Kd.N_nil _ _ _ _ _ | exact Kd.V_nil _ _ _ _ _ | exact Kd.Q_nil _ _ _ _ _ | exact Kd.S_nil _ _ _ _ _⟩, ⟨by repeat (first | (with_reducible first | exact HB.out | apply below_alloc | apply pw_below_drewN | apply below_drew1) | exact HB.out)⟩⟩
  case round =>
    clear H'
    obtain ⟨x3_1, x4_1, rfl, HA, HK1, HO_3, HB⟩ := hrel
    cases gk with
    | zero => exact absurd HA.out (by simp [pianolalaw09_Lock_made.l0])
    | succ k1 =>
      have H := HA.out
      clear HA
      simp only [pianolalaw09_Lock_made.l0] at H
      by_cases c2 : x4_1 < (l0.length : Int)
      · rw [if_pos c2] at H
        have c2b0 : decide (x4_1 < (l0.length : Int)) = true := decide_eq_true c2
        clear c2
        by_cases c3 : x4_1 < 8
        · rw [if_pos c3] at H
          have c3b0 : decide (x4_1 < 8) = true := decide_eq_true c3
          clear c3
          by_cases c4 : 0 ≤ x4_1
          · rw [if_pos c4] at H
            have c4b0 : decide (0 ≤ x4_1) = true := decide_eq_true c4
            clear c4
            by_cases c5 : x3_1.length < 17592186044416
            · rw [if_pos c5] at H
              have LMc5 := Aside0.mk c5
              clear c5
              obtain ⟨y410, hy410⟩ : ∃ y_ : List Int, y_ = (x3_1 ++ [Int.tmod (wrap64 (rd l0 x4_1)) 251]) := ⟨_, rfl⟩
              replace H : (pianolalaw09_Lock_made.l0 k1 l0 y410 (wrap64 (x4_1 + 1))) = some r := by first | (rw [hy410]; with_reducible exact H) | (have H2_ := (Option.bind_some _ _).symm.trans H; rw [hy410]; with_reducible exact H2_) | (have H2_ := (Option.bind_some _ _).symm.trans H; with_reducible exact H2_) | with_reducible exact H | (rw [hy410]; exact H) | exact H
              have Ny410 := Aside0.mk hy410
              clear hy410
              have H' := Aside0.mk H
              clear H
              have p409 : 0 ≤ (x4_1 : Int) := of_decide_eq_true (by first | (with_reducible assumption) | assumption)
              have q409 : x4_1 < (l0.length : Int) := of_decide_eq_true (by first | (with_reducible assumption) | assumption)
              obtain ⟨ad409, e409, hx409_0⟩ := Kd.at_int HR0.out x4_1 p409 q409
              cases e409
              replace hx409_0 := (HB.out.cell (World.block_lt_of_cell? w _ hx409_0)).trans hx409_0
              replace p409 := eq_true p409
              replace q409 := eq_true q409
              go_wp2_with (first | ((with_reducible refine gate_builtin (b := .append) (xs := #[.tmp 15, .tmp 22]) rfl ?_); at_builtin; refine Kd.R_append (Kd.int .i64) (w0 := w) w.heap.size rfl (.tmp 15) (.tmp 22) 22 3 (.int .i64 0) 8 rfl Try.underlying22 info3 rfl (by decide) (by omega) u3 x3_1 (Int.tmod (wrap64 (rd l0 x4_1)) 251) [.int .i64 (Int.tmod (wrap64 (rd l0 x4_1)) 251)] (fun _ => True) (fun _ => False) rfl rfl ?aP (fun _ hk => hk.elim) ?aF ?aO ?aB ?aS ?aL ?_; (case aP => exact rfl); (case aB => exact (by repeat (first | (with_reducible first | exact HB.out | apply below_alloc | apply pw_below_drewN | apply below_drew1) | exact HB.out))); (case aF => exact (fun _ _ => trivial)); (case aO => exact (by (with_reducible repeat (first | apply Kd.R_alloc | apply Kd.R_drewN | apply Kd.R_drew)); exact HO_3.out)); (case aS => exact (below_size (by repeat (first | (with_reducible first | exact HB.out | apply below_alloc | apply pw_below_drewN | apply below_drew1) | exact HB.out)))); (case aL => have := LMc5.out; omega); intro v411 w6 ho hb hg hat; rw [← Ny410.out] at ho; have n0_ := Aside0.mk (hb); have n1_ := Aside0.mk (ho); clear HB; clear HO_3; have HB := n0_; have HO412 := n1_; clear n0_ n1_; clear ho hb hg hat))
              go_roundg k1
              case measure => have := HK1.out; omega
              case rel => exact ⟨(y410), (wrap64 (x4_1 + 1)), (by first | rfl | (simp; done) | (simp [*]; done)), H', ⟨by have := HK1.out; omega⟩, ⟨by (with_reducible repeat (first | apply Kd.R_alloc | apply Kd.R_drewN | apply Kd.R_drew)); exact HO412.out⟩, ⟨by repeat (first | (with_reducible first | exact HB.out | apply below_alloc | apply pw_below_drewN | apply below_drew1) | exact HB.out)⟩⟩
            · rw [if_neg c5] at H
              exact absurd H (by simp)
          · rw [if_neg c4] at H
            exact absurd H (by simp)
        · rw [if_neg c3] at H
          have c3b0 : decide (x4_1 < 8) = false := decide_eq_false c3
          clear c3
          by_cases c7 : (x3_1.length : Int) = 0
          · rw [if_pos c7] at H
            have c7b0 : ((x3_1.length : Int) == 0) = true := beq_iff_eq.mpr c7
            have c7b1 : ((x3_1.length : Int) != 0) = false := bne_eq_false_iff_eq.mpr c7
            clear c7
            obtain ⟨y413, hy413⟩ : ∃ y_ : List Int, y_ = (([0] : List Int)) := ⟨_, rfl⟩
            replace H : (some y413) = some r := by first | (rw [hy413]; with_reducible exact H) | (have H2_ := (Option.bind_some _ _).symm.trans H; rw [hy413]; with_reducible exact H2_) | (have H2_ := (Option.bind_some _ _).symm.trans H; with_reducible exact H2_) | with_reducible exact H | (rw [hy413]; exact H) | exact H
            have Ny413 := Aside0.mk hy413
            clear hy413
            obtain rfl := Option.some.inj H
            obtain ⟨Ao8, co8, eo8⟩ := Kd.R_slice HO_3.out
            subst eo8
            go_wp2_with (first | ((with_reducible refine gate_dst (N := 27) rfl ?_); refine Kd.R_lit (Kd.int .i64) _ 3 ?hg (N := 27) ?hd (xs := ([0] : List Int)) (inner := [.int .i64 0]) (ok := fun _ => True) (okp := fun _ => True) ?hr ?hp (fun _ hk => hk) trivial (Below.refl _ _) (Nat.le_refl _) (by simp) ?_; (case hd => rfl); (case hg => rfl); (case hr => first | (go_simp; done) | (go_simp; rfl)); (case hp => exact (Reps.one (show Kd.M (Kd.int .i64) _ _ _ 0 [.int .i64 0] from rfl) (Reps.none _ _))); intro v414 w9 ho10 hb hg_ hnew_; clear hg_ hnew_; (first | rw [← Ny413.out] at ho10 | (simp only [Int.reduceToNat] at ho10; rw [← Ny413.out] at ho10)); have n0_ := Aside0.mk (Kd.R_elder' (by (with_reducible repeat (first | apply Kd.R_alloc | apply Kd.R_drewN | apply Kd.R_drew)); exact HO_3.out) (Kd.R_base ho10) hb); have n1_ := Aside0.mk (Kd.R_lower (Kd.R_new' ho10 (Kd.R_lt (by (with_reducible repeat (first | apply Kd.R_alloc | apply Kd.R_drewN | apply Kd.R_drew)); exact HO_3.out))) (below_size (by repeat (first | (with_reducible first | exact HB.out | apply below_alloc | apply pw_below_drewN | apply below_drew1) | exact HB.out)))); have n2_ := Aside0.mk (below_step (by repeat (first | (with_reducible first | exact HB.out | apply below_alloc | apply pw_below_drewN | apply below_drew1) | exact HB.out)) hb); clear HO_3; clear HB; have HO_3 := n0_; have HO415 := n1_; have HB := n2_; clear n0_ n1_ n2_; clear hb ho10))
            go_ret
            exact ⟨_, by first | rfl | (simp [errW_none, errW_some] <;> rfl) | (simp [*, errW_none, errW_some] <;> rfl), by (with_reducible repeat (first | apply Kd.R_alloc | apply Kd.R_drewN | apply Kd.R_drew)); exact Kd.R_mono HO415.out (fun _ hk => trivial), by repeat (first | (with_reducible first | exact HB.out | apply below_alloc | apply pw_below_drewN | apply below_drew1) | exact HB.out)⟩
          · rw [if_neg c7] at H
            have c7b0 : ((x3_1.length : Int) == 0) = false := beq_eq_false_iff_ne.mpr c7
            have c7b1 : ((x3_1.length : Int) != 0) = true := bne_iff_ne.mpr c7
            have c7b2 : ¬ (x3_1 = []) := fun h_ => c7 (by rw [h_]; rfl)
            obtain rfl := Option.some.inj H
            obtain ⟨Ao11, co11, eo11⟩ := Kd.R_slice HO_3.out
            subst eo11
            go_wp2
            go_ret
            exact ⟨_, by first | rfl | (simp [errW_none, errW_some] <;> rfl) | (simp [*, errW_none, errW_some] <;> rfl), by (with_reducible repeat (first | apply Kd.R_alloc | apply Kd.R_drewN | apply Kd.R_drew)); exact HO_3.out, by repeat (first | (with_reducible first | exact HB.out | apply below_alloc | apply pw_below_drewN | apply below_drew1) | exact HB.out)⟩
      · rw [if_neg c2] at H
        have c2b0 : decide (x4_1 < (l0.length : Int)) = false := decide_eq_false c2
        clear c2
        by_cases c12 : (x3_1.length : Int) = 0
        · rw [if_pos c12] at H
          have c12b0 : ((x3_1.length : Int) == 0) = true := beq_iff_eq.mpr c12
          have c12b1 : ((x3_1.length : Int) != 0) = false := bne_eq_false_iff_eq.mpr c12
          clear c12
          obtain ⟨y416, hy416⟩ : ∃ y_ : List Int, y_ = (([0] : List Int)) := ⟨_, rfl⟩
          replace H : (some y416) = some r := by first | (rw [hy416]; with_reducible exact H) | (have H2_ := (Option.bind_some _ _).symm.trans H; rw [hy416]; with_reducible exact H2_) | (have H2_ := (Option.bind_some _ _).symm.trans H; with_reducible exact H2_) | with_reducible exact H | (rw [hy416]; exact H) | exact H
          have Ny416 := Aside0.mk hy416
          clear hy416
          obtain rfl := Option.some.inj H
          obtain ⟨Ao13, co13, eo13⟩ := Kd.R_slice HO_3.out
          subst eo13
          go_wp2_with (first | ((with_reducible refine gate_dst (N := 27) rfl ?_); refine Kd.R_lit (Kd.int .i64) _ 3 ?hg (N := 27) ?hd (xs := ([0] : List Int)) (inner := [.int .i64 0]) (ok := fun _ => True) (okp := fun _ => True) ?hr ?hp (fun _ hk => hk) trivial (Below.refl _ _) (Nat.le_refl _) (by simp) ?_; (case hd => rfl); (case hg => rfl); (case hr => first | (go_simp; done) | (go_simp; rfl)); (case hp => exact (Reps.one (show Kd.M (Kd.int .i64) _ _ _ 0 [.int .i64 0] from rfl) (Reps.none _ _))); intro v417 w14 ho15 hb hg_ hnew_; clear hg_ hnew_; (first | rw [← Ny416.out] at ho15 | (simp only [Int.reduceToNat] at ho15; rw [← Ny416.out] at ho15)); have n0_ := Aside0.mk (Kd.R_elder' (by (with_reducible repeat (first | apply Kd.R_alloc | apply Kd.R_drewN | apply Kd.R_drew)); exact HO_3.out) (Kd.R_base ho15) hb); have n1_ := Aside0.mk (Kd.R_lower (Kd.R_new' ho15 (Kd.R_lt (by (with_reducible repeat (first | apply Kd.R_alloc | apply Kd.R_drewN | apply Kd.R_drew)); exact HO_3.out))) (below_size (by repeat (first | (with_reducible first | exact HB.out | apply below_alloc | apply pw_below_drewN | apply below_drew1) | exact HB.out)))); have n2_ := Aside0.mk (below_step (by repeat (first | (with_reducible first | exact HB.out | apply below_alloc | apply pw_below_drewN | apply below_drew1) | exact HB.out)) hb); clear HO_3; clear HB; have HO_3 := n0_; have HO418 := n1_; have HB := n2_; clear n0_ n1_ n2_; clear hb ho15))
          go_ret
          exact ⟨_, by first | rfl | (simp [errW_none, errW_some] <;> rfl) | (simp [*, errW_none, errW_some] <;> rfl), by (with_reducible repeat (first | apply Kd.R_alloc | apply Kd.R_drewN | apply Kd.R_drew)); exact Kd.R_mono HO418.out (fun _ hk => trivial), by repeat (first | (with_reducible first | exact HB.out | apply below_alloc | apply pw_below_drewN | apply below_drew1) | exact HB.out)⟩
        · rw [if_neg c12] at H
          have c12b0 : ((x3_1.length : Int) == 0) = false := beq_eq_false_iff_ne.mpr c12
          have c12b1 : ((x3_1.length : Int) != 0) = true := bne_iff_ne.mpr c12
          have c12b2 : ¬ (x3_1 = []) := fun h_ => c12 (by rw [h_]; rfl)
          obtain rfl := Option.some.inj H
          obtain ⟨Ao16, co16, eo16⟩ := Kd.R_slice HO_3.out
          subst eo16
          go_wp2
          go_ret
          exact ⟨_, by first | rfl | (simp [errW_none, errW_some] <;> rfl) | (simp [*, errW_none, errW_some] <;> rfl), by (with_reducible repeat (first | apply Kd.R_alloc | apply Kd.R_drewN | apply Kd.R_drew)); exact HO_3.out, by repeat (first | (with_reducible first | exact HB.out | apply below_alloc | apply pw_below_drewN | apply below_drew1) | exact HB.out)⟩
end Go.Proofs.Ytpfkfbbekfkcgaa.P
end
section
namespace Go.Proofs.Ytpfkfbbekfkcgaa.P
open Go.RowKit Go.Proofs.YtpfkfbbekfkcgaaW.PrintWords Go.Proofs.YtpfkfbbekfkcgaaW.PrintLast Go.Proofs.YtpfkfbbekfkcgaaW.PrintMore
attribute [local go_sem] max2_int min2_int max_two min_two max_three min_three max_four min_four
set_option linter.unusedVariables false
set_option linter.unusedSimpArgs false
mutual
def pianolalaw09_VaultWrong.j0 : Nat → List Int → List (S64) → Int → List Int → Option (Bool)
  | 0, _, _, _, _ => none
  | k + 1, x1, x2, x3, x9 => (pianolalaw09_some.f k x9 x1 (wrap64 ((x9.length : Int) + (wrap64 (2 * (Int.tmod (wrap64 (x3)) 4)))))).bind fun t617 => (if (t617.length : Int) > 11 then (if 11 ≤ (t617.length : Int) then (pianolalaw09_VaultWrong.j1 k x2 x9 (Int.tmod (wrap64 (x3)) 4) (t617.take (11 : Int).toNat)) else (none)) else (pianolalaw09_VaultWrong.j1 k x2 x9 (Int.tmod (wrap64 (x3)) 4) t617))
def pianolalaw09_VaultWrong.j1 : Nat → List (S64) → List Int → Int → List (S61) → Option (Bool)
  | 0, _, _, _, _ => none
  | k + 1, x2, x9, x10, x11 => if 21 ≤ 281474976710656 then (pianolalaw09_VaultWrong.l0 k x2 x9 x10 x11 (List.replicate 21 false) 0) else (none)
def pianolalaw09_VaultWrong.l0 : Nat → List (S64) → List Int → Int → List (S61) → List Bool → Int → Option (Bool)
  | 0, _, _, _, _, _, _ => none
  | k + 1, x2, x9, x10, x11, x12, x13 => if x13 < (x2.length : Int) then (pianolalaw09_VaultWrong.j3 k x2 x9 x10 x11 x12 x13 (decide (x13 < x10))) else (pianolalaw09_VaultWrong.j3 k x2 x9 x10 x11 x12 x13 false)
def pianolalaw09_VaultWrong.j3 : Nat → List (S64) → List Int → Int → List (S61) → List Bool → Int → Bool → Option (Bool)
  | 0, _, _, _, _, _, _, _ => none
  | k + 1, x2, x9, x10, x11, x12, x13, x57 => if x57 = true then (if 0 ≤ x13 then (if x13 < (x2.length : Int) then (if (x11.length : Int) = 0 then (none) else (if 0 ≤ (Int.tmod (wrap64 ((rd_T64 x2 x13).f0)) (x11.length : Int)) then (if (Int.tmod (wrap64 ((rd_T64 x2 x13).f0)) (x11.length : Int)) < (x11.length : Int) then (if 0 ≤ ((rd_T61 x11 (Int.tmod (wrap64 ((rd_T64 x2 x13).f0)) (x11.length : Int))).f0) then (if ((rd_T61 x11 (Int.tmod (wrap64 ((rd_T64 x2 x13).f0)) (x11.length : Int))).f0) < (x12.length : Int) then (if (rdOf false x12 ((rd_T61 x11 (Int.tmod (wrap64 ((rd_T64 x2 x13).f0)) (x11.length : Int))).f0) = true) then (pianolalaw09_VaultWrong.l0 k x2 x9 x10 x11 x12 (wrap64 (x13 + 1))) else (pianolalaw09_VaultWrong.l0 k x2 x9 x10 (x11.set ((Int.tmod (wrap64 ((rd_T64 x2 x13).f0)) (x11.length : Int)) : Int).toNat (⟨(rd_T61 x11 (Int.tmod (wrap64 ((rd_T64 x2 x13).f0)) (x11.length : Int))).f0, Int.tmod (wrap64 ((wrap64 (((rd_T61 x11 (Int.tmod (wrap64 ((rd_T64 x2 x13).f0)) (x11.length : Int))).f1) + 1)) + (Int.tmod (wrap64 ((rd_T64 x2 x13).f1)) 250))) 251⟩ : S61)) (x12.set (((rd_T61 x11 (Int.tmod (wrap64 ((rd_T64 x2 x13).f0)) (x11.length : Int))).f0) : Int).toNat true) (wrap64 (x13 + 1)))) else (none)) else (none)) else (none)) else (none))) else (none)) else (none)) else (pianolalaw09_VaultWrong.l1 k x9 x10 x11 x12 ([] : List Int) x12 (x12.length : Int) 0)
def pianolalaw09_VaultWrong.l1 : Nat → List Int → Int → List (S61) → List Bool → List Int → List Bool → Int → Int → Option (Bool)
  | 0, _, _, _, _, _, _, _, _ => none
  | k + 1, x9, x10, x11, x12, x15, x104, x105, x106 => if x106 < x105 then (if 0 ≤ x106 then (if x106 < (x104.length : Int) then (if rdOf false x104 x106 = true then (if x15.length < 17592186044416 then (pianolalaw09_VaultWrong.l1 k x9 x10 x11 x12 (x15 ++ [x106]) x104 x105 (wrap64 (x106 + 1))) else (none)) else (pianolalaw09_VaultWrong.l1 k x9 x10 x11 x12 x15 x104 x105 (wrap64 (x106 + 1)))) else (none)) else (none)) else (pianolalaw09_VaultWrong.l2 k x9 x10 x11 x12 x15 ([] : List (S61)) x11 (x11.length : Int) 0)
def pianolalaw09_VaultWrong.l2 : Nat → List Int → Int → List (S61) → List Bool → List Int → List (S61) → List (S61) → Int → Int → Option (Bool)
  | 0, _, _, _, _, _, _, _, _, _ => none
  | k + 1, x9, x10, x11, x12, x15, x16, x117, x118, x119 => if x119 < x118 then (if 0 ≤ x119 then (if x119 < (x117.length : Int) then (if 0 ≤ ((rd_T61 x117 x119).f0) then (if ((rd_T61 x117 x119).f0) < (x12.length : Int) then (if (rdOf false x12 ((rd_T61 x117 x119).f0) = true) then (pianolalaw09_VaultWrong.l2 k x9 x10 x11 x12 x15 x16 x117 x118 (wrap64 (x119 + 1))) else (if x16.length < 8796093022208 then (pianolalaw09_VaultWrong.l2 k x9 x10 x11 x12 x15 (x16 ++ [(⟨(rd_T61 x117 x119).f0, (rd_T61 x117 x119).f1⟩ : S61)]) x117 x118 (wrap64 (x119 + 1))) else (none))) else (none)) else (none)) else (none)) else (none)) else ((vault_Wrong.f (x9.length : Int) x10 x11).bind fun bt644 => ((vault_Secret.f (x9.length : Int) x16).bind fun bt648 => (if bt644.2 = 0 then (if bt648.2 = 0 then ((pianolalaw09_numbers.f k bt644.1 x15).bind fun t650 => (if t650 = true then (if 0 < (x9.length : Int) then (if bt648.1 = (rd x9 0) then ((pianolalaw09_works.f).bind fun t652 => (some t652)) else (some false)) else (none)) else (some false))) else (some false)) else (some false))))
end
def pianolalaw09_VaultWrong.f (k : Nat) (l0 : List Int) (l1 : List Int) (l2 : List (S64)) (a3 : Int) : Option (Bool) := (pianolalaw09_Lock_made.f k l0).bind fun t611 => (if (t611.length : Int) > 4 then (if 4 ≤ (t611.length : Int) then (pianolalaw09_VaultWrong.j0 k l1 l2 a3 (t611.take (4 : Int).toNat)) else (none)) else (pianolalaw09_VaultWrong.j0 k l1 l2 a3 t611))
def pianolalaw09_VaultWrong.T15 : Bool × List (List Nat × List Nat) := (true, [([], []), ([], []), ([], []), ([], []), ([2, 3], [2, 3]), ([4], [4]), ([5], [5]), ([6], [6]), ([], []), ([], []), ([8, 9], [8, 9]), ([10], [10]), ([11], [11]), ([12], [12]), ([13], [13]), ([7, 14], [7, 14]), ([15], [15]), ([0, 1, 0, 1, 2, 3, 4, 5, 6, 7, 8, 9, 10, 11, 12, 13, 14, 15, 16], [0, 1]), ([17, 0, 1, 2, 3, 4, 5, 6, 7, 8, 9, 10, 11, 12, 13, 14, 15, 16], [17]), ([18, 16, 0, 1, 2, 3, 4, 5, 6, 7, 8, 9, 10, 11, 12, 13, 14, 15, 16], [16, 18])])
def pianolalaw09_VaultWrong.B15 : List Nat := [0, 0, 0, 0, 12, 28, 60, 124, 0, 0, 768, 1792, 3840, 7936, 16128, 32764, 65532, 131071, 262143, 524287]
theorem pianolalaw09_VaultWrong.tab15 : rtab .any (opsOf Try.f12 15) = pianolalaw09_VaultWrong.T15 := by kernel_rfl
theorem pianolalaw09_VaultWrong.bits15 : waitsOk pianolalaw09_VaultWrong.T15.2 pianolalaw09_VaultWrong.B15 = true := by kernel_rfl
set_option maxHeartbeats 8000000 in
set_option maxRecDepth 100000 in
theorem pianolalaw09_VaultWrong.calls (k : Nat) (A0 : Option Addr) (c0 : Nat) (l0 : List Int) (A1 : Option Addr) (c1 : Nat) (l1 : List Int) (A2 : Option Addr) (c2 : Nat) (l2 : List (S64)) (a3 : Int) (r : Bool) (w : World) (hr0 : Kd.C (Kd.int .u8) w A0 l0.length l0) (hc0 : l0.length ≤ c0) (hr1 : Kd.C (Kd.int .u8) w A1 l1.length l1) (hc1 : l1.length ≤ c1) (hr2 : Kd.C k64 w A2 l2.length l2) (hc2 : l2.length ≤ c2) (h : pianolalaw09_VaultWrong.f k l0 l1 l2 a3 = some r) :
    Calls Try.prog 12 #[.slice A0 l0.length c0, .slice A1 l1.length c1, .slice A2 l2.length c2, .int .u8 a3] w fun e w' => e = .returned (.bool r) ∧ Below w.heap.size w w' := by
  have hu61 := Try.underlying61
  have HR0 := Aside0.mk hr0
  have HC0 := Aside0.mk hc0
  clear hr0 hc0
  have HR1 := Aside0.mk hr1
  have HC1 := Aside0.mk hc1
  clear hr1 hc1
  have HR2 := Aside0.mk hr2
  have HC2 := Aside0.mk hc2
  clear hr2 hc2
  have HB := Aside0.mk (Below.refl w.heap.size w)
  have H : ((pianolalaw09_Lock_made.f k l0).bind fun t611 => (if (t611.length : Int) > 4 then (if 4 ≤ (t611.length : Int) then (pianolalaw09_VaultWrong.j0 k l1 l2 a3 (t611.take (4 : Int).toNat)) else (none)) else (pianolalaw09_VaultWrong.j0 k l1 l2 a3 t611))) = some r := h
  clear h
  replace H := Option.bind_eq_some_iff.mp H
  obtain ⟨t611, A50, H⟩ := H
  replace H : (if (t611.length : Int) > 4 then (if 4 ≤ (t611.length : Int) then (pianolalaw09_VaultWrong.j0 k l1 l2 a3 (t611.take (4 : Int).toNat)) else (none)) else (pianolalaw09_VaultWrong.j0 k l1 l2 a3 t611)) = some r := H
  have A5 := Aside0.mk A50
  clear A50
  have HC6 := Aside0.mk H
  clear H
  go_enter Try.func12, Try.ntmps12
  go_upto_if 29 with (first | ((with_reducible refine gate_callee (f := 41) rfl ?_); refine goesL_ (some 26) rfl rfl Try.func41 (by kernel_rfl) rfl #[.slice A0 l0.length c0] rfl (by (try simp only [List.map_toArray, List.map_cons, List.map_nil]); first | done | rfl | (simp only [List.length_drop, List.length_take]; rfl)) ?_; (with_reducible refine (pianolalaw09_Lock_made.calls k _ _ l0 t611 _ ?side1 ?side2 A5.out).mono ?_); (case side1 => repeat (first | exact HR0.out | (with_reducible refine Kd.C_alloc ?_ _) | (with_reducible refine Kd.C_drewN ?_ _) | (with_reducible refine Kd.C_drew ?_))); (case side2 => exact HC0.out); rintro e w7 ⟨v612, rfl, ho0, hb⟩; refine ⟨_, rfl, ?_⟩; have n0_ := Aside0.mk (Kd.R_lower ho0 (below_size (by repeat (first | (with_reducible first | exact HB.out | apply below_alloc | apply pw_below_drewN | apply below_drew1) | exact HB.out)))); have n1_ := Aside0.mk (below_step (by repeat (first | (with_reducible first | exact HB.out | apply below_alloc | apply pw_below_drewN | apply below_drew1) | exact HB.out)) hb); clear HB; have HO613 := n0_; have HB := n1_; clear n0_ n1_; (try clear hb); (try clear hb2); (try clear hk); (try clear hi); (try clear ho0); obtain ⟨Ao8, co8, eo8⟩ := Kd.R_slice HO613.out; subst eo8))
  (try simp only [Act.put, List.setIfInBounds_toArray, List.set_cons_zero, List.set_cons_succ])
  go_cut [9] (fun v9 wc => ∃ (kq : Nat) (x9_5 : List Int), Aside0 (pianolalaw09_VaultWrong.j0 kq l1 l2 a3 x9_5 = some r) ∧ Aside0 (kq ≤ k) ∧ Aside0 (Kd.R (Kd.int .i64) 3 wc w.heap.size (fun _ => True) v9 x9_5) ∧ Aside0 (Below w.heap.size w wc))
  case first =>
    have H := HC6.out
    clear HC6
    by_cases c9 : (t611.length : Int) > 4
    · rw [if_pos c9] at H
      have c9b0 : decide (4 < (t611.length : Int)) = true := decide_eq_true c9
      have c9b1 : decide (4 < t611.length) = true := decide_eq_true (by omega)
      clear c9
      (first | rw [c9b0] | (simp only [i64_w, i32_w]; rw [c9b0]) | skip)
      by_cases c10 : 4 ≤ (t611.length : Int)
      · rw [if_pos c10] at H
        have c10b0 := eq_true c10
        have c10b1 : decide (4 ≤ (t611.length : Int)) = true := decide_eq_true c10
        clear c10
        obtain ⟨y614, hy614⟩ : ∃ y_ : List Int, y_ = (t611.take (4 : Int).toNat) := ⟨_, rfl⟩
        replace H : (pianolalaw09_VaultWrong.j0 k l1 l2 a3 y614) = some r := by first | (rw [hy614]; with_reducible exact H) | (have H2_ := (Option.bind_some _ _).symm.trans H; rw [hy614]; with_reducible exact H2_) | (have H2_ := (Option.bind_some _ _).symm.trans H; with_reducible exact H2_) | with_reducible exact H | (rw [hy614]; exact H) | exact H
        have Ny614 := Aside0.mk hy614
        clear hy614
        have H' := Aside0.mk H
        clear H
        have q11 : (4 : Int) ≤ ((t611.length : Int) : Int) := of_decide_eq_true (by first | (with_reducible assumption) | assumption)
        obtain ⟨i011, hi011, _, hsz11, _⟩ := info_parts info3
        have hcut11 := cut_to (P := Try.prog) 22 3 .i64 Try.underlying22 hi011 Ao8 t611.length co8 4 (by omega) q11 (Kd.R_reads' HO613.out).2.1
        have hr11 := Kd.R_take (m := (4 : Int).toNat) HO613.out (by omega)
        have hy11 : y614.length = (4 : Int).toNat := (by rw [Ny614.out, List.length_take]; omega)
        rw [← Ny614.out] at hr11
        rw [← hy11] at hr11 hcut11
        clear hy11 hi011 hsz11 HO613
        have HO616 := Aside0.mk hr11
        clear hr11
        replace q11 := eq_true q11
        go_wp2
        go_meet
        case rel => exact ⟨_, (y614), H', ⟨by first | omega | exact Nat.le_refl _⟩, ⟨by (with_reducible repeat (first | apply Kd.R_alloc | apply Kd.R_drewN | apply Kd.R_drew)); exact HO616.out⟩, ⟨by repeat (first | (with_reducible first | exact HB.out | apply below_alloc | apply pw_below_drewN | apply below_drew1) | exact HB.out)⟩⟩
      · rw [if_neg c10] at H
        exact absurd H (by simp)
    · rw [if_neg c9] at H
      have c9b0 : decide (4 < (t611.length : Int)) = false := decide_eq_false c9
      have c9b1 : decide (4 < t611.length) = false := decide_eq_false (by omega)
      clear c9
      (first | rw [c9b0] | (simp only [i64_w, i32_w]; rw [c9b0]) | skip)
      have H' := Aside0.mk H
      clear H
      go_wp2
      go_meet
      case rel => exact ⟨_, (t611), H', ⟨by first | omega | exact Nat.le_refl _⟩, ⟨by (with_reducible repeat (first | apply Kd.R_alloc | apply Kd.R_drewN | apply Kd.R_drew)); exact HO613.out⟩, ⟨by repeat (first | (with_reducible first | exact HB.out | apply below_alloc | apply pw_below_drewN | apply below_drew1) | exact HB.out)⟩⟩
  case rest =>
    clear HC6
    try clear c1
    try clear q1
    try clear c2
    try clear p2
    try clear c4
    try clear c9
    try clear c9b0
    try clear c9b1
    try clear c10
    try clear c10b0
    try clear c10b1
    try clear q11
    try clear q11
    obtain ⟨kq, x9_5, HA, HJ5, HO_9, HB⟩ := hcut
    cases kq with
    | zero => exact absurd HA.out (by simp [pianolalaw09_VaultWrong.j0])
    | succ kj5 =>
      have H := HA.out
      clear HA
      simp only [pianolalaw09_VaultWrong.j0] at H
      replace H := Option.bind_eq_some_iff.mp H
      obtain ⟨t617, A120, H⟩ := H
      replace H : (if (t617.length : Int) > 11 then (if 11 ≤ (t617.length : Int) then (pianolalaw09_VaultWrong.j1 kj5 l2 x9_5 (Int.tmod (wrap64 (a3)) 4) (t617.take (11 : Int).toNat)) else (none)) else (pianolalaw09_VaultWrong.j1 kj5 l2 x9_5 (Int.tmod (wrap64 (a3)) 4) t617)) = some r := H
      have A12 := Aside0.mk A120
      clear A120
      have HC13 := Aside0.mk H
      clear H
      obtain ⟨Ao14, co14, eo14⟩ := Kd.R_slice HO_9.out
      subst eo14
      go_upto_if 45 with (first | ((with_reducible refine gate_callee (f := 42) rfl ?_); refine goesL_ (some 42) rfl rfl Try.func42 (by kernel_rfl) rfl #[.slice Ao14 x9_5.length co14, .slice A1 l1.length c1, .int .i64 (wrap64 ((x9_5.length : Int) + (wrap64 (2 * (Int.tmod (wrap64 (a3)) 4)))))] rfl (by (try simp only [List.map_toArray, List.map_cons, List.map_nil]); first | done | rfl | (simp only [List.length_drop, List.length_take]; rfl)) ?_; (with_reducible refine (pianolalaw09_some.calls kj5 _ _ x9_5 _ _ l1 (wrap64 ((x9_5.length : Int) + (wrap64 (2 * (Int.tmod (wrap64 (a3)) 4))))) t617 _ ?side1 ?side2 ?side3 ?side4 A12.out).mono ?_); (case side1 => repeat (first | exact (Kd.R_reads' HO_9.out).2.2 | (with_reducible refine Kd.C_alloc ?_ _) | (with_reducible refine Kd.C_drewN ?_ _) | (with_reducible refine Kd.C_drew ?_))); (case side2 => exact (Kd.R_reads' HO_9.out).2.1); (case side3 => repeat (first | exact (Kd.C_below HR1.out HB.out) | (with_reducible refine Kd.C_alloc ?_ _) | (with_reducible refine Kd.C_drewN ?_ _) | (with_reducible refine Kd.C_drew ?_))); (case side4 => exact HC1.out); rintro e w15 ⟨v618, rfl, ho0, hb⟩; refine ⟨_, rfl, ?_⟩; have n0_ := Aside0.mk (Kd.R_below (by (with_reducible repeat (first | apply Kd.R_alloc | apply Kd.R_drewN | apply Kd.R_drew)); exact HO_9.out) hb); have n1_ := Aside0.mk (Kd.R_lower ho0 (below_size (by repeat (first | (with_reducible first | exact HB.out | apply below_alloc | apply pw_below_drewN | apply below_drew1) | exact HB.out)))); have n2_ := Aside0.mk (below_step (by repeat (first | (with_reducible first | exact HB.out | apply below_alloc | apply pw_below_drewN | apply below_drew1) | exact HB.out)) hb); clear HO_9; clear HB; have HO_9 := n0_; have HO619 := n1_; have HB := n2_; clear n0_ n1_ n2_; (try clear hb); (try clear hb2); (try clear hk); (try clear hi); (try clear ho0); obtain ⟨Ao16, co16, eo16⟩ := Kd.R_slice HO619.out; subst eo16))
      (try simp only [Act.put, List.setIfInBounds_toArray, List.set_cons_zero, List.set_cons_succ])
      go_cut [11] (fun v11 wc => ∃ (kq : Nat) (x11_12 : List (S61)), Aside0 (pianolalaw09_VaultWrong.j1 kq l2 x9_5 (Int.tmod (wrap64 (a3)) 4) x11_12 = some r) ∧ Aside0 (kq ≤ kj5) ∧ Aside0 (Kd.R (Kd.int .i64) 3 wc w.heap.size (fun _ => True) (.slice Ao14 x9_5.length co14) x9_5) ∧ Aside0 (Kd.R k61 61 wc w.heap.size (fun _ => True) v11 x11_12) ∧ Aside0 (Below w.heap.size w wc))
      case first =>
        have H := HC13.out
        clear HC13
        by_cases c17 : (t617.length : Int) > 11
        · rw [if_pos c17] at H
          have c17b0 : decide (11 < (t617.length : Int)) = true := decide_eq_true c17
          have c17b1 : decide (11 < t617.length) = true := decide_eq_true (by omega)
          clear c17
          (first | rw [c17b0] | (simp only [i64_w, i32_w]; rw [c17b0]) | skip)
          by_cases c18 : 11 ≤ (t617.length : Int)
          · rw [if_pos c18] at H
            have c18b0 := eq_true c18
            have c18b1 : decide (11 ≤ (t617.length : Int)) = true := decide_eq_true c18
            clear c18
            obtain ⟨y620, hy620⟩ : ∃ y_ : List (S61), y_ = (t617.take (11 : Int).toNat) := ⟨_, rfl⟩
            replace H : (pianolalaw09_VaultWrong.j1 kj5 l2 x9_5 (Int.tmod (wrap64 (a3)) 4) y620) = some r := by first | (rw [hy620]; with_reducible exact H) | (have H2_ := (Option.bind_some _ _).symm.trans H; rw [hy620]; with_reducible exact H2_) | (have H2_ := (Option.bind_some _ _).symm.trans H; with_reducible exact H2_) | with_reducible exact H | (rw [hy620]; exact H) | exact H
            have Ny620 := Aside0.mk hy620
            clear hy620
            have H' := Aside0.mk H
            clear H
            have q19 : (11 : Int) ≤ ((t617.length : Int) : Int) := of_decide_eq_true (by first | (with_reducible assumption) | assumption)
            obtain ⟨i019, hi019, _, hsz19, _⟩ := info_parts info61
            have hcut19 := cut_to (P := Try.prog) 28 61 .i64 Try.underlying28 hi019 Ao16 t617.length co16 11 (by omega) q19 (Kd.R_reads' HO619.out).2.1
            have hr19 := Kd.R_take (m := (11 : Int).toNat) HO619.out (by omega)
            have hy19 : y620.length = (11 : Int).toNat := (by rw [Ny620.out, List.length_take]; omega)
            rw [← Ny620.out] at hr19
            rw [← hy19] at hr19 hcut19
            clear hy19 hi019 hsz19 HO619
            have HO622 := Aside0.mk hr19
            clear hr19
            replace q19 := eq_true q19
            go_wp2
            go_meet
            case rel => exact ⟨_, (y620), H', ⟨by have := HJ5.out; first | omega | exact Nat.le_refl _⟩, ⟨by (with_reducible repeat (first | apply Kd.R_alloc | apply Kd.R_drewN | apply Kd.R_drew)); exact HO_9.out⟩, ⟨by (with_reducible repeat (first | apply Kd.R_alloc | apply Kd.R_drewN | apply Kd.R_drew)); exact HO622.out⟩, ⟨by repeat (first | (with_reducible first | exact HB.out | apply below_alloc | apply pw_below_drewN | apply below_drew1) | exact HB.out)⟩⟩
          · rw [if_neg c18] at H
            exact absurd H (by simp)
        · rw [if_neg c17] at H
          have c17b0 : decide (11 < (t617.length : Int)) = false := decide_eq_false c17
          have c17b1 : decide (11 < t617.length) = false := decide_eq_false (by omega)
          clear c17
          (first | rw [c17b0] | (simp only [i64_w, i32_w]; rw [c17b0]) | skip)
          have H' := Aside0.mk H
          clear H
          go_wp2
          go_meet
          case rel => exact ⟨_, (t617), H', ⟨by have := HJ5.out; first | omega | exact Nat.le_refl _⟩, ⟨by (with_reducible repeat (first | apply Kd.R_alloc | apply Kd.R_drewN | apply Kd.R_drew)); exact HO_9.out⟩, ⟨by (with_reducible repeat (first | apply Kd.R_alloc | apply Kd.R_drewN | apply Kd.R_drew)); exact HO619.out⟩, ⟨by repeat (first | (with_reducible first | exact HB.out | apply below_alloc | apply pw_below_drewN | apply below_drew1) | exact HB.out)⟩⟩
      case rest =>
        clear HC13
        try clear c1
        try clear q1
        try clear c2
        try clear p2
        try clear c4
        try clear p6
        try clear c9
        try clear c9b0
        try clear c9b1
        try clear c10
        try clear c10b0
        try clear c10b1
        try clear q11
        try clear c12
        try clear c17
        try clear c17b0
        try clear c17b1
        try clear c18
        try clear c18b0
        try clear c18b1
        try clear q19
        try clear p2
        try clear q1
        try clear q11
        try clear q19
        obtain ⟨kq, x11_12, HA, HJ12, HO_9, HO_11, HB⟩ := hcut
        cases kq with
        | zero => exact absurd HA.out (by simp [pianolalaw09_VaultWrong.j1])
        | succ kj12 =>
          have H := HA.out
          clear HA
          simp only [pianolalaw09_VaultWrong.j1] at H
          by_cases c20 : 21 ≤ 281474976710656
          · rw [if_pos c20] at H
            have c20b0 := eq_true c20
            have c20b1 : decide (21 ≤ 281474976710656) = true := decide_eq_true c20
            clear c20
            obtain ⟨y623, hy623⟩ : ∃ y_ : List Bool, y_ = (List.replicate 21 false) := ⟨_, rfl⟩
            replace H : (pianolalaw09_VaultWrong.l0 kj12 l2 x9_5 (Int.tmod (wrap64 (a3)) 4) x11_12 y623 0) = some r := by first | (rw [hy623]; with_reducible exact H) | (have H2_ := (Option.bind_some _ _).symm.trans H; rw [hy623]; with_reducible exact H2_) | (have H2_ := (Option.bind_some _ _).symm.trans H; with_reducible exact H2_) | with_reducible exact H | (rw [hy623]; exact H) | exact H
            have Ny623 := Aside0.mk hy623
            clear hy623
            have H' := Aside0.mk H
            clear H
            go_wp2_with (first | ((with_reducible refine gate_dst (N := 48) rfl ?_); refine Kd.R_make Kd.bool _ 4 rfl (N := 48) rfl 75 _ _ rfl 21 rfl rfl Try.underlying75 (.bool false) 1 info4 rfl (by decide) (by omega) false (ok := fun _ => True) (okp := fun _ => True) rfl (fun _ hk => hk) trivial (by omega) (by omega) (Below.refl _ _) (Nat.le_refl _) ?_; intro v624 w21 ho22 hb hg_ hnew_; clear hg_ hnew_; (first | rw [← Ny623.out] at ho22 | (simp only [Int.reduceToNat] at ho22; rw [← Ny623.out] at ho22)); have n0_ := Aside0.mk (Kd.R_below (by (with_reducible repeat (first | apply Kd.R_alloc | apply Kd.R_drewN | apply Kd.R_drew)); exact HO_9.out) hb); have n1_ := Aside0.mk (Kd.R_below (by (with_reducible repeat (first | apply Kd.R_alloc | apply Kd.R_drewN | apply Kd.R_drew)); exact HO_11.out) hb); have n2_ := Aside0.mk (Kd.R_lower ho22 (below_size (by repeat (first | (with_reducible first | exact HB.out | apply below_alloc | apply pw_below_drewN | apply below_drew1) | exact HB.out)))); have n3_ := Aside0.mk (below_step (by repeat (first | (with_reducible first | exact HB.out | apply below_alloc | apply pw_below_drewN | apply below_drew1) | exact HB.out)) hb); clear HO_9; clear HO_11; clear HB; have HO_9 := n0_; have HO_11 := n1_; have HO625 := n2_; have HB := n3_; clear n0_ n1_ n2_ n3_; clear hb ho22))
            go_loopg [13] kj12 (fun kq v13 w' => ∃ (x11_3 : List (S61)) (x12_3 : List Bool) (x13_3 : Int), v13 = .int .i64 x13_3 ∧ Aside0 (pianolalaw09_VaultWrong.l0 kq l2 x9_5 (Int.tmod (wrap64 (a3)) 4) x11_3 x12_3 x13_3 = some r) ∧ Aside0 (kq ≤ kj12) ∧ Aside0 (Kd.R (Kd.int .i64) 3 w' w.heap.size (fun _ => True) (.slice Ao14 x9_5.length co14) x9_5) ∧ Aside0 (Kd.R k61 61 w' w.heap.size (fun _ => True) u11 x11_3) ∧ Aside0 (Kd.R Kd.bool 4 w' w.heap.size (fun _ => True) v624 x12_3) ∧ Aside0 (Below w.heap.size w w'))
            case atStart => exact ⟨(x11_12), (y623), (0), (by first | rfl | (simp; done) | (simp [*]; done)), H', ⟨Nat.le_refl _⟩, ⟨by (with_reducible repeat (first | apply Kd.R_alloc | apply Kd.R_drewN | apply Kd.R_drew)); exact HO_9.out⟩, ⟨by (with_reducible repeat (first | apply Kd.R_alloc | apply Kd.R_drewN | apply Kd.R_drew)); exact HO_11.out⟩, ⟨by (with_reducible repeat (first | apply Kd.R_alloc | apply Kd.R_drewN | apply Kd.R_drew)); exact HO625.out⟩, ⟨by repeat (first | (with_reducible first | exact HB.out | apply below_alloc | apply pw_below_drewN | apply below_drew1) | exact HB.out)⟩⟩
            case round =>
              clear H'
              try clear c1
              try clear q1
              try clear c2
              try clear p2
              try clear c4
              try clear p6
              try clear c9
              try clear c9b0
              try clear c9b1
              try clear c10
              try clear c10b0
              try clear c10b1
              try clear q11
              try clear c12
              try clear c17
              try clear c17b0
              try clear c17b1
              try clear c18
              try clear c18b0
              try clear c18b1
              try clear q19
              try clear c20
              try clear c20b0
              try clear c20b1
              try clear p2
              try clear p6
              try clear q1
              try clear q11
              try clear q19
              obtain ⟨x11_3, x12_3, x13_3, rfl, HA, HK3, HO_9, HO_11, HO_12, HB⟩ := hrel
              cases gk with
              | zero => exact absurd HA.out (by simp [pianolalaw09_VaultWrong.l0])
              | succ k3 =>
                have H := HA.out
                clear HA
                simp only [pianolalaw09_VaultWrong.l0] at H
                have HC23 := Aside0.mk H
                clear H
                go_upto_region 10 with (fail)
                go_cut [57] (fun v57 wc => ∃ (kq : Nat) (x57_22 : Bool), v57 = .bool x57_22 ∧ Aside0 (pianolalaw09_VaultWrong.j3 kq l2 x9_5 (Int.tmod (wrap64 (a3)) 4) x11_3 x12_3 x13_3 x57_22 = some r) ∧ Aside0 (kq ≤ k3) ∧ Aside0 (Kd.R (Kd.int .i64) 3 wc w.heap.size (fun _ => True) (.slice Ao14 x9_5.length co14) x9_5) ∧ Aside0 (Kd.R k61 61 wc w.heap.size (fun _ => True) u11 x11_3) ∧ Aside0 (Kd.R Kd.bool 4 wc w.heap.size (fun _ => True) v624 x12_3) ∧ Aside0 (Below w.heap.size w wc))
                case first =>
                  have H := HC23.out
                  clear HC23
                  by_cases c24 : x13_3 < (l2.length : Int)
                  · rw [if_pos c24] at H
                    have c24b0 : decide (x13_3 < (l2.length : Int)) = true := decide_eq_true c24
                    clear c24
                    (first | rw [c24b0] | (simp only [i64_w, i32_w]; rw [c24b0]) | skip)
                    have H' := Aside0.mk H
                    clear H
                    go_wp2
                    go_meet
                    case rel => exact ⟨_, (decide (x13_3 < (Int.tmod (wrap64 (a3)) 4))), (by first | rfl | (simp; done) | (simp [*]; done)), H', ⟨by have := HJ5.out; have := HJ12.out; have := HK3.out; first | omega | exact Nat.le_refl _⟩, ⟨by (with_reducible repeat (first | apply Kd.R_alloc | apply Kd.R_drewN | apply Kd.R_drew)); exact HO_9.out⟩, ⟨by (with_reducible repeat (first | apply Kd.R_alloc | apply Kd.R_drewN | apply Kd.R_drew)); exact HO_11.out⟩, ⟨by (with_reducible repeat (first | apply Kd.R_alloc | apply Kd.R_drewN | apply Kd.R_drew)); exact HO_12.out⟩, ⟨by repeat (first | (with_reducible first | exact HB.out | apply below_alloc | apply pw_below_drewN | apply below_drew1) | exact HB.out)⟩⟩
                  · rw [if_neg c24] at H
                    have c24b0 : decide (x13_3 < (l2.length : Int)) = false := decide_eq_false c24
                    clear c24
                    (first | rw [c24b0] | (simp only [i64_w, i32_w]; rw [c24b0]) | skip)
                    have H' := Aside0.mk H
                    clear H
                    go_wp2
                    go_meet
                    case rel => exact ⟨_, (false), (by first | rfl | (simp; done) | (simp [*]; done)), H', ⟨by have := HJ5.out; have := HJ12.out; have := HK3.out; first | omega | exact Nat.le_refl _⟩, ⟨by (with_reducible repeat (first | apply Kd.R_alloc | apply Kd.R_drewN | apply Kd.R_drew)); exact HO_9.out⟩, ⟨by (with_reducible repeat (first | apply Kd.R_alloc | apply Kd.R_drewN | apply Kd.R_drew)); exact HO_11.out⟩, ⟨by (with_reducible repeat (first | apply Kd.R_alloc | apply Kd.R_drewN | apply Kd.R_drew)); exact HO_12.out⟩, ⟨by repeat (first | (with_reducible first | exact HB.out | apply below_alloc | apply pw_below_drewN | apply below_drew1) | exact HB.out)⟩⟩
                case rest =>
                  clear HC23
                  try clear c1
                  try clear q1
                  try clear c2
                  try clear p2
                  try clear c4
                  try clear p6
                  try clear c9
                  try clear c9b0
                  try clear c9b1
                  try clear c10
                  try clear c10b0
                  try clear c10b1
                  try clear q11
                  try clear c12
                  try clear c17
                  try clear c17b0
                  try clear c17b1
                  try clear c18
                  try clear c18b0
                  try clear c18b1
                  try clear q19
                  try clear c20
                  try clear c20b0
                  try clear c20b1
                  try clear c24
                  try clear c24b0
                  try clear p2
                  try clear p6
                  try clear q1
                  try clear q11
                  try clear q19
                  obtain ⟨kq, x57_22, rfl, HA, HJ22, HO_9, HO_11, HO_12, HB⟩ := hcut
                  cases kq with
                  | zero => exact absurd HA.out (by simp [pianolalaw09_VaultWrong.j3])
                  | succ kj22 =>
                    have H := HA.out
                    clear HA
                    simp only [pianolalaw09_VaultWrong.j3] at H
                    by_cases c25 : x57_22 = true
                    · subst c25
                      have H1 : (if 0 ≤ x13_3 then (if x13_3 < (l2.length : Int) then (if (x11_3.length : Int) = 0 then (none) else (if 0 ≤ (Int.tmod (wrap64 ((rd_T64 l2 x13_3).f0)) (x11_3.length : Int)) then (if (Int.tmod (wrap64 ((rd_T64 l2 x13_3).f0)) (x11_3.length : Int)) < (x11_3.length : Int) then (if 0 ≤ ((rd_T61 x11_3 (Int.tmod (wrap64 ((rd_T64 l2 x13_3).f0)) (x11_3.length : Int))).f0) then (if ((rd_T61 x11_3 (Int.tmod (wrap64 ((rd_T64 l2 x13_3).f0)) (x11_3.length : Int))).f0) < (x12_3.length : Int) then (if (rdOf false x12_3 ((rd_T61 x11_3 (Int.tmod (wrap64 ((rd_T64 l2 x13_3).f0)) (x11_3.length : Int))).f0) = true) then (pianolalaw09_VaultWrong.l0 kj22 l2 x9_5 (Int.tmod (wrap64 (a3)) 4) x11_3 x12_3 (wrap64 (x13_3 + 1))) else (pianolalaw09_VaultWrong.l0 kj22 l2 x9_5 (Int.tmod (wrap64 (a3)) 4) (x11_3.set ((Int.tmod (wrap64 ((rd_T64 l2 x13_3).f0)) (x11_3.length : Int)) : Int).toNat (⟨(rd_T61 x11_3 (Int.tmod (wrap64 ((rd_T64 l2 x13_3).f0)) (x11_3.length : Int))).f0, Int.tmod (wrap64 ((wrap64 (((rd_T61 x11_3 (Int.tmod (wrap64 ((rd_T64 l2 x13_3).f0)) (x11_3.length : Int))).f1) + 1)) + (Int.tmod (wrap64 ((rd_T64 l2 x13_3).f1)) 250))) 251⟩ : S61)) (x12_3.set (((rd_T61 x11_3 (Int.tmod (wrap64 ((rd_T64 l2 x13_3).f0)) (x11_3.length : Int))).f0) : Int).toNat true) (wrap64 (x13_3 + 1)))) else (none)) else (none)) else (none)) else (none))) else (none)) else (none)) = some r := by rw [if_pos rfl] at H; exact H
                      clear H
                      have H := H1
                      clear H1
                      by_cases c26 : 0 ≤ x13_3
                      · rw [if_pos c26] at H
                        have c26b0 : decide (0 ≤ x13_3) = true := decide_eq_true c26
                        clear c26
                        by_cases c27 : x13_3 < (l2.length : Int)
                        · rw [if_pos c27] at H
                          have c27b0 : decide (x13_3 < (l2.length : Int)) = true := decide_eq_true c27
                          clear c27
                          by_cases c28 : (x11_3.length : Int) = 0
                          · rw [if_pos c28] at H
                            exact absurd H (by simp)
                          · rw [if_neg c28] at H
                            have c28b0 : ((x11_3.length : Int) == 0) = false := beq_eq_false_iff_ne.mpr c28
                            have c28b1 : ((x11_3.length : Int) != 0) = true := bne_iff_ne.mpr c28
                            have c28b2 : ¬ (x11_3 = []) := fun h_ => c28 (by rw [h_]; rfl)
                            obtain ⟨ji29, hji29⟩ : ∃ j_ : Int, (Int.tmod (wrap64 ((rd_T64 l2 x13_3).f0)) (x11_3.length : Int)) = j_ := ⟨_, rfl⟩
                            replace H : (if 0 ≤ (ji29) then (if (ji29) < (x11_3.length : Int) then (if 0 ≤ ((rd_T61 x11_3 (ji29)).f0) then (if ((rd_T61 x11_3 (ji29)).f0) < (x12_3.length : Int) then (if (rdOf false x12_3 ((rd_T61 x11_3 (ji29)).f0) = true) then (pianolalaw09_VaultWrong.l0 kj22 l2 x9_5 (Int.tmod (wrap64 (a3)) 4) x11_3 x12_3 (wrap64 (x13_3 + 1))) else (pianolalaw09_VaultWrong.l0 kj22 l2 x9_5 (Int.tmod (wrap64 (a3)) 4) (x11_3.set ((ji29) : Int).toNat (⟨(rd_T61 x11_3 (ji29)).f0, Int.tmod (wrap64 ((wrap64 (((rd_T61 x11_3 (ji29)).f1) + 1)) + (Int.tmod (wrap64 ((rd_T64 l2 x13_3).f1)) 250))) 251⟩ : S61)) (x12_3.set (((rd_T61 x11_3 (ji29)).f0) : Int).toNat true) (wrap64 (x13_3 + 1)))) else (none)) else (none)) else (none)) else (none)) = some r := by first | (rw [hji29] at H; exact H) | (simp only [hji29] at H ⊢; exact H)
                            by_cases c30 : 0 ≤ (ji29)
                            · rw [if_pos c30] at H
                              have c30b0 : decide (0 ≤ (ji29)) = true := decide_eq_true c30
                              clear c30
                              by_cases c31 : (ji29) < (x11_3.length : Int)
                              · rw [if_pos c31] at H
                                have c31b0 : decide ((ji29) < (x11_3.length : Int)) = true := decide_eq_true c31
                                clear c31
                                by_cases c32 : 0 ≤ ((rd_T61 x11_3 (ji29)).f0)
                                · rw [if_pos c32] at H
                                  have c32b0 : decide (0 ≤ ((rd_T61 x11_3 (ji29)).f0)) = true := decide_eq_true c32
                                  clear c32
                                  by_cases c33 : ((rd_T61 x11_3 (ji29)).f0) < (x12_3.length : Int)
                                  · rw [if_pos c33] at H
                                    have c33b0 : decide (((rd_T61 x11_3 (ji29)).f0) < (x12_3.length : Int)) = true := decide_eq_true c33
                                    clear c33
                                    obtain ⟨bq34, hbq34⟩ : ∃ b_ : Bool, b_ = (rdOf false x12_3 ((rd_T61 x11_3 (ji29)).f0)) := ⟨_, rfl⟩
                                    replace H : (if (bq34 = true) then (pianolalaw09_VaultWrong.l0 kj22 l2 x9_5 (Int.tmod (wrap64 (a3)) 4) x11_3 x12_3 (wrap64 (x13_3 + 1))) else (pianolalaw09_VaultWrong.l0 kj22 l2 x9_5 (Int.tmod (wrap64 (a3)) 4) (x11_3.set ((ji29) : Int).toNat (⟨(rd_T61 x11_3 (ji29)).f0, Int.tmod (wrap64 ((wrap64 (((rd_T61 x11_3 (ji29)).f1) + 1)) + (Int.tmod (wrap64 ((rd_T64 l2 x13_3).f1)) 250))) 251⟩ : S61)) (x12_3.set (((rd_T61 x11_3 (ji29)).f0) : Int).toNat true) (wrap64 (x13_3 + 1)))) = some r := by rw [← hbq34] at H; exact H
                                    have Nbq34 := Aside0.mk hbq34
                                    clear hbq34
                                    by_cases c35 : (bq34 = true)
                                    · subst c35
                                      have H1 : (pianolalaw09_VaultWrong.l0 kj22 l2 x9_5 (Int.tmod (wrap64 (a3)) 4) x11_3 x12_3 (wrap64 (x13_3 + 1))) = some r := by rw [if_pos rfl] at H; exact H
                                      clear H
                                      have H := H1
                                      clear H1
                                      have H' := Aside0.mk H
                                      clear H
                                      have p626 : 0 ≤ (x13_3 : Int) := of_decide_eq_true (by first | (with_reducible assumption) | assumption)
                                      have q626 : x13_3 < (l2.length : Int) := of_decide_eq_true (by first | (with_reducible assumption) | assumption)
                                      obtain ⟨ad626, e626, hx626_0, hx626_1⟩ := at_T64 HR2.out x13_3 p626 q626
                                      cases e626
                                      replace hx626_0 := (HB.out.cell (World.block_lt_of_cell? w _ hx626_0)).trans hx626_0
                                      replace hx626_1 := (HB.out.cell (World.block_lt_of_cell? w _ hx626_1)).trans hx626_1
                                      replace p626 := eq_true p626
                                      replace q626 := eq_true q626
                                      obtain ⟨Ao36, co36, eo36⟩ := Kd.R_slice HO_11.out
                                      subst eo36
                                      have p627 : 0 ≤ ((ji29) : Int) := of_decide_eq_true (by first | (with_reducible assumption) | assumption)
                                      have q627 : (ji29) < (x11_3.length : Int) := of_decide_eq_true (by first | (with_reducible assumption) | assumption)
                                      obtain ⟨ad627, e627, hx627_0, hx627_1⟩ := at_T61 (Kd.R_reads' HO_11.out).2.2 (ji29) p627 q627
                                      cases e627
                                      replace p627 := eq_true p627
                                      replace q627 := eq_true q627
                                      obtain ⟨Ao37, co37, eo37⟩ := Kd.R_slice HO_12.out
                                      subst eo37
                                      have p628 : 0 ≤ (((rd_T61 x11_3 (ji29)).f0) : Int) := of_decide_eq_true (by first | (with_reducible assumption) | assumption)
                                      have q628 : ((rd_T61 x11_3 (ji29)).f0) < (x12_3.length : Int) := of_decide_eq_true (by first | (with_reducible assumption) | assumption)
                                      obtain ⟨ad628, e628, hx628_0⟩ := Kd.at_bool (Kd.R_reads' HO_12.out).2.2 ((rd_T61 x11_3 (ji29)).f0) p628 q628
                                      (try rw [← Nbq34.out] at hx628_0)
                                      cases e628
                                      replace p628 := eq_true p628
                                      replace q628 := eq_true q628
                                      go_wp2
                                      go_roundg kj22
                                      case measure => have := HJ5.out; have := HJ12.out; have := HK3.out; have := HJ22.out; omega
                                      case rel => exact ⟨(x11_3), (x12_3), (wrap64 (x13_3 + 1)), (by first | rfl | (simp; done) | (simp [*]; done)), H', ⟨by have := HJ5.out; have := HJ12.out; have := HK3.out; have := HJ22.out; omega⟩, ⟨by (with_reducible repeat (first | apply Kd.R_alloc | apply Kd.R_drewN | apply Kd.R_drew)); exact HO_9.out⟩, ⟨by (with_reducible repeat (first | apply Kd.R_alloc | apply Kd.R_drewN | apply Kd.R_drew)); exact HO_11.out⟩, ⟨by (with_reducible repeat (first | apply Kd.R_alloc | apply Kd.R_drewN | apply Kd.R_drew)); exact HO_12.out⟩, ⟨by repeat (first | (with_reducible first | exact HB.out | apply below_alloc | apply pw_below_drewN | apply below_drew1) | exact HB.out)⟩⟩
                                    · replace c35 := Bool.eq_false_iff.mpr c35
                                      subst c35
                                      have H1 : (pianolalaw09_VaultWrong.l0 kj22 l2 x9_5 (Int.tmod (wrap64 (a3)) 4) (x11_3.set ((ji29) : Int).toNat (⟨(rd_T61 x11_3 (ji29)).f0, Int.tmod (wrap64 ((wrap64 (((rd_T61 x11_3 (ji29)).f1) + 1)) + (Int.tmod (wrap64 ((rd_T64 l2 x13_3).f1)) 250))) 251⟩ : S61)) (x12_3.set (((rd_T61 x11_3 (ji29)).f0) : Int).toNat true) (wrap64 (x13_3 + 1))) = some r := by rw [if_neg (show ¬ (false = true) by decide)] at H; exact H
                                      clear H
                                      have H := H1
                                      clear H1
                                      obtain ⟨y630, hy630⟩ : ∃ y_ : List Bool, y_ = (x12_3.set (((rd_T61 x11_3 (ji29)).f0) : Int).toNat true) := ⟨_, rfl⟩
                                      replace H : (pianolalaw09_VaultWrong.l0 kj22 l2 x9_5 (Int.tmod (wrap64 (a3)) 4) (x11_3.set ((ji29) : Int).toNat (⟨(rd_T61 x11_3 (ji29)).f0, Int.tmod (wrap64 ((wrap64 (((rd_T61 x11_3 (ji29)).f1) + 1)) + (Int.tmod (wrap64 ((rd_T64 l2 x13_3).f1)) 250))) 251⟩ : S61)) y630 (wrap64 (x13_3 + 1))) = some r := by first | (rw [hy630]; with_reducible exact H) | (have H2_ := (Option.bind_some _ _).symm.trans H; rw [hy630]; with_reducible exact H2_) | (have H2_ := (Option.bind_some _ _).symm.trans H; with_reducible exact H2_) | with_reducible exact H | (rw [hy630]; exact H) | exact H
                                      have Ny630 := Aside0.mk hy630
                                      clear hy630
                                      obtain ⟨y633, hy633⟩ : ∃ y_ : List (S61), y_ = (x11_3.set ((ji29) : Int).toNat (⟨(rd_T61 x11_3 (ji29)).f0, Int.tmod (wrap64 ((wrap64 (((rd_T61 x11_3 (ji29)).f1) + 1)) + (Int.tmod (wrap64 ((rd_T64 l2 x13_3).f1)) 250))) 251⟩ : S61)) := ⟨_, rfl⟩
                                      replace H : (pianolalaw09_VaultWrong.l0 kj22 l2 x9_5 (Int.tmod (wrap64 (a3)) 4) y633 y630 (wrap64 (x13_3 + 1))) = some r := by first | (rw [hy633]; with_reducible exact H) | (have H2_ := (Option.bind_some _ _).symm.trans H; rw [hy633]; with_reducible exact H2_) | (have H2_ := (Option.bind_some _ _).symm.trans H; with_reducible exact H2_) | with_reducible exact H | (rw [hy633]; exact H) | exact H
                                      have Ny633 := Aside0.mk hy633
                                      clear hy633
                                      have H' := Aside0.mk H
                                      clear H
                                      have p626 : 0 ≤ (x13_3 : Int) := of_decide_eq_true (by first | (with_reducible assumption) | assumption)
                                      have q626 : x13_3 < (l2.length : Int) := of_decide_eq_true (by first | (with_reducible assumption) | assumption)
                                      obtain ⟨ad626, e626, hx626_0, hx626_1⟩ := at_T64 HR2.out x13_3 p626 q626
                                      cases e626
                                      replace hx626_0 := (HB.out.cell (World.block_lt_of_cell? w _ hx626_0)).trans hx626_0
                                      replace hx626_1 := (HB.out.cell (World.block_lt_of_cell? w _ hx626_1)).trans hx626_1
                                      replace p626 := eq_true p626
                                      replace q626 := eq_true q626
                                      obtain ⟨Ao40, co40, eo40⟩ := Kd.R_slice HO_11.out
                                      subst eo40
                                      have p627 : 0 ≤ ((ji29) : Int) := of_decide_eq_true (by first | (with_reducible assumption) | assumption)
                                      have q627 : (ji29) < (x11_3.length : Int) := of_decide_eq_true (by first | (with_reducible assumption) | assumption)
                                      obtain ⟨ad627, e627, hx627_0, hx627_1⟩ := at_T61 (Kd.R_reads' HO_11.out).2.2 (ji29) p627 q627
                                      cases e627
                                      replace p627 := eq_true p627
                                      replace q627 := eq_true q627
                                      obtain ⟨Ao41, co41, eo41⟩ := Kd.R_slice HO_12.out
                                      subst eo41
                                      have p628 : 0 ≤ (((rd_T61 x11_3 (ji29)).f0) : Int) := of_decide_eq_true (by first | (with_reducible assumption) | assumption)
                                      have q628 : ((rd_T61 x11_3 (ji29)).f0) < (x12_3.length : Int) := of_decide_eq_true (by first | (with_reducible assumption) | assumption)
                                      obtain ⟨ad628, e628, hx628_0⟩ := Kd.at_bool (Kd.R_reads' HO_12.out).2.2 ((rd_T61 x11_3 (ji29)).f0) p628 q628
                                      (try rw [← Nbq34.out] at hx628_0)
                                      cases e628
                                      replace p628 := eq_true p628
                                      replace q628 := eq_true q628
                                      have p629 : 0 ≤ ((ji29) : Int) := of_decide_eq_true (by first | (with_reducible assumption) | assumption)
                                      have q629 : (ji29) < (x11_3.length : Int) := of_decide_eq_true (by first | (with_reducible assumption) | assumption)
                                      obtain ⟨ad629, e629, hx629_0, hx629_1⟩ := at_T61 (Kd.R_reads' HO_11.out).2.2 (ji29) p629 q629
                                      obtain rfl : ad627 = ad629 := (by injection e629)
                                      replace p629 := eq_true p629
                                      replace q629 := eq_true q629
                                      have p38 : 0 ≤ (((rd_T61 x11_3 (ji29)).f0) : Int) := of_decide_eq_true (by first | (with_reducible assumption) | assumption)
                                      have q38 : (((rd_T61 x11_3 (ji29)).f0) : Int) < ((x12_3.length : Int) : Int) := of_decide_eq_true (by first | (with_reducible assumption) | assumption)
                                      obtain ⟨go38, co38, eo38, gb38, gl38, cl38, HG38⟩ := Kd.R_form HO_12.out (by omega)
                                      (first | cases eo38 | (injection eo38 with ea_ en_ ec_; (first | subst ea_ | (injection ea_ with ea_; subst ea_)); subst ec_; clear en_))
                                      have GB38 := Aside0.mk gb38
                                      have GG38 := Aside0.mk HG38
                                      clear gb38 gl38 HG38
                                      (first | simp only [add_plain] at hx628_0 | skip)
                                      obtain ⟨hx38_0, hf38_0⟩ := Kd.R_celln false HO_12.out (((rd_T61 x11_3 (ji29)).f0) : Int) p38 q38
                                      replace p38 := eq_true p38
                                      replace q38 := eq_true q38
                                      have HP42 := Kd.R_putg HO_12.out (((rd_T61 x11_3 (ji29)).f0) : Int) true
                                      try go_wp2_with (first | ((with_reducible refine gate_store (t := 4) (p := 84) rfl ?_); refine store_event (t := 4) (p := 84) (v := ?vo_w43) (w1 := (wc.setCell ⟨go38, (((rd_T61 x11_3 (ji29)).f0) : Int).toNat, none⟩ (.bool true))) ?hg ?ho ?hn ?hr ?_; (case ho => rfl); (case hg => rfl); (case hn => rfl); (case hr => first | (go_simp; done) | (go_simp; rfl)); intro w43 hw; have hg : wc.grownBy w43 (some go38) := (by rw [hw]; exact HP42.2); have hp_ : Kd.R Kd.bool 4 w43 w.heap.size (fun _ => True) (.slice (some ⟨go38, 0, none⟩) x12_3.length co41) y630 := (by rw [hw, Ny630.out]; exact HP42.1); clear HP42; have n0_ := Aside0.mk (Kd.R_over' (v := (.slice (some ⟨go38, 0, none⟩) x12_3.length co41)) (by (with_reducible repeat (first | apply Kd.R_alloc | apply Kd.R_drewN | apply Kd.R_drew)); exact HO_9.out) (Kd.R_typed HO_12.out) (by decide) hg); have n1_ := Aside0.mk (Kd.R_over' (v := (.slice (some ⟨go38, 0, none⟩) x12_3.length co41)) (by (with_reducible repeat (first | apply Kd.R_alloc | apply Kd.R_drewN | apply Kd.R_drew)); exact HO_11.out) (Kd.R_typed HO_12.out) (by decide) hg); have n2_ := Aside0.mk (hp_); have n3_ := Aside0.mk ((by rw [hw]; exact below_set (HB.out) GB38.out : Below w.heap.size w w43)); clear HO_9; clear HO_11; clear HO_12; clear HB; have HO_9 := n0_; have HO_11 := n1_; have HO_12 := n2_; have HB := n3_; clear n0_ n1_ n2_ n3_; clear hg hw hp_))
                                      have n0_ := Aside0.mk (Kd.R_drew HO_9.out)
                                      have n1_ := Aside0.mk (Kd.R_drew HO_11.out)
                                      have n2_ := Aside0.mk (Kd.R_drew HO_12.out)
                                      have n3_ := Aside0.mk (below_drew1 HB.out)
                                      clear HO_9
                                      clear HO_11
                                      clear HO_12
                                      clear HB
                                      have HO_9 := n0_
                                      have HO_11 := n1_
                                      have HO_12 := n2_
                                      have HB := n3_
                                      clear n0_ n1_ n2_ n3_
                                      have p631 : 0 ≤ ((ji29) : Int) := of_decide_eq_true (by first | (with_reducible assumption) | assumption)
                                      have q631 : (ji29) < (x11_3.length : Int) := of_decide_eq_true (by first | (with_reducible assumption) | assumption)
                                      obtain ⟨ad631, e631, hx631_0, hx631_1⟩ := at_T61 (Kd.R_reads' HO_11.out).2.2 (ji29) p631 q631
                                      obtain rfl : ad627 = ad631 := (by injection e631)
                                      replace p631 := eq_true p631
                                      replace q631 := eq_true q631
                                      have p632 : 0 ≤ (x13_3 : Int) := of_decide_eq_true (by first | (with_reducible assumption) | assumption)
                                      have q632 : x13_3 < (l2.length : Int) := of_decide_eq_true (by first | (with_reducible assumption) | assumption)
                                      obtain ⟨ad632, e632, hx632_0, hx632_1⟩ := at_T64 HR2.out x13_3 p632 q632
                                      have hw632_1 := hx632_1
                                      have hw632_0 := hx632_0
                                      obtain rfl : ad626 = ad632 := (by injection e632)
                                      replace hx632_0 := (HB.out.cell (World.block_lt_of_cell? w _ hx632_0)).trans hx632_0
                                      replace hx632_1 := (HB.out.cell (World.block_lt_of_cell? w _ hx632_1)).trans hx632_1
                                      replace p632 := eq_true p632
                                      replace q632 := eq_true q632
                                      have p39 : 0 ≤ ((ji29) : Int) := of_decide_eq_true (by first | (with_reducible assumption) | assumption)
                                      have q39 : ((ji29) : Int) < ((x11_3.length : Int) : Int) := of_decide_eq_true (by first | (with_reducible assumption) | assumption)
                                      obtain ⟨go39, co39, eo39, gb39, gl39, cl39, HG39⟩ := Kd.R_form HO_11.out (by omega)
                                      (first | cases eo39 | (injection eo39 with ea_ en_ ec_; (first | subst ea_ | (injection ea_ with ea_; subst ea_)); subst ec_; clear en_))
                                      have GB39 := Aside0.mk gb39
                                      have GG39 := Aside0.mk HG39
                                      clear gb39 gl39 HG39
                                      (first | simp only [add_plain] at hx627_0 | skip)
                                      (first | simp only [add_plain] at hx627_1 | skip)
                                      (first | simp only [add_plain] at hx629_0 | skip)
                                      (first | simp only [add_plain] at hx629_1 | skip)
                                      (first | simp only [add_plain] at hx631_0 | skip)
                                      (first | simp only [add_plain] at hx631_1 | skip)
                                      obtain ⟨ce39, hcl39, hM39, hcc39, hfr39⟩ := Kd.R_elem HO_11.out z61 ((ji29) : Int) p39 q39
                                      obtain rfl := k61_openM hM39
                                      have hx39_0 : World.cell? _ ⟨go39, ((ji29) : Int).toNat * 2, none⟩ = some (.int .i64 ((rd_T61 x11_3 (ji29)).f0)) := hcc39 0 _ rfl
                                      have hx39_1 : World.cell? _ ⟨go39, ((ji29) : Int).toNat * 2 + 1, none⟩ = some (.int .i64 ((rd_T61 x11_3 (ji29)).f1)) := hcc39 1 _ rfl
                                      have hf39_0 : World.frozen? _ ⟨go39, ((ji29) : Int).toNat * 2, none⟩ = false := hfr39 0
                                      have hf39_1 : World.frozen? _ ⟨go39, ((ji29) : Int).toNat * 2 + 1, none⟩ = false := hfr39 1
                                      clear hcl39 hcc39 hfr39 hM39
                                      replace p39 := eq_true p39
                                      replace q39 := eq_true q39
                                      obtain ⟨ce45, hcl45, hM45, hcc45, hfr45⟩ := Kd.R_elem HO_11.out z61 ((ji29) : Int) (of_decide_eq_true (by first | (with_reducible assumption) | assumption)) (by have h_ : ((ji29) : Int) < ((x11_3.length : Int) : Int) := of_decide_eq_true (by first | (with_reducible assumption) | assumption); first | exact h_ | (have e_ := (Kd.R_reads' HO_11.out).1; omega) | simpa using h_)
                                      obtain rfl := k61_openM hM45
                                      have HP45 := (Kd.R_seg HO_11.out ((ji29) : Int) (of_decide_eq_true (by first | (with_reducible assumption) | assumption)) (by have h_ : ((ji29) : Int) < ((x11_3.length : Int) : Int) := of_decide_eq_true (by first | (with_reducible assumption) | assumption); first | exact h_ | (have e_ := (Kd.R_reads' HO_11.out).1; omega) | simpa using h_) (seg := [.int .i64 (Int.tmod (wrap64 ((wrap64 (((rd_T61 x11_3 (ji29)).f1) + 1)) + (Int.tmod (wrap64 ((rd_T64 l2 x13_3).f1)) 250))) 251)]) (j := 1) hcl45 hcc45 (show 2 ≤ 2 from by decide) (x' := (⟨(rd_T61 x11_3 (ji29)).f0, Int.tmod (wrap64 ((wrap64 (((rd_T61 x11_3 (ji29)).f1) + 1)) + (Int.tmod (wrap64 ((rd_T64 l2 x13_3).f1)) 250))) 251⟩ : S61)) (k61_mkM _ _ _ (⟨(rd_T61 x11_3 (ji29)).f0, Int.tmod (wrap64 ((wrap64 (((rd_T61 x11_3 (ji29)).f1) + 1)) + (Int.tmod (wrap64 ((rd_T64 l2 x13_3).f1)) 250))) 251⟩ : S61) ) (fun _ hk => hk)).1
                                      rw [← Ny633.out] at HP45
                                      have HQ45 := Aside0.mk HP45
                                      clear hcl45 hcc45 hfr45 hM45 HP45
                                      refine start_ (n := 20) (S := fun w' => w'.cell? ⟨go39, ((ji29)).toNat * 2, none⟩ = some (.int .i64 ((rd_T61 x11_3 (ji29)).f0)) ∧ w'.cell? ⟨go39, ((ji29)).toNat * 2 + 1, none⟩ = some (.int .i64 ((rd_T61 x11_3 (ji29)).f1)) ∧ w'.cell? (ad626.add ((x13_3).toNat * 2)) = some (.int .u8 ((rd_T64 l2 x13_3).f0)) ∧ w'.cell? ⟨(ad626.add ((x13_3).toNat * 2)).block, (ad626.add ((x13_3).toNat * 2)).off + 1, none⟩ = some (.int .u8 ((rd_T64 l2 x13_3).f1))) (ds := [19]) #[false, false, false, false, false, false, false, false, false, false, false, false, false, false, false, false, false, false, false, false] (by kernel_rfl) rfl rfl ⟨hx631_0, hx631_1, ((HB.out.cell (World.block_lt_of_cell? w _ hw632_0)).trans hw632_0), ((HB.out.cell (World.block_lt_of_cell? w _ hw632_1)).trans hw632_1)⟩ (fun hHeld => ?_); refine with_tabW pianolalaw09_VaultWrong.tab15 pianolalaw09_VaultWrong.bits15 (fun HT_ HW_ => ?_)
                                      generalize w43.drew = w44 at HO_9 HO_11 HO_12 HB GG39 HQ45 hf39_0 hf39_1 hx39_0 hx39_1 hx627_0 hx627_1 hx629_0 hx629_1 hx631_0 hx631_1 hx632_0 hx632_1 hHeld ⊢
                                      refine pure_ (i := 0) (N := some 85) (v := ?_) (a' := ?_) #[true, false, false, false, false, false, false, false, false, false, false, false, false, false, false, false, false, false, false, false] rfl rfl (any_of HT_.out (by kernel_rfl)) (fun _ _ _ h => h) (Or.inl ⟨by rfl, ?_⟩) ?_ ?_
                                      rotate_left
                                      · intro w'
                                        go_simp
                                        with_reducible rfl
                                      rotate_left
                                      · simp only [Act.put, List.setIfInBounds_toArray, List.set_cons_zero, List.set_cons_succ, i64_w, i32_w]
                                        rfl
                                      refine pure_ (i := 1) (N := some 86) (v := ?_) (a' := ?_) #[true, true, false, false, false, false, false, false, false, false, false, false, false, false, false, false, false, false, false, false] rfl rfl (any_of HT_.out (by kernel_rfl)) (fun _ _ _ h => h) (Or.inl ⟨by rfl, ?_⟩) ?_ ?_
                                      rotate_left
                                      · intro w'
                                        go_simp
                                        with_reducible rfl
                                      rotate_left
                                      · simp only [Act.put, List.setIfInBounds_toArray, List.set_cons_zero, List.set_cons_succ, i64_w, i32_w]
                                        rfl
                                      refine pure_ (i := 2) (N := some 87) (v := ?_) (a' := ?_) #[true, true, true, false, false, false, false, false, false, false, false, false, false, false, false, false, false, false, false, false] rfl rfl (any_of HT_.out (by kernel_rfl)) (fun _ _ _ h => h) (Or.inl ⟨by rfl, ?_⟩) ?_ ?_
                                      rotate_left
                                      · intro w'
                                        go_simp
                                        with_reducible rfl
                                      rotate_left
                                      · simp only [Act.put, List.setIfInBounds_toArray, List.set_cons_zero, List.set_cons_succ, i64_w, i32_w]
                                        rfl
                                      refine pure_ (i := 3) (N := some 88) (v := ?_) (a' := ?_) #[true, true, true, true, false, false, false, false, false, false, false, false, false, false, false, false, false, false, false, false] rfl rfl (any_of HT_.out (by kernel_rfl)) (fun _ _ _ h => h) (Or.inl ⟨by rfl, ?_⟩) ?_ ?_
                                      rotate_left
                                      · intro w'
                                        go_simp
                                        with_reducible rfl
                                      rotate_left
                                      · simp only [Act.put, List.setIfInBounds_toArray, List.set_cons_zero, List.set_cons_succ, i64_w, i32_w]
                                        rfl
                                      refine pure_ (i := 4) (N := some 89) (v := ?_) (a' := ?_) #[true, true, true, true, true, false, false, false, false, false, false, false, false, false, false, false, false, false, false, false] rfl rfl (any_of HT_.out (by kernel_rfl)) (fun _ _ _ h => h) (Or.inl ⟨by rfl, ?_⟩) ?_ ?_
                                      rotate_left
                                      · intro w'
                                        go_simp
                                        with_reducible rfl
                                      rotate_left
                                      · simp only [Act.put, List.setIfInBounds_toArray, List.set_cons_zero, List.set_cons_succ, i64_w, i32_w]
                                        rfl
                                      refine pure_ (i := 5) (N := some 90) (v := ?_) (a' := ?_) #[true, true, true, true, true, true, false, false, false, false, false, false, false, false, false, false, false, false, false, false] rfl rfl (any_of HT_.out (by kernel_rfl)) (fun _ _ _ h => h) (Or.inl ⟨by rfl, ?_⟩) ?_ ?_
                                      rotate_left
                                      · intro w'
                                        go_simp
                                        with_reducible rfl
                                      rotate_left
                                      · simp only [Act.put, List.setIfInBounds_toArray, List.set_cons_zero, List.set_cons_succ, i64_w, i32_w]
                                        rfl
                                      refine pure_ (i := 8) (N := some 93) (v := ?_) (a' := ?_) #[true, true, true, true, true, true, false, false, true, false, false, false, false, false, false, false, false, false, false, false] rfl rfl (any_of HT_.out (by kernel_rfl)) (fun _ _ _ h => h) (Or.inl ⟨by rfl, ?_⟩) ?_ ?_
                                      rotate_left
                                      · intro w'
                                        go_simp
                                        with_reducible rfl
                                      rotate_left
                                      · simp only [Act.put, List.setIfInBounds_toArray, List.set_cons_zero, List.set_cons_succ, i64_w, i32_w]
                                        rfl
                                      refine pure_ (i := 9) (N := some 94) (v := ?_) (a' := ?_) #[true, true, true, true, true, true, false, false, true, true, false, false, false, false, false, false, false, false, false, false] rfl rfl (any_of HT_.out (by kernel_rfl)) (fun _ _ _ h => h) (Or.inl ⟨by rfl, ?_⟩) ?_ ?_
                                      rotate_left
                                      · intro w'
                                        go_simp
                                        with_reducible rfl
                                      rotate_left
                                      · simp only [Act.put, List.setIfInBounds_toArray, List.set_cons_zero, List.set_cons_succ, i64_w, i32_w]
                                        rfl
                                      refine pure_ (i := 10) (N := some 95) (v := ?_) (a' := ?_) #[true, true, true, true, true, true, false, false, true, true, true, false, false, false, false, false, false, false, false, false] rfl rfl (any_of HT_.out (by kernel_rfl)) (fun _ _ _ h => h) (Or.inl ⟨by rfl, ?_⟩) ?_ ?_
                                      rotate_left
                                      · intro w'
                                        go_simp
                                        with_reducible rfl
                                      rotate_left
                                      · simp only [Act.put, List.setIfInBounds_toArray, List.set_cons_zero, List.set_cons_succ, i64_w, i32_w]
                                        rfl
                                      refine pure_ (i := 11) (N := some 96) (v := ?_) (a' := ?_) #[true, true, true, true, true, true, false, false, true, true, true, true, false, false, false, false, false, false, false, false] rfl rfl (any_of HT_.out (by kernel_rfl)) (fun _ _ _ h => h) (Or.inl ⟨by rfl, ?_⟩) ?_ ?_
                                      rotate_left
                                      · intro w'
                                        go_simp
                                        with_reducible rfl
                                      rotate_left
                                      · simp only [Act.put, List.setIfInBounds_toArray, List.set_cons_zero, List.set_cons_succ, i64_w, i32_w]
                                        rfl
                                      refine take_ (i := 6) (N := some 91) (v := ?_) (a' := ?_) #[true, true, true, true, true, true, true, false, true, true, true, true, false, false, false, false, false, false, false, false] rfl rfl (take_ofW HT_.out HW_.out (by kernel_rfl)) (fun _ _ _ h => h) (Or.inl ⟨by rfl, ?_⟩) hHeld ?_ ?_
                                      rotate_left
                                      · rintro w' ⟨s0, s1, s2, s3⟩
                                        go_simp
                                        with_reducible rfl
                                      rotate_left
                                      · simp only [Act.put, List.setIfInBounds_toArray, List.set_cons_zero, List.set_cons_succ, i64_w, i32_w]
                                        rfl
                                      refine pure_ (i := 7) (N := some 92) (v := ?_) (a' := ?_) #[true, true, true, true, true, true, true, true, true, true, true, true, false, false, false, false, false, false, false, false] rfl rfl (any_of HT_.out (by kernel_rfl)) (fun _ _ _ h => h) (Or.inl ⟨by rfl, ?_⟩) ?_ ?_
                                      rotate_left
                                      · intro w'
                                        go_simp
                                        with_reducible rfl
                                      rotate_left
                                      · simp only [Act.put, List.setIfInBounds_toArray, List.set_cons_zero, List.set_cons_succ, i64_w, i32_w]
                                        rfl
                                      refine take_ (i := 12) (N := some 97) (v := ?_) (a' := ?_) #[true, true, true, true, true, true, true, true, true, true, true, true, true, false, false, false, false, false, false, false] rfl rfl (take_ofW HT_.out HW_.out (by kernel_rfl)) (fun _ _ _ h => h) (Or.inl ⟨by rfl, ?_⟩) hHeld ?_ ?_
                                      rotate_left
                                      · rintro w' ⟨s0, s1, s2, s3⟩
                                        go_simp
                                        with_reducible rfl
                                      rotate_left
                                      · simp only [Act.put, List.setIfInBounds_toArray, List.set_cons_zero, List.set_cons_succ, i64_w, i32_w]
                                        rfl
                                      refine pure_ (i := 13) (N := some 98) (v := ?_) (a' := ?_) #[true, true, true, true, true, true, true, true, true, true, true, true, true, true, false, false, false, false, false, false] rfl rfl (any_of HT_.out (by kernel_rfl)) (fun _ _ _ h => h) (Or.inl ⟨by rfl, ?_⟩) ?_ ?_
                                      rotate_left
                                      · intro w'
                                        go_simp
                                        with_reducible rfl
                                      rotate_left
                                      · simp only [Act.put, List.setIfInBounds_toArray, List.set_cons_zero, List.set_cons_succ, i64_w, i32_w]
                                        rfl
                                      refine pure_ (i := 14) (N := some 99) (v := ?_) (a' := ?_) #[true, true, true, true, true, true, true, true, true, true, true, true, true, true, true, false, false, false, false, false] rfl rfl (any_of HT_.out (by kernel_rfl)) (fun _ _ _ h => h) (Or.inl ⟨by rfl, ?_⟩) ?_ ?_
                                      rotate_left
                                      · intro w'
                                        go_simp
                                        with_reducible rfl
                                      rotate_left
                                      · simp only [Act.put, List.setIfInBounds_toArray, List.set_cons_zero, List.set_cons_succ, i64_w, i32_w]
                                        rfl
                                      refine pure_ (i := 15) (N := some 100) (v := ?_) (a' := ?_) #[true, true, true, true, true, true, true, true, true, true, true, true, true, true, true, true, false, false, false, false] rfl rfl (any_of HT_.out (by kernel_rfl)) (fun _ _ _ h => h) (Or.inl ⟨by rfl, ?_⟩) ?_ ?_
                                      rotate_left
                                      · intro w'
                                        go_simp
                                        with_reducible rfl
                                      rotate_left
                                      · simp only [Act.put, List.setIfInBounds_toArray, List.set_cons_zero, List.set_cons_succ, i64_w, i32_w]
                                        rfl
                                      refine pure_ (i := 16) (N := some 101) (v := ?_) (a' := ?_) #[true, true, true, true, true, true, true, true, true, true, true, true, true, true, true, true, true, false, false, false] rfl rfl (any_of HT_.out (by kernel_rfl)) (fun _ _ _ h => h) (Or.inl ⟨by rfl, ?_⟩) ?_ ?_
                                      rotate_left
                                      · intro w'
                                        go_simp
                                        with_reducible rfl
                                      rotate_left
                                      · simp only [Act.put, List.setIfInBounds_toArray, List.set_cons_zero, List.set_cons_succ, i64_w, i32_w]
                                        rfl
                                      refine pure_ (i := 17) (N := some 102) (v := ?_) (a' := ?_) #[true, true, true, true, true, true, true, true, true, true, true, true, true, true, true, true, true, true, false, false] rfl rfl (any_of HT_.out (by kernel_rfl)) (fun _ _ _ h => h) (Or.inl ⟨by rfl, ?_⟩) ?_ ?_
                                      rotate_left
                                      · intro w'
                                        go_simp
                                        with_reducible rfl
                                      rotate_left
                                      · simp only [Act.put, List.setIfInBounds_toArray, List.set_cons_zero, List.set_cons_succ, i64_w, i32_w]
                                        rfl
                                      refine pure_ (i := 18) (N := some 103) (v := ?_) (a' := ?_) #[true, true, true, true, true, true, true, true, true, true, true, true, true, true, true, true, true, true, true, false] rfl rfl (any_of HT_.out (by kernel_rfl)) (fun _ _ _ h => h) (Or.inl ⟨by rfl, ?_⟩) ?_ ?_
                                      rotate_left
                                      · intro w'
                                        go_simp
                                        with_reducible rfl
                                      rotate_left
                                      · simp only [Act.put, List.setIfInBounds_toArray, List.set_cons_zero, List.set_cons_succ, i64_w, i32_w]
                                        rfl
                                      refine last_ (i := 19) (N := none) #[true, true, true, true, true, true, true, true, true, true, true, true, true, true, true, true, true, true, true, true] rfl rfl (one_of HT_.out (by kernel_rfl)) (by decide) (fun K hK => ?_)
                                      refine skip_ (w1 := ?_) (by rfl) rfl ?_ ?_
                                      rotate_left
                                      · go_simp
                                        rfl
                                      refine hK.out _ _ ?_
                                      clear hK K
                                      refine done_ (done_of HT_.out (by kernel_rfl)) ?_
                                      try go_wp2
                                      go_roundg kj22
                                      case measure => have := HJ5.out; have := HJ12.out; have := HK3.out; have := HJ22.out; omega
                                      case rel => exact ⟨(y633), (y630), (wrap64 (x13_3 + 1)), (by first | rfl | (simp; done) | (simp [*]; done)), H', ⟨by have := HJ5.out; have := HJ12.out; have := HK3.out; have := HJ22.out; omega⟩, ⟨by (with_reducible repeat (first | apply Kd.R_alloc | apply Kd.R_drewN | apply Kd.R_drew)); exact Kd.R_mono (Kd.R_far (p := ⟨go39, ((ji29) : Int).toNat * 2 + 1, none⟩) (Kd.R_types HO_9.out GG39.out (by decide)) (fun _ hk => hk.2) (.int .i64 (Int.tmod (wrap64 ((wrap64 (((rd_T61 x11_3 (ji29)).f1) + 1)) + (Int.tmod (wrap64 ((rd_T64 l2 x13_3).f1)) 250))) 251))) (fun _ hk => trivial)⟩, ⟨by (with_reducible repeat (first | apply Kd.R_alloc | apply Kd.R_drewN | apply Kd.R_drew)); exact HQ45.out⟩, ⟨by (with_reducible repeat (first | apply Kd.R_alloc | apply Kd.R_drewN | apply Kd.R_drew)); exact Kd.R_mono (Kd.R_far (p := ⟨go39, ((ji29) : Int).toNat * 2 + 1, none⟩) (Kd.R_types HO_12.out GG39.out (by decide)) (fun _ hk => hk.2) (.int .i64 (Int.tmod (wrap64 ((wrap64 (((rd_T61 x11_3 (ji29)).f1) + 1)) + (Int.tmod (wrap64 ((rd_T64 l2 x13_3).f1)) 250))) 251))) (fun _ hk => trivial)⟩, ⟨by repeat (first | (with_reducible first | exact HB.out | apply below_alloc | apply pw_below_drewN | apply below_drew1 | refine below_set ?_ GB39.out) | exact HB.out)⟩⟩
                                  · rw [if_neg c33] at H
                                    exact absurd H (by simp)
                                · rw [if_neg c32] at H
                                  exact absurd H (by simp)
                              · rw [if_neg c31] at H
                                exact absurd H (by simp)
                            · rw [if_neg c30] at H
                              exact absurd H (by simp)
                        · rw [if_neg c27] at H
                          exact absurd H (by simp)
                      · rw [if_neg c26] at H
                        exact absurd H (by simp)
                    · replace c25 := Bool.eq_false_iff.mpr c25
                      subst c25
                      have H1 : (pianolalaw09_VaultWrong.l1 kj22 x9_5 (Int.tmod (wrap64 (a3)) 4) x11_3 x12_3 ([] : List Int) x12_3 (x12_3.length : Int) 0) = some r := by rw [if_neg (show ¬ (false = true) by decide)] at H; exact H
                      clear H
                      have H := H1
                      clear H1
                      have H' := Aside0.mk H
                      clear H
                      obtain ⟨Ao46, co46, eo46⟩ := Kd.R_slice HO_12.out
                      subst eo46
                      go_wp2
                      go_loopg [15, 106] kj22 (fun kq v15 v106 w' => ∃ (x15_5 : List Int) (x106_5 : Int), v106 = .int .i64 x106_5 ∧ Aside0 (pianolalaw09_VaultWrong.l1 kq x9_5 (Int.tmod (wrap64 (a3)) 4) x11_3 x12_3 x15_5 x12_3 (x12_3.length : Int) x106_5 = some r) ∧ Aside0 (kq ≤ kj22) ∧ Aside0 (Kd.R (Kd.int .i64) 3 w' w.heap.size (fun k_ => some k_ ≠ (v15 : Value).ownBlock) (.slice Ao14 x9_5.length co14) x9_5) ∧ Aside0 (Kd.R k61 61 w' w.heap.size (fun _ => True) u11 x11_3) ∧ Aside0 (Kd.R Kd.bool 4 w' w.heap.size (fun _ => True) (.slice Ao46 x12_3.length co46) x12_3) ∧ Aside0 (Kd.R (Kd.int .i64) 3 w' w.heap.size (fun k_ => some k_ ≠ ((.slice Ao14 x9_5.length co14) : Value).ownBlock) v15 x15_5) ∧ Aside0 (Kd.R Kd.bool 4 w' w.heap.size (fun _ => True) (.slice Ao46 x12_3.length co46) x12_3) ∧ Aside0 (Below w.heap.size w w'))
                      case atStart => exact ⟨(([] : List Int)), (0), (by first | rfl | (simp; done) | (simp [*]; done)), H', ⟨Nat.le_refl _⟩, ⟨by (with_reducible repeat (first | apply Kd.R_alloc | apply Kd.R_drewN | apply Kd.R_drew)); exact Kd.R_mono HO_9.out (fun _ hk => (by simp [Value.ownBlock]))⟩, ⟨by (with_reducible repeat (first | apply Kd.R_alloc | apply Kd.R_drewN | apply Kd.R_drew)); exact HO_11.out⟩, ⟨by (with_reducible repeat (first | apply Kd.R_alloc | apply Kd.R_drewN | apply Kd.R_drew)); exact HO_12.out⟩, ⟨by first | exact Kd.R_nil _ _ _ _ _ | exact Kd.N_nil _ _ _ _ _ | exact Kd.V_nil _ _ _ _ _ | exact Kd.Q_nil _ _ _ _ _ | exact Kd.S_nil _ _ _ _ _⟩, ⟨by (with_reducible repeat (first | apply Kd.R_alloc | apply Kd.R_drewN | apply Kd.R_drew)); exact HO_12.out⟩, ⟨by repeat (first | (with_reducible first | exact HB.out | apply below_alloc | apply pw_below_drewN | apply below_drew1) | exact HB.out)⟩⟩
                      case round =>
                        clear H'
                        try clear c1
                        try clear q1
                        try clear c2
                        try clear p2
                        try clear c3
                        try clear p3
                        try clear q3
                        try clear hx3
                        try clear c4
                        try clear p6
                        try clear q6
                        try clear hx6
                        try clear c9
                        try clear c9b0
                        try clear c9b1
                        try clear c10
                        try clear c10b0
                        try clear c10b1
                        try clear q11
                        try clear c12
                        try clear c17
                        try clear c17b0
                        try clear c17b1
                        try clear c18
                        try clear c18b0
                        try clear c18b1
                        try clear q19
                        try clear c20
                        try clear c20b0
                        try clear c20b1
                        try clear c24
                        try clear c24b0
                        try clear c25
                        try clear c26
                        try clear c26b0
                        try clear c27
                        try clear c27b0
                        try clear c28
                        try clear c28b0
                        try clear c28b1
                        try clear c28b2
                        try clear c30
                        try clear c30b0
                        try clear c31
                        try clear c31b0
                        try clear c32
                        try clear c32b0
                        try clear c33
                        try clear c33b0
                        try clear q34
                        try clear c35
                        try clear p38
                        try clear q38
                        try clear hx38
                        try clear hf38
                        try clear c39
                        try clear p39
                        try clear q39
                        try clear hx39
                        try clear hf39
                        try clear c42
                        try clear c45
                        try clear hx38_0
                        try clear hx39_0
                        try clear hx39_1
                        try clear hx626_0
                        try clear hx626_1
                        try clear hx627_0
                        try clear hx627_1
                        try clear hx628_0
                        try clear hx629_0
                        try clear hx629_1
                        try clear hx631_0
                        try clear hx631_1
                        try clear hx632_0
                        try clear hx632_1
                        try clear p2
                        try clear p38
                        try clear p39
                        try clear p6
                        try clear p626
                        try clear p627
                        try clear p628
                        try clear p629
                        try clear p631
                        try clear p632
                        try clear q1
                        try clear q11
                        try clear q19
                        try clear q38
                        try clear q39
                        try clear q626
                        try clear q627
                        try clear q628
                        try clear q629
                        try clear q631
                        try clear q632
                        obtain ⟨x15_5, x106_5, rfl, HA, HK5, HO_9, HO_11, HO_12, HO_15, HO_104, HB⟩ := hrel
                        cases gk with
                        | zero => exact absurd HA.out (by simp [pianolalaw09_VaultWrong.l1])
                        | succ k5 =>
                          have H := HA.out
                          clear HA
                          simp only [pianolalaw09_VaultWrong.l1] at H
                          by_cases c47 : x106_5 < (x12_3.length : Int)
                          · rw [if_pos c47] at H
                            have c47b0 : decide (x106_5 < (x12_3.length : Int)) = true := decide_eq_true c47
                            clear c47
                            by_cases c48 : 0 ≤ x106_5
                            · rw [if_pos c48] at H
                              have c48b0 : decide (0 ≤ x106_5) = true := decide_eq_true c48
                              clear c48
                              by_cases c49 : x106_5 < (x12_3.length : Int)
                              · rw [if_pos c49] at H
                                have c49b0 : decide (x106_5 < (x12_3.length : Int)) = true := decide_eq_true c49
                                clear c49
                                obtain ⟨bq50, hbq50⟩ : ∃ b_ : Bool, b_ = (rdOf false x12_3 x106_5) := ⟨_, rfl⟩
                                replace H : (if bq50 = true then (if x15_5.length < 17592186044416 then (pianolalaw09_VaultWrong.l1 k5 x9_5 (Int.tmod (wrap64 (a3)) 4) x11_3 x12_3 (x15_5 ++ [x106_5]) x12_3 (x12_3.length : Int) (wrap64 (x106_5 + 1))) else (none)) else (pianolalaw09_VaultWrong.l1 k5 x9_5 (Int.tmod (wrap64 (a3)) 4) x11_3 x12_3 x15_5 x12_3 (x12_3.length : Int) (wrap64 (x106_5 + 1)))) = some r := by rw [← hbq50] at H; exact H
                                have Nbq50 := Aside0.mk hbq50
                                clear hbq50
                                by_cases c51 : bq50 = true
                                · subst c51
                                  have H1 : (if x15_5.length < 17592186044416 then (pianolalaw09_VaultWrong.l1 k5 x9_5 (Int.tmod (wrap64 (a3)) 4) x11_3 x12_3 (x15_5 ++ [x106_5]) x12_3 (x12_3.length : Int) (wrap64 (x106_5 + 1))) else (none)) = some r := by rw [if_pos rfl] at H; exact H
                                  clear H
                                  have H := H1
                                  clear H1
                                  by_cases c52 : x15_5.length < 17592186044416
                                  · rw [if_pos c52] at H
                                    have LMc52 := Aside0.mk c52
                                    clear c52
                                    obtain ⟨y635, hy635⟩ : ∃ y_ : List Int, y_ = (x15_5 ++ [x106_5]) := ⟨_, rfl⟩
                                    replace H : (pianolalaw09_VaultWrong.l1 k5 x9_5 (Int.tmod (wrap64 (a3)) 4) x11_3 x12_3 y635 x12_3 (x12_3.length : Int) (wrap64 (x106_5 + 1))) = some r := by first | (rw [hy635]; with_reducible exact H) | (have H2_ := (Option.bind_some _ _).symm.trans H; rw [hy635]; with_reducible exact H2_) | (have H2_ := (Option.bind_some _ _).symm.trans H; with_reducible exact H2_) | with_reducible exact H | (rw [hy635]; exact H) | exact H
                                    have Ny635 := Aside0.mk hy635
                                    clear hy635
                                    have H' := Aside0.mk H
                                    clear H
                                    have p634 : 0 ≤ (x106_5 : Int) := of_decide_eq_true (by first | (with_reducible assumption) | assumption)
                                    have q634 : x106_5 < (x12_3.length : Int) := of_decide_eq_true (by first | (with_reducible assumption) | assumption)
                                    obtain ⟨ad634, e634, hx634_0⟩ := Kd.at_bool (Kd.R_reads' HO_104.out).2.2 x106_5 p634 q634
                                    (try rw [← Nbq50.out] at hx634_0)
                                    cases e634
                                    replace p634 := eq_true p634
                                    replace q634 := eq_true q634
                                    go_wp2_with (first | ((with_reducible refine gate_builtin (b := .append) (xs := #[.tmp 112, .tmp 114]) rfl ?_); at_builtin; refine Kd.R_append (Kd.int .i64) (w0 := w) w.heap.size rfl (.tmp 112) (.tmp 114) 22 3 (.int .i64 0) 8 rfl Try.underlying22 info3 rfl (by decide) (by omega) u15 x15_5 x106_5 [.int .i64 x106_5] (fun k_ => some k_ ≠ (.slice Ao14 x9_5.length co14 : Value).ownBlock) (fun _ => False) rfl rfl ?aP (fun _ hk => hk.elim) ?aF ?aO ?aB ?aS ?aL ?_; (case aP => exact rfl); (case aB => exact (by repeat (first | (with_reducible first | exact HB.out | apply below_alloc | apply pw_below_drewN | apply below_drew1) | exact HB.out))); (case aF => exact (fun k_ hk => Kd.fresh' (Kd.R_lt (by (with_reducible repeat (first | apply Kd.R_alloc | apply Kd.R_drewN | apply Kd.R_drew)); exact HO_9.out)) k_ hk)); (case aO => exact (by (with_reducible repeat (first | apply Kd.R_alloc | apply Kd.R_drewN | apply Kd.R_drew)); exact HO_15.out)); (case aS => exact (below_size (by repeat (first | (with_reducible first | exact HB.out | apply below_alloc | apply pw_below_drewN | apply below_drew1) | exact HB.out)))); (case aL => have := LMc52.out; omega); intro v636 w53 ho hb hg hat; rw [← Ny635.out] at ho; have n0_ := Aside0.mk (Kd.R_after (ok := (fun _ => True)) (by (with_reducible repeat (first | apply Kd.R_alloc | apply Kd.R_drewN | apply Kd.R_drew)); exact Kd.R_mono HO_9.out (fun _ hk => ⟨trivial, hk⟩)) hg hat); have n1_ := Aside0.mk (Kd.R_over' (by (with_reducible repeat (first | apply Kd.R_alloc | apply Kd.R_drewN | apply Kd.R_drew)); exact HO_11.out) (Kd.R_typed (by (with_reducible repeat (first | apply Kd.R_alloc | apply Kd.R_drewN | apply Kd.R_drew)); exact HO_15.out)) (by decide) hg); have n2_ := Aside0.mk (Kd.R_over' (by (with_reducible repeat (first | apply Kd.R_alloc | apply Kd.R_drewN | apply Kd.R_drew)); exact HO_12.out) (Kd.R_typed (by (with_reducible repeat (first | apply Kd.R_alloc | apply Kd.R_drewN | apply Kd.R_drew)); exact HO_15.out)) (by decide) hg); have n3_ := Aside0.mk (Kd.R_over' (by (with_reducible repeat (first | apply Kd.R_alloc | apply Kd.R_drewN | apply Kd.R_drew)); exact HO_104.out) (Kd.R_typed (by (with_reducible repeat (first | apply Kd.R_alloc | apply Kd.R_drewN | apply Kd.R_drew)); exact HO_15.out)) (by decide) hg); have n4_ := Aside0.mk (hb); have n5_ := Aside0.mk (ho); clear HO_9; clear HO_11; clear HO_12; clear HO_104; clear HB; clear HO_15; have HO_9 := n0_; have HO_11 := n1_; have HO_12 := n2_; have HO_104 := n3_; have HB := n4_; have HO637 := n5_; clear n0_ n1_ n2_ n3_ n4_ n5_; clear ho hb hg hat))
                                    go_roundg k5
                                    case measure => have := HJ5.out; have := HJ12.out; have := HK3.out; have := HJ22.out; have := HK5.out; omega
                                    case rel => exact ⟨(y635), (wrap64 (x106_5 + 1)), (by first | rfl | (simp; done) | (simp [*]; done)), H', ⟨by have := HJ5.out; have := HJ12.out; have := HK3.out; have := HJ22.out; have := HK5.out; omega⟩, ⟨by (with_reducible repeat (first | apply Kd.R_alloc | apply Kd.R_drewN | apply Kd.R_drew)); exact Kd.R_mono HO_9.out (fun _ hk => hk.2)⟩, ⟨by (with_reducible repeat (first | apply Kd.R_alloc | apply Kd.R_drewN | apply Kd.R_drew)); exact HO_11.out⟩, ⟨by (with_reducible repeat (first | apply Kd.R_alloc | apply Kd.R_drewN | apply Kd.R_drew)); exact HO_12.out⟩, ⟨by (with_reducible repeat (first | apply Kd.R_alloc | apply Kd.R_drewN | apply Kd.R_drew)); exact HO637.out⟩, ⟨by (with_reducible repeat (first | apply Kd.R_alloc | apply Kd.R_drewN | apply Kd.R_drew)); exact HO_104.out⟩, ⟨by repeat (first | (with_reducible first | exact HB.out | apply below_alloc | apply pw_below_drewN | apply below_drew1) | exact HB.out)⟩⟩
                                  · rw [if_neg c52] at H
                                    exact absurd H (by simp)
                                · replace c51 := Bool.eq_false_iff.mpr c51
                                  subst c51
                                  have H1 : (pianolalaw09_VaultWrong.l1 k5 x9_5 (Int.tmod (wrap64 (a3)) 4) x11_3 x12_3 x15_5 x12_3 (x12_3.length : Int) (wrap64 (x106_5 + 1))) = some r := by rw [if_neg (show ¬ (false = true) by decide)] at H; exact H
                                  clear H
                                  have H := H1
                                  clear H1
                                  have H' := Aside0.mk H
                                  clear H
                                  have p634 : 0 ≤ (x106_5 : Int) := of_decide_eq_true (by first | (with_reducible assumption) | assumption)
                                  have q634 : x106_5 < (x12_3.length : Int) := of_decide_eq_true (by first | (with_reducible assumption) | assumption)
                                  obtain ⟨ad634, e634, hx634_0⟩ := Kd.at_bool (Kd.R_reads' HO_104.out).2.2 x106_5 p634 q634
                                  (try rw [← Nbq50.out] at hx634_0)
                                  cases e634
                                  replace p634 := eq_true p634
                                  replace q634 := eq_true q634
                                  go_wp2
                                  go_roundg k5
                                  case measure => have := HJ5.out; have := HJ12.out; have := HK3.out; have := HJ22.out; have := HK5.out; omega
                                  case rel => exact ⟨(x15_5), (wrap64 (x106_5 + 1)), (by first | rfl | (simp; done) | (simp [*]; done)), H', ⟨by have := HJ5.out; have := HJ12.out; have := HK3.out; have := HJ22.out; have := HK5.out; omega⟩, ⟨by (with_reducible repeat (first | apply Kd.R_alloc | apply Kd.R_drewN | apply Kd.R_drew)); exact HO_9.out⟩, ⟨by (with_reducible repeat (first | apply Kd.R_alloc | apply Kd.R_drewN | apply Kd.R_drew)); exact HO_11.out⟩, ⟨by (with_reducible repeat (first | apply Kd.R_alloc | apply Kd.R_drewN | apply Kd.R_drew)); exact HO_12.out⟩, ⟨by (with_reducible repeat (first | apply Kd.R_alloc | apply Kd.R_drewN | apply Kd.R_drew)); exact HO_15.out⟩, ⟨by (with_reducible repeat (first | apply Kd.R_alloc | apply Kd.R_drewN | apply Kd.R_drew)); exact HO_104.out⟩, ⟨by repeat (first | (with_reducible first | exact HB.out | apply below_alloc | apply pw_below_drewN | apply below_drew1) | exact HB.out)⟩⟩
                              · rw [if_neg c49] at H
                                exact absurd H (by simp)
                            · rw [if_neg c48] at H
                              exact absurd H (by simp)
                          · rw [if_neg c47] at H
                            have c47b0 : decide (x106_5 < (x12_3.length : Int)) = false := decide_eq_false c47
                            clear c47
                            have H' := Aside0.mk H
                            clear H
                            obtain ⟨Ao54, co54, eo54⟩ := Kd.R_slice HO_11.out
                            subst eo54
                            go_wp2
                            go_loopg [16, 119] k5 (fun kq v16 v119 w' => ∃ (x16_6 : List (S61)) (x119_6 : Int), v119 = .int .i64 x119_6 ∧ Aside0 (pianolalaw09_VaultWrong.l2 kq x9_5 (Int.tmod (wrap64 (a3)) 4) x11_3 x12_3 x15_5 x16_6 x11_3 (x11_3.length : Int) x119_6 = some r) ∧ Aside0 (kq ≤ k5) ∧ Aside0 (Kd.R (Kd.int .i64) 3 w' w.heap.size (fun k_ => some k_ ≠ (u15 : Value).ownBlock) (.slice Ao14 x9_5.length co14) x9_5) ∧ Aside0 (Kd.R k61 61 w' w.heap.size (fun k_ => some k_ ≠ (v16 : Value).ownBlock) (.slice Ao54 x11_3.length co54) x11_3) ∧ Aside0 (Kd.R Kd.bool 4 w' w.heap.size (fun _ => True) (.slice Ao46 x12_3.length co46) x12_3) ∧ Aside0 (Kd.R (Kd.int .i64) 3 w' w.heap.size (fun k_ => some k_ ≠ ((.slice Ao14 x9_5.length co14) : Value).ownBlock) u15 x15_5) ∧ Aside0 (Kd.R k61 61 w' w.heap.size (fun k_ => some k_ ≠ ((.slice Ao54 x11_3.length co54) : Value).ownBlock ∧ some k_ ≠ ((.slice Ao54 x11_3.length co54) : Value).ownBlock) v16 x16_6) ∧ Aside0 (Kd.R k61 61 w' w.heap.size (fun k_ => some k_ ≠ (v16 : Value).ownBlock) (.slice Ao54 x11_3.length co54) x11_3) ∧ Aside0 (Below w.heap.size w w'))
                            case atStart => exact ⟨(([] : List (S61))), (0), (by first | rfl | (simp; done) | (simp [*]; done)), H', ⟨Nat.le_refl _⟩, ⟨by (with_reducible repeat (first | apply Kd.R_alloc | apply Kd.R_drewN | apply Kd.R_drew)); exact HO_9.out⟩, ⟨by (with_reducible repeat (first | apply Kd.R_alloc | apply Kd.R_drewN | apply Kd.R_drew)); exact Kd.R_mono HO_11.out (fun _ hk => (by simp [Value.ownBlock]))⟩, ⟨by (with_reducible repeat (first | apply Kd.R_alloc | apply Kd.R_drewN | apply Kd.R_drew)); exact HO_12.out⟩, ⟨by (with_reducible repeat (first | apply Kd.R_alloc | apply Kd.R_drewN | apply Kd.R_drew)); exact HO_15.out⟩, ⟨by first | exact Kd.R_nil _ _ _ _ _ | exact Kd.N_nil _ _ _ _ _ | exact Kd.V_nil _ _ _ _ _ | exact Kd.Q_nil _ _ _ _ _ | exact Kd.S_nil _ _ _ _ _⟩, ⟨by (with_reducible repeat (first | apply Kd.R_alloc | apply Kd.R_drewN | apply Kd.R_drew)); exact Kd.R_mono HO_11.out (fun _ hk => (by simp [Value.ownBlock]))⟩, ⟨by repeat (first | (with_reducible first | exact HB.out | apply below_alloc | apply pw_below_drewN | apply below_drew1) | exact HB.out)⟩⟩
                            case round =>
                              clear H'
                              try clear c1
                              try clear q1
                              try clear c2
                              try clear p2
                              try clear c3
                              try clear p3
                              try clear q3
                              try clear hx3
                              try clear c4
                              try clear c5
                              try clear q5
                              try clear p6
                              try clear q6
                              try clear hx6
                              try clear c9
                              try clear c9b0
                              try clear c9b1
                              try clear c10
                              try clear c10b0
                              try clear c10b1
                              try clear q11
                              try clear c12
                              try clear c17
                              try clear c17b0
                              try clear c17b1
                              try clear c18
                              try clear c18b0
                              try clear c18b1
                              try clear q19
                              try clear c20
                              try clear c20b0
                              try clear c20b1
                              try clear c24
                              try clear c24b0
                              try clear c25
                              try clear c26
                              try clear c26b0
                              try clear c27
                              try clear c27b0
                              try clear c28
                              try clear c28b0
                              try clear c28b1
                              try clear c28b2
                              try clear c30
                              try clear c30b0
                              try clear c31
                              try clear c31b0
                              try clear c32
                              try clear c32b0
                              try clear c33
                              try clear c33b0
                              try clear q34
                              try clear c35
                              try clear p38
                              try clear q38
                              try clear hx38
                              try clear hf38
                              try clear c39
                              try clear p39
                              try clear q39
                              try clear hx39
                              try clear hf39
                              try clear c42
                              try clear c45
                              try clear c47
                              try clear c47b0
                              try clear c48
                              try clear c48b0
                              try clear c49
                              try clear c49b0
                              try clear q50
                              try clear c51
                              try clear c52
                              try clear hx38_0
                              try clear hx39_0
                              try clear hx39_1
                              try clear hx626_0
                              try clear hx626_1
                              try clear hx627_0
                              try clear hx627_1
                              try clear hx628_0
                              try clear hx629_0
                              try clear hx629_1
                              try clear hx631_0
                              try clear hx631_1
                              try clear hx632_0
                              try clear hx632_1
                              try clear hx634_0
                              try clear p2
                              try clear p3
                              try clear p38
                              try clear p39
                              try clear p6
                              try clear p626
                              try clear p627
                              try clear p628
                              try clear p629
                              try clear p631
                              try clear p632
                              try clear p634
                              try clear q1
                              try clear q11
                              try clear q19
                              try clear q3
                              try clear q34
                              try clear q38
                              try clear q39
                              try clear q6
                              try clear q626
                              try clear q627
                              try clear q628
                              try clear q629
                              try clear q631
                              try clear q632
                              try clear q634
                              obtain ⟨x16_6, x119_6, rfl, HA, HK6, HO_9, HO_11, HO_12, HO_15, HO_16, HO_117, HB⟩ := hrel
                              cases gk with
                              | zero => exact absurd HA.out (by simp [pianolalaw09_VaultWrong.l2])
                              | succ k6 =>
                                have H := HA.out
                                clear HA
                                simp only [pianolalaw09_VaultWrong.l2] at H
                                by_cases c55 : x119_6 < (x11_3.length : Int)
                                · rw [if_pos c55] at H
                                  have c55b0 : decide (x119_6 < (x11_3.length : Int)) = true := decide_eq_true c55
                                  clear c55
                                  by_cases c56 : 0 ≤ x119_6
                                  · rw [if_pos c56] at H
                                    have c56b0 : decide (0 ≤ x119_6) = true := decide_eq_true c56
                                    clear c56
                                    by_cases c57 : x119_6 < (x11_3.length : Int)
                                    · rw [if_pos c57] at H
                                      have c57b0 : decide (x119_6 < (x11_3.length : Int)) = true := decide_eq_true c57
                                      clear c57
                                      by_cases c58 : 0 ≤ ((rd_T61 x11_3 x119_6).f0)
                                      · rw [if_pos c58] at H
                                        have c58b0 : decide (0 ≤ ((rd_T61 x11_3 x119_6).f0)) = true := decide_eq_true c58
                                        clear c58
                                        by_cases c59 : ((rd_T61 x11_3 x119_6).f0) < (x12_3.length : Int)
                                        · rw [if_pos c59] at H
                                          have c59b0 : decide (((rd_T61 x11_3 x119_6).f0) < (x12_3.length : Int)) = true := decide_eq_true c59
                                          clear c59
                                          obtain ⟨bq60, hbq60⟩ : ∃ b_ : Bool, b_ = (rdOf false x12_3 ((rd_T61 x11_3 x119_6).f0)) := ⟨_, rfl⟩
                                          replace H : (if (bq60 = true) then (pianolalaw09_VaultWrong.l2 k6 x9_5 (Int.tmod (wrap64 (a3)) 4) x11_3 x12_3 x15_5 x16_6 x11_3 (x11_3.length : Int) (wrap64 (x119_6 + 1))) else (if x16_6.length < 8796093022208 then (pianolalaw09_VaultWrong.l2 k6 x9_5 (Int.tmod (wrap64 (a3)) 4) x11_3 x12_3 x15_5 (x16_6 ++ [(⟨(rd_T61 x11_3 x119_6).f0, (rd_T61 x11_3 x119_6).f1⟩ : S61)]) x11_3 (x11_3.length : Int) (wrap64 (x119_6 + 1))) else (none))) = some r := by rw [← hbq60] at H; exact H
                                          have Nbq60 := Aside0.mk hbq60
                                          clear hbq60
                                          by_cases c61 : (bq60 = true)
                                          · subst c61
                                            have H1 : (pianolalaw09_VaultWrong.l2 k6 x9_5 (Int.tmod (wrap64 (a3)) 4) x11_3 x12_3 x15_5 x16_6 x11_3 (x11_3.length : Int) (wrap64 (x119_6 + 1))) = some r := by rw [if_pos rfl] at H; exact H
                                            clear H
                                            have H := H1
                                            clear H1
                                            have H' := Aside0.mk H
                                            clear H
                                            have p638 : 0 ≤ (x119_6 : Int) := of_decide_eq_true (by first | (with_reducible assumption) | assumption)
                                            have q638 : x119_6 < (x11_3.length : Int) := of_decide_eq_true (by first | (with_reducible assumption) | assumption)
                                            obtain ⟨ad638, e638, hx638_0, hx638_1⟩ := at_T61 (Kd.R_reads' HO_117.out).2.2 x119_6 p638 q638
                                            cases e638
                                            replace p638 := eq_true p638
                                            replace q638 := eq_true q638
                                            go_wp2_with (first | ((with_reducible refine gate_dst (N := 20) rfl ?_); refine box_event ?hg (N := 20) ?hd (cs := #[.int .i64 0, .int .i64 0]) (t := 61) ?hr ?_; (case hd => rfl); (case hg => rfl); (case hr => first | (go_simp; done) | (go_simp; rfl)); intro gb639 hg w62 hbox hb; have n0_ := Aside0.mk (Kd.R_below (by (with_reducible repeat (first | apply Kd.R_alloc | apply Kd.R_drewN | apply Kd.R_drew)); exact HO_9.out) hb); have n1_ := Aside0.mk (Kd.R_below (Kd.R_elderB (by (with_reducible repeat (first | apply Kd.R_alloc | apply Kd.R_drewN | apply Kd.R_drew)); exact HO_11.out) gb639 (Nat.le_of_eq hg.symm)) hb); have n2_ := Aside0.mk (Kd.R_below (by (with_reducible repeat (first | apply Kd.R_alloc | apply Kd.R_drewN | apply Kd.R_drew)); exact HO_12.out) hb); have n3_ := Aside0.mk (Kd.R_below (by (with_reducible repeat (first | apply Kd.R_alloc | apply Kd.R_drewN | apply Kd.R_drew)); exact HO_15.out) hb); have n4_ := Aside0.mk (Kd.R_below (Kd.R_elderB (by (with_reducible repeat (first | apply Kd.R_alloc | apply Kd.R_drewN | apply Kd.R_drew)); exact HO_16.out) gb639 (Nat.le_of_eq hg.symm)) hb); have n5_ := Aside0.mk (Kd.R_below (Kd.R_elderB (by (with_reducible repeat (first | apply Kd.R_alloc | apply Kd.R_drewN | apply Kd.R_drew)); exact HO_117.out) gb639 (Nat.le_of_eq hg.symm)) hb); have n6_ := Aside0.mk (below_step (by repeat (first | (with_reducible first | exact HB.out | apply below_alloc | apply pw_below_drewN | apply below_drew1) | exact HB.out)) hb); have n7_ := Aside0.mk (hbox); have n8_ := Aside0.mk ((by rw [hg]; exact (below_size (by repeat (first | (with_reducible first | exact HB.out | apply below_alloc | apply pw_below_drewN | apply below_drew1) | exact HB.out))) : w.heap.size ≤ gb639)); have n9_ := Aside0.mk ((by rw [hg]; exact (below_size (by repeat (first | (with_reducible first | exact HB.out | apply below_alloc | apply pw_below_drewN | apply below_drew1) | exact HB.out))) : w.heap.size ≤ gb639)); clear HO_9; clear HO_11; clear HO_12; clear HO_15; clear HO_16; clear HO_117; clear HB; have HO_9 := n0_; have HO_11 := n1_; have HO_12 := n2_; have HO_15 := n3_; have HO_16 := n4_; have HO_117 := n5_; have HB := n6_; have BK639 := n7_; have GW639 := n8_; have GE639 := n9_; clear n0_ n1_ n2_ n3_ n4_ n5_ n6_ n7_ n8_ n9_; clear hb hbox hg; have hcz63_0 : w62.cell? ⟨gb639, 0, none⟩ = some (.int .i64 0) := (blk_cell BK639.out 0).trans rfl; have hcz63_1 : w62.cell? ⟨gb639, 1, none⟩ = some (.int .i64 0) := (blk_cell BK639.out 1).trans rfl; have hfz63_0 := blk_frozen BK639.out 0; have hfz63_1 := blk_frozen BK639.out 1; have p640 : 0 ≤ (((rd_T61 x11_3 x119_6).f0) : Int) := of_decide_eq_true (by first | (with_reducible assumption) | assumption); have q640 : ((rd_T61 x11_3 x119_6).f0) < (x12_3.length : Int) := of_decide_eq_true (by first | (with_reducible assumption) | assumption); obtain ⟨ad640, e640, hx640_0⟩ := Kd.at_bool (Kd.R_reads' HO_12.out).2.2 ((rd_T61 x11_3 x119_6).f0) p640 q640; (try rw [← Nbq60.out] at hx640_0); cases e640; have hn640_0 : ad640.block ≠ gb639 := Kd.own_blk (Kd.R_ne HO_12.out BK639.out (by decide)); have hn640_1 : ad640.block ≠ gb639 := Kd.own_blk (Kd.R_ne HO_12.out BK639.out (by decide)); replace hx640_0 := (cell_far (p := ⟨gb639, 0, none⟩) (by first | (rw [add_block]; exact hn640_0) | (show (Addr.add _ _).block ≠ _; rw [add_block]; exact hn640_0) | exact hn640_0) (.int .i64 ((rd_T61 x11_3 x119_6).f0))).trans hx640_0; replace hx640_0 := (cell_far (p := ⟨gb639, 1, none⟩) (by first | (rw [add_block]; exact hn640_1) | (show (Addr.add _ _).block ≠ _; rw [add_block]; exact hn640_1) | exact hn640_1) (.int .i64 ((rd_T61 x11_3 x119_6).f1))).trans hx640_0; clear hn640_0; clear hn640_1; replace p640 := eq_true p640; replace q640 := eq_true q640))
                                            go_roundg k6
                                            case measure => have := HJ5.out; have := HJ12.out; have := HK3.out; have := HJ22.out; have := HK5.out; have := HK6.out; omega
                                            case rel => exact ⟨(x16_6), (wrap64 (x119_6 + 1)), (by first | rfl | (simp; done) | (simp [*]; done)), H', ⟨by have := HJ5.out; have := HJ12.out; have := HK3.out; have := HJ22.out; have := HK5.out; have := HK6.out; omega⟩, ⟨by (with_reducible repeat (first | apply Kd.R_alloc | apply Kd.R_drewN | apply Kd.R_drew)); exact Kd.R_mono (Kd.R_far (p := ⟨gb639, 1, none⟩) (Kd.R_far (p := ⟨gb639, 0, none⟩) (Kd.R_types HO_9.out BK639.out (by decide)) (fun _ hk => hk.2) (.int .i64 ((rd_T61 x11_3 x119_6).f0))) (fun _ hk => hk.2) (.int .i64 ((rd_T61 x11_3 x119_6).f1))) (fun _ hk => hk.1)⟩, ⟨by (with_reducible repeat (first | apply Kd.R_alloc | apply Kd.R_drewN | apply Kd.R_drew)); exact Kd.R_mono (Kd.R_far (p := ⟨gb639, 1, none⟩) (Kd.R_far (p := ⟨gb639, 0, none⟩) (Kd.R_mono HO_11.out (fun k_ hk => (⟨hk, hk.2⟩ : _ ∧ k_ ≠ gb639))) (fun _ hk => hk.2) (.int .i64 ((rd_T61 x11_3 x119_6).f0))) (fun _ hk => hk.2) (.int .i64 ((rd_T61 x11_3 x119_6).f1))) (fun _ hk => hk.1.1)⟩, ⟨by (with_reducible repeat (first | apply Kd.R_alloc | apply Kd.R_drewN | apply Kd.R_drew)); exact Kd.R_mono (Kd.R_far (p := ⟨gb639, 1, none⟩) (Kd.R_far (p := ⟨gb639, 0, none⟩) (Kd.R_types HO_12.out BK639.out (by decide)) (fun _ hk => hk.2) (.int .i64 ((rd_T61 x11_3 x119_6).f0))) (fun _ hk => hk.2) (.int .i64 ((rd_T61 x11_3 x119_6).f1))) (fun _ hk => trivial)⟩, ⟨by (with_reducible repeat (first | apply Kd.R_alloc | apply Kd.R_drewN | apply Kd.R_drew)); exact Kd.R_mono (Kd.R_far (p := ⟨gb639, 1, none⟩) (Kd.R_far (p := ⟨gb639, 0, none⟩) (Kd.R_types HO_15.out BK639.out (by decide)) (fun _ hk => hk.2) (.int .i64 ((rd_T61 x11_3 x119_6).f0))) (fun _ hk => hk.2) (.int .i64 ((rd_T61 x11_3 x119_6).f1))) (fun _ hk => hk.1)⟩, ⟨by (with_reducible repeat (first | apply Kd.R_alloc | apply Kd.R_drewN | apply Kd.R_drew)); exact Kd.R_mono (Kd.R_far (p := ⟨gb639, 1, none⟩) (Kd.R_far (p := ⟨gb639, 0, none⟩) (Kd.R_mono HO_16.out (fun k_ hk => (⟨hk, hk.2⟩ : _ ∧ k_ ≠ gb639))) (fun _ hk => hk.2) (.int .i64 ((rd_T61 x11_3 x119_6).f0))) (fun _ hk => hk.2) (.int .i64 ((rd_T61 x11_3 x119_6).f1))) (fun _ hk => ⟨hk.1.1.1, hk.1.1.2⟩)⟩, ⟨by (with_reducible repeat (first | apply Kd.R_alloc | apply Kd.R_drewN | apply Kd.R_drew)); exact Kd.R_mono (Kd.R_far (p := ⟨gb639, 1, none⟩) (Kd.R_far (p := ⟨gb639, 0, none⟩) (Kd.R_mono HO_117.out (fun k_ hk => (⟨hk, hk.2⟩ : _ ∧ k_ ≠ gb639))) (fun _ hk => hk.2) (.int .i64 ((rd_T61 x11_3 x119_6).f0))) (fun _ hk => hk.2) (.int .i64 ((rd_T61 x11_3 x119_6).f1))) (fun _ hk => hk.1.1)⟩, ⟨by repeat (first | (with_reducible first | exact HB.out | apply below_alloc | apply pw_below_drewN | apply below_drew1 | refine below_set ?_ GE639.out) | exact HB.out)⟩⟩
                                          · replace c61 := Bool.eq_false_iff.mpr c61
                                            subst c61
                                            have H1 : (if x16_6.length < 8796093022208 then (pianolalaw09_VaultWrong.l2 k6 x9_5 (Int.tmod (wrap64 (a3)) 4) x11_3 x12_3 x15_5 (x16_6 ++ [(⟨(rd_T61 x11_3 x119_6).f0, (rd_T61 x11_3 x119_6).f1⟩ : S61)]) x11_3 (x11_3.length : Int) (wrap64 (x119_6 + 1))) else (none)) = some r := by rw [if_neg (show ¬ (false = true) by decide)] at H; exact H
                                            clear H
                                            have H := H1
                                            clear H1
                                            by_cases c64 : x16_6.length < 8796093022208
                                            · rw [if_pos c64] at H
                                              have LMc64 := Aside0.mk c64
                                              clear c64
                                              obtain ⟨y641, hy641⟩ : ∃ y_ : List (S61), y_ = (x16_6 ++ [(⟨(rd_T61 x11_3 x119_6).f0, (rd_T61 x11_3 x119_6).f1⟩ : S61)]) := ⟨_, rfl⟩
                                              replace H : (pianolalaw09_VaultWrong.l2 k6 x9_5 (Int.tmod (wrap64 (a3)) 4) x11_3 x12_3 x15_5 y641 x11_3 (x11_3.length : Int) (wrap64 (x119_6 + 1))) = some r := by first | (rw [hy641]; with_reducible exact H) | (have H2_ := (Option.bind_some _ _).symm.trans H; rw [hy641]; with_reducible exact H2_) | (have H2_ := (Option.bind_some _ _).symm.trans H; with_reducible exact H2_) | with_reducible exact H | (rw [hy641]; exact H) | exact H
                                              have Ny641 := Aside0.mk hy641
                                              clear hy641
                                              have H' := Aside0.mk H
                                              clear H
                                              have p638 : 0 ≤ (x119_6 : Int) := of_decide_eq_true (by first | (with_reducible assumption) | assumption)
                                              have q638 : x119_6 < (x11_3.length : Int) := of_decide_eq_true (by first | (with_reducible assumption) | assumption)
                                              obtain ⟨ad638, e638, hx638_0, hx638_1⟩ := at_T61 (Kd.R_reads' HO_117.out).2.2 x119_6 p638 q638
                                              cases e638
                                              replace p638 := eq_true p638
                                              replace q638 := eq_true q638
                                              go_wp2_with (first | ((with_reducible refine gate_dst (N := 20) rfl ?_); refine box_event ?hg (N := 20) ?hd (cs := #[.int .i64 0, .int .i64 0]) (t := 61) ?hr ?_; (case hd => rfl); (case hg => rfl); (case hr => first | (go_simp; done) | (go_simp; rfl)); intro gb639 hg w65 hbox hb; have n0_ := Aside0.mk (Kd.R_below (by (with_reducible repeat (first | apply Kd.R_alloc | apply Kd.R_drewN | apply Kd.R_drew)); exact HO_9.out) hb); have n1_ := Aside0.mk (Kd.R_below (Kd.R_elderB (by (with_reducible repeat (first | apply Kd.R_alloc | apply Kd.R_drewN | apply Kd.R_drew)); exact HO_11.out) gb639 (Nat.le_of_eq hg.symm)) hb); have n2_ := Aside0.mk (Kd.R_below (by (with_reducible repeat (first | apply Kd.R_alloc | apply Kd.R_drewN | apply Kd.R_drew)); exact HO_12.out) hb); have n3_ := Aside0.mk (Kd.R_below (by (with_reducible repeat (first | apply Kd.R_alloc | apply Kd.R_drewN | apply Kd.R_drew)); exact HO_15.out) hb); have n4_ := Aside0.mk (Kd.R_below (Kd.R_elderB (by (with_reducible repeat (first | apply Kd.R_alloc | apply Kd.R_drewN | apply Kd.R_drew)); exact HO_16.out) gb639 (Nat.le_of_eq hg.symm)) hb); have n5_ := Aside0.mk (Kd.R_below (Kd.R_elderB (by (with_reducible repeat (first | apply Kd.R_alloc | apply Kd.R_drewN | apply Kd.R_drew)); exact HO_117.out) gb639 (Nat.le_of_eq hg.symm)) hb); have n6_ := Aside0.mk (below_step (by repeat (first | (with_reducible first | exact HB.out | apply below_alloc | apply pw_below_drewN | apply below_drew1) | exact HB.out)) hb); have n7_ := Aside0.mk (hbox); have n8_ := Aside0.mk ((by rw [hg]; exact (below_size (by repeat (first | (with_reducible first | exact HB.out | apply below_alloc | apply pw_below_drewN | apply below_drew1) | exact HB.out))) : w.heap.size ≤ gb639)); have n9_ := Aside0.mk ((by rw [hg]; exact (below_size (by repeat (first | (with_reducible first | exact HB.out | apply below_alloc | apply pw_below_drewN | apply below_drew1) | exact HB.out))) : w.heap.size ≤ gb639)); clear HO_9; clear HO_11; clear HO_12; clear HO_15; clear HO_16; clear HO_117; clear HB; have HO_9 := n0_; have HO_11 := n1_; have HO_12 := n2_; have HO_15 := n3_; have HO_16 := n4_; have HO_117 := n5_; have HB := n6_; have BK639 := n7_; have GW639 := n8_; have GE639 := n9_; clear n0_ n1_ n2_ n3_ n4_ n5_ n6_ n7_ n8_ n9_; clear hb hbox hg; have hcz66_0 : w65.cell? ⟨gb639, 0, none⟩ = some (.int .i64 0) := (blk_cell BK639.out 0).trans rfl; have hcz66_1 : w65.cell? ⟨gb639, 1, none⟩ = some (.int .i64 0) := (blk_cell BK639.out 1).trans rfl; have hfz66_0 := blk_frozen BK639.out 0; have hfz66_1 := blk_frozen BK639.out 1; have p640 : 0 ≤ (((rd_T61 x11_3 x119_6).f0) : Int) := of_decide_eq_true (by first | (with_reducible assumption) | assumption); have q640 : ((rd_T61 x11_3 x119_6).f0) < (x12_3.length : Int) := of_decide_eq_true (by first | (with_reducible assumption) | assumption); obtain ⟨ad640, e640, hx640_0⟩ := Kd.at_bool (Kd.R_reads' HO_12.out).2.2 ((rd_T61 x11_3 x119_6).f0) p640 q640; (try rw [← Nbq60.out] at hx640_0); cases e640; have hn640_0 : ad640.block ≠ gb639 := Kd.own_blk (Kd.R_ne HO_12.out BK639.out (by decide)); have hn640_1 : ad640.block ≠ gb639 := Kd.own_blk (Kd.R_ne HO_12.out BK639.out (by decide)); replace hx640_0 := (cell_far (p := ⟨gb639, 0, none⟩) (by first | (rw [add_block]; exact hn640_0) | (show (Addr.add _ _).block ≠ _; rw [add_block]; exact hn640_0) | exact hn640_0) (.int .i64 ((rd_T61 x11_3 x119_6).f0))).trans hx640_0; replace hx640_0 := (cell_far (p := ⟨gb639, 1, none⟩) (by first | (rw [add_block]; exact hn640_1) | (show (Addr.add _ _).block ≠ _; rw [add_block]; exact hn640_1) | exact hn640_1) (.int .i64 ((rd_T61 x11_3 x119_6).f1))).trans hx640_0; clear hn640_0; clear hn640_1; replace p640 := eq_true p640; replace q640 := eq_true q640) | ((with_reducible refine gate_builtin (b := .append) (xs := #[.tmp 129, .tmp 131]) rfl ?_); at_builtin; refine Kd.R_append k61 (w0 := w) w.heap.size rfl (.tmp 129) (.tmp 131) 28 61 (.agg #[(.int .i64 0), (.int .i64 0)]) 16 rfl Try.underlying28 info61 rfl (by decide) (by omega) u16 x16_6 (⟨(rd_T61 x11_3 x119_6).f0, (rd_T61 x11_3 x119_6).f1⟩ : S61) [.int .i64 ((rd_T61 x11_3 x119_6).f0), .int .i64 ((rd_T61 x11_3 x119_6).f1)] (fun k_ => some k_ ≠ (.slice (some ad638) x11_3.length co54 : Value).ownBlock ∧ some k_ ≠ (.slice (some ad638) x11_3.length co54 : Value).ownBlock ∧ k_ ≠ gb639) (fun _ => False) rfl (by first | (go_simp; done) | (go_simp; rfl)) ?aP (fun _ hk => hk.elim) ?aF ?aO ?aB ?aS ?aL ?_; (case aP => exact k61_mkM _ _ _ (⟨(rd_T61 x11_3 x119_6).f0, (rd_T61 x11_3 x119_6).f1⟩ : S61)); (case aB => exact (by repeat (first | (with_reducible first | exact HB.out | apply below_alloc | apply pw_below_drewN | apply below_drew1 | refine below_set ?_ GE639.out) | exact HB.out))); (case aF => exact (fun k_ hk => ⟨Kd.fresh' (Kd.R_lt (by (with_reducible repeat (first | apply Kd.R_alloc | apply Kd.R_drewN | apply Kd.R_drew)); exact (Kd.R_mono (Kd.R_far (p := ⟨gb639, 1, none⟩) (Kd.R_far (p := ⟨gb639, 0, none⟩) (Kd.R_mono HO_11.out (fun k_ hk => (⟨hk, hk.2⟩ : _ ∧ k_ ≠ gb639))) (fun _ hk => hk.2) (.int .i64 ((rd_T61 x11_3 x119_6).f0))) (fun _ hk => hk.2) (.int .i64 ((rd_T61 x11_3 x119_6).f1))) (fun _ h_ => h_.1)))) k_ hk, Kd.fresh' (Kd.R_lt (by (with_reducible repeat (first | apply Kd.R_alloc | apply Kd.R_drewN | apply Kd.R_drew)); exact (Kd.R_mono (Kd.R_far (p := ⟨gb639, 1, none⟩) (Kd.R_far (p := ⟨gb639, 0, none⟩) (Kd.R_mono HO_117.out (fun k_ hk => (⟨hk, hk.2⟩ : _ ∧ k_ ≠ gb639))) (fun _ hk => hk.2) (.int .i64 ((rd_T61 x11_3 x119_6).f0))) (fun _ hk => hk.2) (.int .i64 ((rd_T61 x11_3 x119_6).f1))) (fun _ h_ => h_.1)))) k_ hk, Kd.freshB (g := gb639) (o := .cells #[.int .i64 ((rd_T61 x11_3 x119_6).f0), .int .i64 ((rd_T61 x11_3 x119_6).f1)] 61 (0, 0)) (by (with_reducible repeat (first | refine blk_drewN ?_ _ | refine blk_drew ?_ | refine blk_alloc ?_ _)); refine blk_put (cs := #[.int .i64 ((rd_T61 x11_3 x119_6).f0), .int .i64 0]) ?_ 1 _ rfl; (with_reducible repeat (first | refine blk_drewN ?_ _ | refine blk_drew ?_ | refine blk_alloc ?_ _)); refine blk_put (cs := #[.int .i64 0, .int .i64 0]) ?_ 0 _ rfl; (with_reducible repeat (first | refine blk_drewN ?_ _ | refine blk_drew ?_ | refine blk_alloc ?_ _)); exact BK639.out) k_ hk⟩)); (case aO => exact (by (with_reducible repeat (first | apply Kd.R_alloc | apply Kd.R_drewN | apply Kd.R_drew)); exact Kd.R_mono (Kd.R_far (p := ⟨gb639, 1, none⟩) (Kd.R_far (p := ⟨gb639, 0, none⟩) (Kd.R_mono HO_16.out (fun k_ hk => (⟨hk, hk.2⟩ : _ ∧ k_ ≠ gb639))) (fun _ hk => hk.2) (.int .i64 ((rd_T61 x11_3 x119_6).f0))) (fun _ hk => hk.2) (.int .i64 ((rd_T61 x11_3 x119_6).f1))) (fun _ hk => ⟨hk.1.1.1, ⟨hk.1.1.2, hk.1.2⟩⟩))); (case aS => exact (below_size (by repeat (first | (with_reducible first | exact HB.out | apply below_alloc | apply pw_below_drewN | apply below_drew1 | refine below_set ?_ GE639.out) | exact HB.out)))); (case aL => have := LMc64.out; omega); intro v642 w67 ho hb hg hat; rw [← Ny641.out] at ho; have n0_ := Aside0.mk (Kd.R_over' (by (with_reducible repeat (first | apply Kd.R_alloc | apply Kd.R_drewN | apply Kd.R_drew)); exact (Kd.R_mono (Kd.R_far (p := ⟨gb639, 1, none⟩) (Kd.R_far (p := ⟨gb639, 0, none⟩) (Kd.R_types HO_9.out BK639.out (by decide)) (fun _ hk => hk.2) (.int .i64 ((rd_T61 x11_3 x119_6).f0))) (fun _ hk => hk.2) (.int .i64 ((rd_T61 x11_3 x119_6).f1))) (fun _ h_ => h_.1))) (Kd.R_typed (by (with_reducible repeat (first | apply Kd.R_alloc | apply Kd.R_drewN | apply Kd.R_drew)); exact (Kd.R_mono (Kd.R_far (p := ⟨gb639, 1, none⟩) (Kd.R_far (p := ⟨gb639, 0, none⟩) (Kd.R_mono HO_16.out (fun k_ hk => (⟨hk, hk.2⟩ : _ ∧ k_ ≠ gb639))) (fun _ hk => hk.2) (.int .i64 ((rd_T61 x11_3 x119_6).f0))) (fun _ hk => hk.2) (.int .i64 ((rd_T61 x11_3 x119_6).f1))) (fun _ h_ => h_.1)))) (by decide) hg); have n1_ := Aside0.mk (Kd.R_after (ok := (fun k_ => k_ ≠ gb639)) (by (with_reducible repeat (first | apply Kd.R_alloc | apply Kd.R_drewN | apply Kd.R_drew)); exact Kd.R_mono (Kd.R_far (p := ⟨gb639, 1, none⟩) (Kd.R_far (p := ⟨gb639, 0, none⟩) (Kd.R_mono HO_11.out (fun k_ hk => (⟨hk, hk.2⟩ : _ ∧ k_ ≠ gb639))) (fun _ hk => hk.2) (.int .i64 ((rd_T61 x11_3 x119_6).f0))) (fun _ hk => hk.2) (.int .i64 ((rd_T61 x11_3 x119_6).f1))) (fun _ hk => ⟨hk.1.2, hk.1.1⟩)) hg hat); have n2_ := Aside0.mk (Kd.R_over' (by (with_reducible repeat (first | apply Kd.R_alloc | apply Kd.R_drewN | apply Kd.R_drew)); exact (Kd.R_mono (Kd.R_far (p := ⟨gb639, 1, none⟩) (Kd.R_far (p := ⟨gb639, 0, none⟩) (Kd.R_types HO_12.out BK639.out (by decide)) (fun _ hk => hk.2) (.int .i64 ((rd_T61 x11_3 x119_6).f0))) (fun _ hk => hk.2) (.int .i64 ((rd_T61 x11_3 x119_6).f1))) (fun _ h_ => h_.1))) (Kd.R_typed (by (with_reducible repeat (first | apply Kd.R_alloc | apply Kd.R_drewN | apply Kd.R_drew)); exact (Kd.R_mono (Kd.R_far (p := ⟨gb639, 1, none⟩) (Kd.R_far (p := ⟨gb639, 0, none⟩) (Kd.R_mono HO_16.out (fun k_ hk => (⟨hk, hk.2⟩ : _ ∧ k_ ≠ gb639))) (fun _ hk => hk.2) (.int .i64 ((rd_T61 x11_3 x119_6).f0))) (fun _ hk => hk.2) (.int .i64 ((rd_T61 x11_3 x119_6).f1))) (fun _ h_ => h_.1)))) (by decide) hg); have n3_ := Aside0.mk (Kd.R_over' (by (with_reducible repeat (first | apply Kd.R_alloc | apply Kd.R_drewN | apply Kd.R_drew)); exact (Kd.R_mono (Kd.R_far (p := ⟨gb639, 1, none⟩) (Kd.R_far (p := ⟨gb639, 0, none⟩) (Kd.R_types HO_15.out BK639.out (by decide)) (fun _ hk => hk.2) (.int .i64 ((rd_T61 x11_3 x119_6).f0))) (fun _ hk => hk.2) (.int .i64 ((rd_T61 x11_3 x119_6).f1))) (fun _ h_ => h_.1))) (Kd.R_typed (by (with_reducible repeat (first | apply Kd.R_alloc | apply Kd.R_drewN | apply Kd.R_drew)); exact (Kd.R_mono (Kd.R_far (p := ⟨gb639, 1, none⟩) (Kd.R_far (p := ⟨gb639, 0, none⟩) (Kd.R_mono HO_16.out (fun k_ hk => (⟨hk, hk.2⟩ : _ ∧ k_ ≠ gb639))) (fun _ hk => hk.2) (.int .i64 ((rd_T61 x11_3 x119_6).f0))) (fun _ hk => hk.2) (.int .i64 ((rd_T61 x11_3 x119_6).f1))) (fun _ h_ => h_.1)))) (by decide) hg); have n4_ := Aside0.mk (Kd.R_after (ok := (fun k_ => k_ ≠ gb639)) (by (with_reducible repeat (first | apply Kd.R_alloc | apply Kd.R_drewN | apply Kd.R_drew)); exact Kd.R_mono (Kd.R_far (p := ⟨gb639, 1, none⟩) (Kd.R_far (p := ⟨gb639, 0, none⟩) (Kd.R_mono HO_117.out (fun k_ hk => (⟨hk, hk.2⟩ : _ ∧ k_ ≠ gb639))) (fun _ hk => hk.2) (.int .i64 ((rd_T61 x11_3 x119_6).f0))) (fun _ hk => hk.2) (.int .i64 ((rd_T61 x11_3 x119_6).f1))) (fun _ hk => ⟨hk.1.2, hk.1.1⟩)) hg hat); have n5_ := Aside0.mk (blk_grown (g := gb639) (o := .cells #[.int .i64 ((rd_T61 x11_3 x119_6).f0), .int .i64 ((rd_T61 x11_3 x119_6).f1)] 61 (0, 0)) (by (with_reducible repeat (first | refine blk_drewN ?_ _ | refine blk_drew ?_ | refine blk_alloc ?_ _)); refine blk_put (cs := #[.int .i64 ((rd_T61 x11_3 x119_6).f0), .int .i64 0]) ?_ 1 _ rfl; (with_reducible repeat (first | refine blk_drewN ?_ _ | refine blk_drew ?_ | refine blk_alloc ?_ _)); refine blk_put (cs := #[.int .i64 0, .int .i64 0]) ?_ 0 _ rfl; (with_reducible repeat (first | refine blk_drewN ?_ _ | refine blk_drew ?_ | refine blk_alloc ?_ _)); exact BK639.out) hg (Kd.R_away HO_16.out (fun _ hk => hk.2))); have n6_ := Aside0.mk (hb); have n7_ := Aside0.mk (ho); clear HO_9; clear HO_11; clear HO_12; clear HO_15; clear HO_117; clear BK639; clear HB; clear HO_16; have HO_9 := n0_; have HO_11 := n1_; have HO_12 := n2_; have HO_15 := n3_; have HO_117 := n4_; have BK639 := n5_; have HB := n6_; have HO643 := n7_; clear n0_ n1_ n2_ n3_ n4_ n5_ n6_ n7_; clear ho hb hg hat))
                                              go_roundg k6
                                              case measure => have := HJ5.out; have := HJ12.out; have := HK3.out; have := HJ22.out; have := HK5.out; have := HK6.out; omega
                                              case rel => exact ⟨(y641), (wrap64 (x119_6 + 1)), (by first | rfl | (simp; done) | (simp [*]; done)), H', ⟨by have := HJ5.out; have := HJ12.out; have := HK3.out; have := HJ22.out; have := HK5.out; have := HK6.out; omega⟩, ⟨by (with_reducible repeat (first | apply Kd.R_alloc | apply Kd.R_drewN | apply Kd.R_drew)); exact HO_9.out⟩, ⟨by (with_reducible repeat (first | apply Kd.R_alloc | apply Kd.R_drewN | apply Kd.R_drew)); exact Kd.R_mono HO_11.out (fun _ hk => hk.2)⟩, ⟨by (with_reducible repeat (first | apply Kd.R_alloc | apply Kd.R_drewN | apply Kd.R_drew)); exact HO_12.out⟩, ⟨by (with_reducible repeat (first | apply Kd.R_alloc | apply Kd.R_drewN | apply Kd.R_drew)); exact HO_15.out⟩, ⟨by (with_reducible repeat (first | apply Kd.R_alloc | apply Kd.R_drewN | apply Kd.R_drew)); exact Kd.R_mono HO643.out (fun _ hk => ⟨hk.1, hk.2.1⟩)⟩, ⟨by (with_reducible repeat (first | apply Kd.R_alloc | apply Kd.R_drewN | apply Kd.R_drew)); exact Kd.R_mono HO_117.out (fun _ hk => hk.2)⟩, ⟨by repeat (first | (with_reducible first | exact HB.out | apply below_alloc | apply pw_below_drewN | apply below_drew1 | refine below_set ?_ GE639.out) | exact HB.out)⟩⟩
                                            · rw [if_neg c64] at H
                                              exact absurd H (by simp)
                                        · rw [if_neg c59] at H
                                          exact absurd H (by simp)
                                      · rw [if_neg c58] at H
                                        exact absurd H (by simp)
                                    · rw [if_neg c57] at H
                                      exact absurd H (by simp)
                                  · rw [if_neg c56] at H
                                    exact absurd H (by simp)
                                · rw [if_neg c55] at H
                                  have c55b0 : decide (x119_6 < (x11_3.length : Int)) = false := decide_eq_false c55
                                  clear c55
                                  replace H := Option.bind_eq_some_iff.mp H
                                  obtain ⟨⟨t644, t645⟩, A680, H⟩ := H
                                  replace H : ((vault_Secret.f (x9_5.length : Int) x16_6).bind fun bt648 => (if t645 = 0 then (if bt648.2 = 0 then ((pianolalaw09_numbers.f k6 t644 x15_5).bind fun t650 => (if t650 = true then (if 0 < (x9_5.length : Int) then (if bt648.1 = (rd x9_5 0) then ((pianolalaw09_works.f).bind fun t652 => (some t652)) else (some false)) else (none)) else (some false))) else (some false)) else (some false))) = some r := H
                                  have A68 := Aside0.mk A680
                                  clear A680
                                  replace H := Option.bind_eq_some_iff.mp H
                                  obtain ⟨⟨t648, t649⟩, A690, H⟩ := H
                                  replace H : (if t645 = 0 then (if t649 = 0 then ((pianolalaw09_numbers.f k6 t644 x15_5).bind fun t650 => (if t650 = true then (if 0 < (x9_5.length : Int) then (if t648 = (rd x9_5 0) then ((pianolalaw09_works.f).bind fun t652 => (some t652)) else (some false)) else (none)) else (some false))) else (some false)) else (some false)) = some r := H
                                  have A69 := Aside0.mk A690
                                  clear A690
                                  by_cases c70 : t645 = 0
                                  · rw [if_pos c70] at H
                                    have c70b0 : (t645 == 0) = true := beq_iff_eq.mpr c70
                                    have c70b1 : (t645 != 0) = false := bne_eq_false_iff_eq.mpr c70
                                    clear c70
                                    by_cases c71 : t649 = 0
                                    · rw [if_pos c71] at H
                                      have c71b0 : (t649 == 0) = true := beq_iff_eq.mpr c71
                                      have c71b1 : (t649 != 0) = false := bne_eq_false_iff_eq.mpr c71
                                      clear c71
                                      replace H := Option.bind_eq_some_iff.mp H
                                      obtain ⟨t650, A720, H⟩ := H
                                      replace H : (if t650 = true then (if 0 < (x9_5.length : Int) then (if t648 = (rd x9_5 0) then ((pianolalaw09_works.f).bind fun t652 => (some t652)) else (some false)) else (none)) else (some false)) = some r := H
                                      have A72 := Aside0.mk A720
                                      clear A720
                                      by_cases c73 : t650 = true
                                      · subst c73
                                        have H1 : (if 0 < (x9_5.length : Int) then (if t648 = (rd x9_5 0) then ((pianolalaw09_works.f).bind fun t652 => (some t652)) else (some false)) else (none)) = some r := by rw [if_pos rfl] at H; exact H
                                        clear H
                                        have H := H1
                                        clear H1
                                        by_cases c74 : 0 < (x9_5.length : Int)
                                        · rw [if_pos c74] at H
                                          have c74b0 : decide (0 < (x9_5.length : Int)) = true := decide_eq_true c74
                                          have c74b1 : decide (0 < x9_5.length) = true := decide_eq_true (by omega)
                                          clear c74
                                          by_cases c75 : t648 = (rd x9_5 0)
                                          · rw [if_pos c75] at H
                                            have c75b0 : (t648 == (rd x9_5 0)) = true := beq_iff_eq.mpr c75
                                            have c75b1 : (t648 != (rd x9_5 0)) = false := bne_eq_false_iff_eq.mpr c75
                                            clear c75
                                            replace H := Option.bind_eq_some_iff.mp H
                                            obtain ⟨t652, A760, H⟩ := H
                                            replace H : (some t652) = some r := H
                                            have A76 := Aside0.mk A760
                                            clear A760
                                            obtain rfl := Option.some.inj H
                                            go_wp2_with (first | ((with_reducible refine gate_callee (f := 37) rfl ?_); refine goesL_ (some 139) rfl rfl Try.func37 (by kernel_rfl) rfl #[.int .i64 (x9_5.length : Int), .int .i64 (Int.tmod (wrap64 (a3)) 4), .slice Ao54 x11_3.length co54] rfl (by (try simp only [List.map_toArray, List.map_cons, List.map_nil]); first | done | rfl | (simp only [List.length_drop, List.length_take]; rfl)) ?_; (with_reducible refine (vault_Wrong.calls (x9_5.length : Int) (Int.tmod (wrap64 (a3)) 4) _ _ x11_3 t644 t645 _ ?side1 ?side2 A68.out).mono ?_); (case side1 => repeat (first | exact (Kd.R_reads' HO_11.out).2.2 | (with_reducible refine Kd.C_alloc ?_ _) | (with_reducible refine Kd.C_drewN ?_ _) | (with_reducible refine Kd.C_drew ?_))); (case side2 => exact (Kd.R_reads' HO_11.out).2.1); rintro e w77 ⟨v646, rfl, ho0, hb⟩; refine ⟨_, rfl, ?_⟩; have n0_ := Aside0.mk (Kd.R_elder' (by (with_reducible repeat (first | apply Kd.R_alloc | apply Kd.R_drewN | apply Kd.R_drew)); exact HO_9.out) (Kd.R_base ho0) hb); have n1_ := Aside0.mk (Kd.R_below (by (with_reducible repeat (first | apply Kd.R_alloc | apply Kd.R_drewN | apply Kd.R_drew)); exact HO_11.out) hb); have n2_ := Aside0.mk (Kd.R_below (by (with_reducible repeat (first | apply Kd.R_alloc | apply Kd.R_drewN | apply Kd.R_drew)); exact HO_12.out) hb); have n3_ := Aside0.mk (Kd.R_elder' (by (with_reducible repeat (first | apply Kd.R_alloc | apply Kd.R_drewN | apply Kd.R_drew)); exact HO_15.out) (Kd.R_base ho0) hb); have n4_ := Aside0.mk (Kd.R_below (by (with_reducible repeat (first | apply Kd.R_alloc | apply Kd.R_drewN | apply Kd.R_drew)); exact HO_16.out) hb); have n5_ := Aside0.mk (Kd.R_below (by (with_reducible repeat (first | apply Kd.R_alloc | apply Kd.R_drewN | apply Kd.R_drew)); exact HO_117.out) hb); have n6_ := Aside0.mk (Kd.R_lower (Kd.R_new' (Kd.R_new' ho0 (Kd.R_lt (by (with_reducible repeat (first | apply Kd.R_alloc | apply Kd.R_drewN | apply Kd.R_drew)); exact HO_9.out))) (Kd.R_lt (by (with_reducible repeat (first | apply Kd.R_alloc | apply Kd.R_drewN | apply Kd.R_drew)); exact HO_15.out))) (below_size (by repeat (first | (with_reducible first | exact HB.out | apply below_alloc | apply pw_below_drewN | apply below_drew1) | exact HB.out)))); have n7_ := Aside0.mk (below_step (by repeat (first | (with_reducible first | exact HB.out | apply below_alloc | apply pw_below_drewN | apply below_drew1) | exact HB.out)) hb); clear HO_9; clear HO_11; clear HO_12; clear HO_15; clear HO_16; clear HO_117; clear HB; have HO_9 := n0_; have HO_11 := n1_; have HO_12 := n2_; have HO_15 := n3_; have HO_16 := n4_; have HO_117 := n5_; have HO647 := n6_; have HB := n7_; clear n0_ n1_ n2_ n3_ n4_ n5_ n6_ n7_; (try clear hb); (try clear hb2); (try clear hk); (try clear hi); (try clear ho0); obtain ⟨Ao78, co78, eo78⟩ := Kd.R_slice HO_16.out; subst eo78) | ((with_reducible refine gate_callee (f := 30) rfl ?_); refine goesL_ (some 146) rfl rfl Try.func30 (by kernel_rfl) rfl #[.int .i64 (x9_5.length : Int), .slice Ao78 x16_6.length co78] rfl (by (try simp only [List.map_toArray, List.map_cons, List.map_nil]); first | done | rfl | (simp only [List.length_drop, List.length_take]; rfl)) ?_; (with_reducible refine (vault_Secret.calls (x9_5.length : Int) _ _ x16_6 t648 t649 _ ?side1 ?side2 A69.out).mono ?_); (case side1 => repeat (first | exact (Kd.R_reads' HO_16.out).2.2 | (with_reducible refine Kd.C_alloc ?_ _) | (with_reducible refine Kd.C_drewN ?_ _) | (with_reducible refine Kd.C_drew ?_))); (case side2 => exact (Kd.R_reads' HO_16.out).2.1); rintro e w79 ⟨rfl, hb⟩; refine ⟨_, rfl, ?_⟩; have n0_ := Aside0.mk (Kd.R_below (by (with_reducible repeat (first | apply Kd.R_alloc | apply Kd.R_drewN | apply Kd.R_drew)); exact HO_9.out) hb); have n1_ := Aside0.mk (Kd.R_below (by (with_reducible repeat (first | apply Kd.R_alloc | apply Kd.R_drewN | apply Kd.R_drew)); exact HO_11.out) hb); have n2_ := Aside0.mk (Kd.R_below (by (with_reducible repeat (first | apply Kd.R_alloc | apply Kd.R_drewN | apply Kd.R_drew)); exact HO_12.out) hb); have n3_ := Aside0.mk (Kd.R_below (by (with_reducible repeat (first | apply Kd.R_alloc | apply Kd.R_drewN | apply Kd.R_drew)); exact HO_15.out) hb); have n4_ := Aside0.mk (Kd.R_below (by (with_reducible repeat (first | apply Kd.R_alloc | apply Kd.R_drewN | apply Kd.R_drew)); exact HO_16.out) hb); have n5_ := Aside0.mk (Kd.R_below (by (with_reducible repeat (first | apply Kd.R_alloc | apply Kd.R_drewN | apply Kd.R_drew)); exact HO_117.out) hb); have n6_ := Aside0.mk (Kd.R_below (by (with_reducible repeat (first | apply Kd.R_alloc | apply Kd.R_drewN | apply Kd.R_drew)); exact HO647.out) hb); have n7_ := Aside0.mk (below_step (by repeat (first | (with_reducible first | exact HB.out | apply below_alloc | apply pw_below_drewN | apply below_drew1) | exact HB.out)) hb); clear HO_9; clear HO_11; clear HO_12; clear HO_15; clear HO_16; clear HO_117; clear HO647; clear HB; have HO_9 := n0_; have HO_11 := n1_; have HO_12 := n2_; have HO_15 := n3_; have HO_16 := n4_; have HO_117 := n5_; have HO647 := n6_; have HB := n7_; clear n0_ n1_ n2_ n3_ n4_ n5_ n6_ n7_; (try clear hb); (try clear hb2); (try clear hk); (try clear hi); obtain ⟨Ao80, co80, eo80⟩ := Kd.R_slice HO647.out; subst eo80; obtain ⟨Ao81, co81, eo81⟩ := Kd.R_slice HO_15.out; subst eo81) | (go_at_call 32; (with_reducible refine (pianolalaw09_numbers.calls k6 _ _ t644 _ _ x15_5 true _ ?side1 ?side2 ?side3 ?side4 A72.out).mono ?_); (case side1 => repeat (first | exact (Kd.R_reads' HO647.out).2.2 | (with_reducible refine Kd.C_alloc ?_ _) | (with_reducible refine Kd.C_drewN ?_ _) | (with_reducible refine Kd.C_drew ?_))); (case side2 => exact (Kd.R_reads' HO647.out).2.1); (case side3 => repeat (first | exact (Kd.R_reads' HO_15.out).2.2 | (with_reducible refine Kd.C_alloc ?_ _) | (with_reducible refine Kd.C_drewN ?_ _) | (with_reducible refine Kd.C_drew ?_))); (case side4 => exact (Kd.R_reads' HO_15.out).2.1); rintro e w' ⟨rfl, ⟨nd, rfl⟩⟩; have p651 : 0 ≤ (0 : Int) := (by omega); have q651 : 0 < (x9_5.length : Int) := of_decide_eq_true (by first | (with_reducible assumption) | assumption); obtain ⟨ad651, e651, hx651_0⟩ := Kd.at_int (Kd.R_reads' HO_9.out).2.2 0 p651 q651; cases e651; have qi651 : (0 < x9_5.length) = True := eq_true (by omega); (try rw [show ((0 : Int)).toNat = 0 from rfl] at hx651_0); (try rw [Addr.add_zero'] at hx651_0); replace p651 := eq_true p651; replace q651 := eq_true q651) | (go_at_call 17; (with_reducible refine (pianolalaw09_works.calls  t652 _ A76.out).mono ?_); rintro e w82 ⟨rfl, hb⟩; have n0_ := Aside0.mk (Kd.R_below (by (with_reducible repeat (first | apply Kd.R_alloc | apply Kd.R_drewN | apply Kd.R_drew)); exact HO_9.out) hb); have n1_ := Aside0.mk (Kd.R_below (by (with_reducible repeat (first | apply Kd.R_alloc | apply Kd.R_drewN | apply Kd.R_drew)); exact HO_11.out) hb); have n2_ := Aside0.mk (Kd.R_below (by (with_reducible repeat (first | apply Kd.R_alloc | apply Kd.R_drewN | apply Kd.R_drew)); exact HO_12.out) hb); have n3_ := Aside0.mk (Kd.R_below (by (with_reducible repeat (first | apply Kd.R_alloc | apply Kd.R_drewN | apply Kd.R_drew)); exact HO_15.out) hb); have n4_ := Aside0.mk (Kd.R_below (by (with_reducible repeat (first | apply Kd.R_alloc | apply Kd.R_drewN | apply Kd.R_drew)); exact HO_16.out) hb); have n5_ := Aside0.mk (Kd.R_below (by (with_reducible repeat (first | apply Kd.R_alloc | apply Kd.R_drewN | apply Kd.R_drew)); exact HO_117.out) hb); have n6_ := Aside0.mk (Kd.R_below (by (with_reducible repeat (first | apply Kd.R_alloc | apply Kd.R_drewN | apply Kd.R_drew)); exact HO647.out) hb); have n7_ := Aside0.mk (below_step (by repeat (first | (with_reducible first | exact HB.out | apply below_alloc | apply pw_below_drewN | apply below_drew1) | exact HB.out)) hb); clear HO_9; clear HO_11; clear HO_12; clear HO_15; clear HO_16; clear HO_117; clear HO647; clear HB; have HO_9 := n0_; have HO_11 := n1_; have HO_12 := n2_; have HO_15 := n3_; have HO_16 := n4_; have HO_117 := n5_; have HO647 := n6_; have HB := n7_; clear n0_ n1_ n2_ n3_ n4_ n5_ n6_ n7_; (try clear hb); (try clear hb2); (try clear hk); (try clear hi)))
                                            go_ret
                                            exact ⟨by first | rfl | (simp [errW_none, errW_some] <;> rfl) | (simp [*, errW_none, errW_some] <;> rfl), by repeat (first | (with_reducible first | exact HB.out | apply below_alloc | apply pw_below_drewN | apply below_drew1) | exact HB.out)⟩
                                          · rw [if_neg c75] at H
                                            have c75b0 : (t648 == (rd x9_5 0)) = false := beq_eq_false_iff_ne.mpr c75
                                            have c75b1 : (t648 != (rd x9_5 0)) = true := bne_iff_ne.mpr c75
                                            obtain rfl := Option.some.inj H
                                            go_wp2_with (first | ((with_reducible refine gate_callee (f := 37) rfl ?_); refine goesL_ (some 139) rfl rfl Try.func37 (by kernel_rfl) rfl #[.int .i64 (x9_5.length : Int), .int .i64 (Int.tmod (wrap64 (a3)) 4), .slice Ao54 x11_3.length co54] rfl (by (try simp only [List.map_toArray, List.map_cons, List.map_nil]); first | done | rfl | (simp only [List.length_drop, List.length_take]; rfl)) ?_; (with_reducible refine (vault_Wrong.calls (x9_5.length : Int) (Int.tmod (wrap64 (a3)) 4) _ _ x11_3 t644 t645 _ ?side1 ?side2 A68.out).mono ?_); (case side1 => repeat (first | exact (Kd.R_reads' HO_11.out).2.2 | (with_reducible refine Kd.C_alloc ?_ _) | (with_reducible refine Kd.C_drewN ?_ _) | (with_reducible refine Kd.C_drew ?_))); (case side2 => exact (Kd.R_reads' HO_11.out).2.1); rintro e w83 ⟨v646, rfl, ho0, hb⟩; refine ⟨_, rfl, ?_⟩; have n0_ := Aside0.mk (Kd.R_elder' (by (with_reducible repeat (first | apply Kd.R_alloc | apply Kd.R_drewN | apply Kd.R_drew)); exact HO_9.out) (Kd.R_base ho0) hb); have n1_ := Aside0.mk (Kd.R_below (by (with_reducible repeat (first | apply Kd.R_alloc | apply Kd.R_drewN | apply Kd.R_drew)); exact HO_11.out) hb); have n2_ := Aside0.mk (Kd.R_below (by (with_reducible repeat (first | apply Kd.R_alloc | apply Kd.R_drewN | apply Kd.R_drew)); exact HO_12.out) hb); have n3_ := Aside0.mk (Kd.R_elder' (by (with_reducible repeat (first | apply Kd.R_alloc | apply Kd.R_drewN | apply Kd.R_drew)); exact HO_15.out) (Kd.R_base ho0) hb); have n4_ := Aside0.mk (Kd.R_below (by (with_reducible repeat (first | apply Kd.R_alloc | apply Kd.R_drewN | apply Kd.R_drew)); exact HO_16.out) hb); have n5_ := Aside0.mk (Kd.R_below (by (with_reducible repeat (first | apply Kd.R_alloc | apply Kd.R_drewN | apply Kd.R_drew)); exact HO_117.out) hb); have n6_ := Aside0.mk (Kd.R_lower (Kd.R_new' (Kd.R_new' ho0 (Kd.R_lt (by (with_reducible repeat (first | apply Kd.R_alloc | apply Kd.R_drewN | apply Kd.R_drew)); exact HO_9.out))) (Kd.R_lt (by (with_reducible repeat (first | apply Kd.R_alloc | apply Kd.R_drewN | apply Kd.R_drew)); exact HO_15.out))) (below_size (by repeat (first | (with_reducible first | exact HB.out | apply below_alloc | apply pw_below_drewN | apply below_drew1) | exact HB.out)))); have n7_ := Aside0.mk (below_step (by repeat (first | (with_reducible first | exact HB.out | apply below_alloc | apply pw_below_drewN | apply below_drew1) | exact HB.out)) hb); clear HO_9; clear HO_11; clear HO_12; clear HO_15; clear HO_16; clear HO_117; clear HB; have HO_9 := n0_; have HO_11 := n1_; have HO_12 := n2_; have HO_15 := n3_; have HO_16 := n4_; have HO_117 := n5_; have HO647 := n6_; have HB := n7_; clear n0_ n1_ n2_ n3_ n4_ n5_ n6_ n7_; (try clear hb); (try clear hb2); (try clear hk); (try clear hi); (try clear ho0); obtain ⟨Ao84, co84, eo84⟩ := Kd.R_slice HO_16.out; subst eo84) | ((with_reducible refine gate_callee (f := 30) rfl ?_); refine goesL_ (some 146) rfl rfl Try.func30 (by kernel_rfl) rfl #[.int .i64 (x9_5.length : Int), .slice Ao84 x16_6.length co84] rfl (by (try simp only [List.map_toArray, List.map_cons, List.map_nil]); first | done | rfl | (simp only [List.length_drop, List.length_take]; rfl)) ?_; (with_reducible refine (vault_Secret.calls (x9_5.length : Int) _ _ x16_6 t648 t649 _ ?side1 ?side2 A69.out).mono ?_); (case side1 => repeat (first | exact (Kd.R_reads' HO_16.out).2.2 | (with_reducible refine Kd.C_alloc ?_ _) | (with_reducible refine Kd.C_drewN ?_ _) | (with_reducible refine Kd.C_drew ?_))); (case side2 => exact (Kd.R_reads' HO_16.out).2.1); rintro e w85 ⟨rfl, hb⟩; refine ⟨_, rfl, ?_⟩; have n0_ := Aside0.mk (Kd.R_below (by (with_reducible repeat (first | apply Kd.R_alloc | apply Kd.R_drewN | apply Kd.R_drew)); exact HO_9.out) hb); have n1_ := Aside0.mk (Kd.R_below (by (with_reducible repeat (first | apply Kd.R_alloc | apply Kd.R_drewN | apply Kd.R_drew)); exact HO_11.out) hb); have n2_ := Aside0.mk (Kd.R_below (by (with_reducible repeat (first | apply Kd.R_alloc | apply Kd.R_drewN | apply Kd.R_drew)); exact HO_12.out) hb); have n3_ := Aside0.mk (Kd.R_below (by (with_reducible repeat (first | apply Kd.R_alloc | apply Kd.R_drewN | apply Kd.R_drew)); exact HO_15.out) hb); have n4_ := Aside0.mk (Kd.R_below (by (with_reducible repeat (first | apply Kd.R_alloc | apply Kd.R_drewN | apply Kd.R_drew)); exact HO_16.out) hb); have n5_ := Aside0.mk (Kd.R_below (by (with_reducible repeat (first | apply Kd.R_alloc | apply Kd.R_drewN | apply Kd.R_drew)); exact HO_117.out) hb); have n6_ := Aside0.mk (Kd.R_below (by (with_reducible repeat (first | apply Kd.R_alloc | apply Kd.R_drewN | apply Kd.R_drew)); exact HO647.out) hb); have n7_ := Aside0.mk (below_step (by repeat (first | (with_reducible first | exact HB.out | apply below_alloc | apply pw_below_drewN | apply below_drew1) | exact HB.out)) hb); clear HO_9; clear HO_11; clear HO_12; clear HO_15; clear HO_16; clear HO_117; clear HO647; clear HB; have HO_9 := n0_; have HO_11 := n1_; have HO_12 := n2_; have HO_15 := n3_; have HO_16 := n4_; have HO_117 := n5_; have HO647 := n6_; have HB := n7_; clear n0_ n1_ n2_ n3_ n4_ n5_ n6_ n7_; (try clear hb); (try clear hb2); (try clear hk); (try clear hi); obtain ⟨Ao86, co86, eo86⟩ := Kd.R_slice HO647.out; subst eo86; obtain ⟨Ao87, co87, eo87⟩ := Kd.R_slice HO_15.out; subst eo87) | (go_at_call 32; (with_reducible refine (pianolalaw09_numbers.calls k6 _ _ t644 _ _ x15_5 true _ ?side1 ?side2 ?side3 ?side4 A72.out).mono ?_); (case side1 => repeat (first | exact (Kd.R_reads' HO647.out).2.2 | (with_reducible refine Kd.C_alloc ?_ _) | (with_reducible refine Kd.C_drewN ?_ _) | (with_reducible refine Kd.C_drew ?_))); (case side2 => exact (Kd.R_reads' HO647.out).2.1); (case side3 => repeat (first | exact (Kd.R_reads' HO_15.out).2.2 | (with_reducible refine Kd.C_alloc ?_ _) | (with_reducible refine Kd.C_drewN ?_ _) | (with_reducible refine Kd.C_drew ?_))); (case side4 => exact (Kd.R_reads' HO_15.out).2.1); rintro e w' ⟨rfl, ⟨nd, rfl⟩⟩; have p651 : 0 ≤ (0 : Int) := (by omega); have q651 : 0 < (x9_5.length : Int) := of_decide_eq_true (by first | (with_reducible assumption) | assumption); obtain ⟨ad651, e651, hx651_0⟩ := Kd.at_int (Kd.R_reads' HO_9.out).2.2 0 p651 q651; cases e651; have qi651 : (0 < x9_5.length) = True := eq_true (by omega); (try rw [show ((0 : Int)).toNat = 0 from rfl] at hx651_0); (try rw [Addr.add_zero'] at hx651_0); replace p651 := eq_true p651; replace q651 := eq_true q651))
                                            go_ret
                                            exact ⟨by first | rfl | (simp [errW_none, errW_some] <;> rfl) | (simp [*, errW_none, errW_some] <;> rfl), by repeat (first | (with_reducible first | exact HB.out | apply below_alloc | apply pw_below_drewN | apply below_drew1) | exact HB.out)⟩
                                        · rw [if_neg c74] at H
                                          exact absurd H (by simp)
                                      · replace c73 := Bool.eq_false_iff.mpr c73
                                        subst c73
                                        have H1 : (some false) = some r := by rw [if_neg (show ¬ (false = true) by decide)] at H; exact H
                                        clear H
                                        have H := H1
                                        clear H1
                                        obtain rfl := Option.some.inj H
                                        go_wp2_with (first | ((with_reducible refine gate_callee (f := 37) rfl ?_); refine goesL_ (some 139) rfl rfl Try.func37 (by kernel_rfl) rfl #[.int .i64 (x9_5.length : Int), .int .i64 (Int.tmod (wrap64 (a3)) 4), .slice Ao54 x11_3.length co54] rfl (by (try simp only [List.map_toArray, List.map_cons, List.map_nil]); first | done | rfl | (simp only [List.length_drop, List.length_take]; rfl)) ?_; (with_reducible refine (vault_Wrong.calls (x9_5.length : Int) (Int.tmod (wrap64 (a3)) 4) _ _ x11_3 t644 t645 _ ?side1 ?side2 A68.out).mono ?_); (case side1 => repeat (first | exact (Kd.R_reads' HO_11.out).2.2 | (with_reducible refine Kd.C_alloc ?_ _) | (with_reducible refine Kd.C_drewN ?_ _) | (with_reducible refine Kd.C_drew ?_))); (case side2 => exact (Kd.R_reads' HO_11.out).2.1); rintro e w88 ⟨v646, rfl, ho0, hb⟩; refine ⟨_, rfl, ?_⟩; have n0_ := Aside0.mk (Kd.R_elder' (by (with_reducible repeat (first | apply Kd.R_alloc | apply Kd.R_drewN | apply Kd.R_drew)); exact HO_9.out) (Kd.R_base ho0) hb); have n1_ := Aside0.mk (Kd.R_below (by (with_reducible repeat (first | apply Kd.R_alloc | apply Kd.R_drewN | apply Kd.R_drew)); exact HO_11.out) hb); have n2_ := Aside0.mk (Kd.R_below (by (with_reducible repeat (first | apply Kd.R_alloc | apply Kd.R_drewN | apply Kd.R_drew)); exact HO_12.out) hb); have n3_ := Aside0.mk (Kd.R_elder' (by (with_reducible repeat (first | apply Kd.R_alloc | apply Kd.R_drewN | apply Kd.R_drew)); exact HO_15.out) (Kd.R_base ho0) hb); have n4_ := Aside0.mk (Kd.R_below (by (with_reducible repeat (first | apply Kd.R_alloc | apply Kd.R_drewN | apply Kd.R_drew)); exact HO_16.out) hb); have n5_ := Aside0.mk (Kd.R_below (by (with_reducible repeat (first | apply Kd.R_alloc | apply Kd.R_drewN | apply Kd.R_drew)); exact HO_117.out) hb); have n6_ := Aside0.mk (Kd.R_lower (Kd.R_new' (Kd.R_new' ho0 (Kd.R_lt (by (with_reducible repeat (first | apply Kd.R_alloc | apply Kd.R_drewN | apply Kd.R_drew)); exact HO_9.out))) (Kd.R_lt (by (with_reducible repeat (first | apply Kd.R_alloc | apply Kd.R_drewN | apply Kd.R_drew)); exact HO_15.out))) (below_size (by repeat (first | (with_reducible first | exact HB.out | apply below_alloc | apply pw_below_drewN | apply below_drew1) | exact HB.out)))); have n7_ := Aside0.mk (below_step (by repeat (first | (with_reducible first | exact HB.out | apply below_alloc | apply pw_below_drewN | apply below_drew1) | exact HB.out)) hb); clear HO_9; clear HO_11; clear HO_12; clear HO_15; clear HO_16; clear HO_117; clear HB; have HO_9 := n0_; have HO_11 := n1_; have HO_12 := n2_; have HO_15 := n3_; have HO_16 := n4_; have HO_117 := n5_; have HO647 := n6_; have HB := n7_; clear n0_ n1_ n2_ n3_ n4_ n5_ n6_ n7_; (try clear hb); (try clear hb2); (try clear hk); (try clear hi); (try clear ho0); obtain ⟨Ao89, co89, eo89⟩ := Kd.R_slice HO_16.out; subst eo89) | ((with_reducible refine gate_callee (f := 30) rfl ?_); refine goesL_ (some 146) rfl rfl Try.func30 (by kernel_rfl) rfl #[.int .i64 (x9_5.length : Int), .slice Ao89 x16_6.length co89] rfl (by (try simp only [List.map_toArray, List.map_cons, List.map_nil]); first | done | rfl | (simp only [List.length_drop, List.length_take]; rfl)) ?_; (with_reducible refine (vault_Secret.calls (x9_5.length : Int) _ _ x16_6 t648 t649 _ ?side1 ?side2 A69.out).mono ?_); (case side1 => repeat (first | exact (Kd.R_reads' HO_16.out).2.2 | (with_reducible refine Kd.C_alloc ?_ _) | (with_reducible refine Kd.C_drewN ?_ _) | (with_reducible refine Kd.C_drew ?_))); (case side2 => exact (Kd.R_reads' HO_16.out).2.1); rintro e w90 ⟨rfl, hb⟩; refine ⟨_, rfl, ?_⟩; have n0_ := Aside0.mk (Kd.R_below (by (with_reducible repeat (first | apply Kd.R_alloc | apply Kd.R_drewN | apply Kd.R_drew)); exact HO_9.out) hb); have n1_ := Aside0.mk (Kd.R_below (by (with_reducible repeat (first | apply Kd.R_alloc | apply Kd.R_drewN | apply Kd.R_drew)); exact HO_11.out) hb); have n2_ := Aside0.mk (Kd.R_below (by (with_reducible repeat (first | apply Kd.R_alloc | apply Kd.R_drewN | apply Kd.R_drew)); exact HO_12.out) hb); have n3_ := Aside0.mk (Kd.R_below (by (with_reducible repeat (first | apply Kd.R_alloc | apply Kd.R_drewN | apply Kd.R_drew)); exact HO_15.out) hb); have n4_ := Aside0.mk (Kd.R_below (by (with_reducible repeat (first | apply Kd.R_alloc | apply Kd.R_drewN | apply Kd.R_drew)); exact HO_16.out) hb); have n5_ := Aside0.mk (Kd.R_below (by (with_reducible repeat (first | apply Kd.R_alloc | apply Kd.R_drewN | apply Kd.R_drew)); exact HO_117.out) hb); have n6_ := Aside0.mk (Kd.R_below (by (with_reducible repeat (first | apply Kd.R_alloc | apply Kd.R_drewN | apply Kd.R_drew)); exact HO647.out) hb); have n7_ := Aside0.mk (below_step (by repeat (first | (with_reducible first | exact HB.out | apply below_alloc | apply pw_below_drewN | apply below_drew1) | exact HB.out)) hb); clear HO_9; clear HO_11; clear HO_12; clear HO_15; clear HO_16; clear HO_117; clear HO647; clear HB; have HO_9 := n0_; have HO_11 := n1_; have HO_12 := n2_; have HO_15 := n3_; have HO_16 := n4_; have HO_117 := n5_; have HO647 := n6_; have HB := n7_; clear n0_ n1_ n2_ n3_ n4_ n5_ n6_ n7_; (try clear hb); (try clear hb2); (try clear hk); (try clear hi); obtain ⟨Ao91, co91, eo91⟩ := Kd.R_slice HO647.out; subst eo91; obtain ⟨Ao92, co92, eo92⟩ := Kd.R_slice HO_15.out; subst eo92) | (go_at_call 32; (with_reducible refine (pianolalaw09_numbers.calls k6 _ _ t644 _ _ x15_5 false _ ?side1 ?side2 ?side3 ?side4 A72.out).mono ?_); (case side1 => repeat (first | exact (Kd.R_reads' HO647.out).2.2 | (with_reducible refine Kd.C_alloc ?_ _) | (with_reducible refine Kd.C_drewN ?_ _) | (with_reducible refine Kd.C_drew ?_))); (case side2 => exact (Kd.R_reads' HO647.out).2.1); (case side3 => repeat (first | exact (Kd.R_reads' HO_15.out).2.2 | (with_reducible refine Kd.C_alloc ?_ _) | (with_reducible refine Kd.C_drewN ?_ _) | (with_reducible refine Kd.C_drew ?_))); (case side4 => exact (Kd.R_reads' HO_15.out).2.1); rintro e w' ⟨rfl, ⟨nd, rfl⟩⟩))
                                        go_ret
                                        exact ⟨by first | rfl | (simp [errW_none, errW_some] <;> rfl) | (simp [*, errW_none, errW_some] <;> rfl), by repeat (first | (with_reducible first | exact HB.out | apply below_alloc | apply pw_below_drewN | apply below_drew1) | exact HB.out)⟩
                                    · rw [if_neg c71] at H
                                      have c71b0 : (t649 == 0) = false := beq_eq_false_iff_ne.mpr c71
                                      have c71b1 : (t649 != 0) = true := bne_iff_ne.mpr c71
                                      obtain rfl := Option.some.inj H
                                      go_wp2_with (first | ((with_reducible refine gate_callee (f := 37) rfl ?_); refine goesL_ (some 139) rfl rfl Try.func37 (by kernel_rfl) rfl #[.int .i64 (x9_5.length : Int), .int .i64 (Int.tmod (wrap64 (a3)) 4), .slice Ao54 x11_3.length co54] rfl (by (try simp only [List.map_toArray, List.map_cons, List.map_nil]); first | done | rfl | (simp only [List.length_drop, List.length_take]; rfl)) ?_; (with_reducible refine (vault_Wrong.calls (x9_5.length : Int) (Int.tmod (wrap64 (a3)) 4) _ _ x11_3 t644 t645 _ ?side1 ?side2 A68.out).mono ?_); (case side1 => repeat (first | exact (Kd.R_reads' HO_11.out).2.2 | (with_reducible refine Kd.C_alloc ?_ _) | (with_reducible refine Kd.C_drewN ?_ _) | (with_reducible refine Kd.C_drew ?_))); (case side2 => exact (Kd.R_reads' HO_11.out).2.1); rintro e w93 ⟨v646, rfl, ho0, hb⟩; refine ⟨_, rfl, ?_⟩; have n0_ := Aside0.mk (Kd.R_elder' (by (with_reducible repeat (first | apply Kd.R_alloc | apply Kd.R_drewN | apply Kd.R_drew)); exact HO_9.out) (Kd.R_base ho0) hb); have n1_ := Aside0.mk (Kd.R_below (by (with_reducible repeat (first | apply Kd.R_alloc | apply Kd.R_drewN | apply Kd.R_drew)); exact HO_11.out) hb); have n2_ := Aside0.mk (Kd.R_below (by (with_reducible repeat (first | apply Kd.R_alloc | apply Kd.R_drewN | apply Kd.R_drew)); exact HO_12.out) hb); have n3_ := Aside0.mk (Kd.R_elder' (by (with_reducible repeat (first | apply Kd.R_alloc | apply Kd.R_drewN | apply Kd.R_drew)); exact HO_15.out) (Kd.R_base ho0) hb); have n4_ := Aside0.mk (Kd.R_below (by (with_reducible repeat (first | apply Kd.R_alloc | apply Kd.R_drewN | apply Kd.R_drew)); exact HO_16.out) hb); have n5_ := Aside0.mk (Kd.R_below (by (with_reducible repeat (first | apply Kd.R_alloc | apply Kd.R_drewN | apply Kd.R_drew)); exact HO_117.out) hb); have n6_ := Aside0.mk (Kd.R_lower (Kd.R_new' (Kd.R_new' ho0 (Kd.R_lt (by (with_reducible repeat (first | apply Kd.R_alloc | apply Kd.R_drewN | apply Kd.R_drew)); exact HO_9.out))) (Kd.R_lt (by (with_reducible repeat (first | apply Kd.R_alloc | apply Kd.R_drewN | apply Kd.R_drew)); exact HO_15.out))) (below_size (by repeat (first | (with_reducible first | exact HB.out | apply below_alloc | apply pw_below_drewN | apply below_drew1) | exact HB.out)))); have n7_ := Aside0.mk (below_step (by repeat (first | (with_reducible first | exact HB.out | apply below_alloc | apply pw_below_drewN | apply below_drew1) | exact HB.out)) hb); clear HO_9; clear HO_11; clear HO_12; clear HO_15; clear HO_16; clear HO_117; clear HB; have HO_9 := n0_; have HO_11 := n1_; have HO_12 := n2_; have HO_15 := n3_; have HO_16 := n4_; have HO_117 := n5_; have HO647 := n6_; have HB := n7_; clear n0_ n1_ n2_ n3_ n4_ n5_ n6_ n7_; (try clear hb); (try clear hb2); (try clear hk); (try clear hi); (try clear ho0); obtain ⟨Ao94, co94, eo94⟩ := Kd.R_slice HO_16.out; subst eo94) | ((with_reducible refine gate_callee (f := 30) rfl ?_); refine goesL_ (some 146) rfl rfl Try.func30 (by kernel_rfl) rfl #[.int .i64 (x9_5.length : Int), .slice Ao94 x16_6.length co94] rfl (by (try simp only [List.map_toArray, List.map_cons, List.map_nil]); first | done | rfl | (simp only [List.length_drop, List.length_take]; rfl)) ?_; (with_reducible refine (vault_Secret.calls (x9_5.length : Int) _ _ x16_6 t648 t649 _ ?side1 ?side2 A69.out).mono ?_); (case side1 => repeat (first | exact (Kd.R_reads' HO_16.out).2.2 | (with_reducible refine Kd.C_alloc ?_ _) | (with_reducible refine Kd.C_drewN ?_ _) | (with_reducible refine Kd.C_drew ?_))); (case side2 => exact (Kd.R_reads' HO_16.out).2.1); rintro e w95 ⟨rfl, hb⟩; refine ⟨_, rfl, ?_⟩; have n0_ := Aside0.mk (Kd.R_below (by (with_reducible repeat (first | apply Kd.R_alloc | apply Kd.R_drewN | apply Kd.R_drew)); exact HO_9.out) hb); have n1_ := Aside0.mk (Kd.R_below (by (with_reducible repeat (first | apply Kd.R_alloc | apply Kd.R_drewN | apply Kd.R_drew)); exact HO_11.out) hb); have n2_ := Aside0.mk (Kd.R_below (by (with_reducible repeat (first | apply Kd.R_alloc | apply Kd.R_drewN | apply Kd.R_drew)); exact HO_12.out) hb); have n3_ := Aside0.mk (Kd.R_below (by (with_reducible repeat (first | apply Kd.R_alloc | apply Kd.R_drewN | apply Kd.R_drew)); exact HO_15.out) hb); have n4_ := Aside0.mk (Kd.R_below (by (with_reducible repeat (first | apply Kd.R_alloc | apply Kd.R_drewN | apply Kd.R_drew)); exact HO_16.out) hb); have n5_ := Aside0.mk (Kd.R_below (by (with_reducible repeat (first | apply Kd.R_alloc | apply Kd.R_drewN | apply Kd.R_drew)); exact HO_117.out) hb); have n6_ := Aside0.mk (Kd.R_below (by (with_reducible repeat (first | apply Kd.R_alloc | apply Kd.R_drewN | apply Kd.R_drew)); exact HO647.out) hb); have n7_ := Aside0.mk (below_step (by repeat (first | (with_reducible first | exact HB.out | apply below_alloc | apply pw_below_drewN | apply below_drew1) | exact HB.out)) hb); clear HO_9; clear HO_11; clear HO_12; clear HO_15; clear HO_16; clear HO_117; clear HO647; clear HB; have HO_9 := n0_; have HO_11 := n1_; have HO_12 := n2_; have HO_15 := n3_; have HO_16 := n4_; have HO_117 := n5_; have HO647 := n6_; have HB := n7_; clear n0_ n1_ n2_ n3_ n4_ n5_ n6_ n7_; (try clear hb); (try clear hb2); (try clear hk); (try clear hi)))
                                      go_ret
                                      exact ⟨by first | rfl | (simp [errW_none, errW_some] <;> rfl) | (simp [*, errW_none, errW_some] <;> rfl), by repeat (first | (with_reducible first | exact HB.out | apply below_alloc | apply pw_below_drewN | apply below_drew1) | exact HB.out)⟩
                                  · rw [if_neg c70] at H
                                    have c70b0 : (t645 == 0) = false := beq_eq_false_iff_ne.mpr c70
                                    have c70b1 : (t645 != 0) = true := bne_iff_ne.mpr c70
                                    obtain rfl := Option.some.inj H
                                    go_wp2_with (first | ((with_reducible refine gate_callee (f := 37) rfl ?_); refine goesL_ (some 139) rfl rfl Try.func37 (by kernel_rfl) rfl #[.int .i64 (x9_5.length : Int), .int .i64 (Int.tmod (wrap64 (a3)) 4), .slice Ao54 x11_3.length co54] rfl (by (try simp only [List.map_toArray, List.map_cons, List.map_nil]); first | done | rfl | (simp only [List.length_drop, List.length_take]; rfl)) ?_; (with_reducible refine (vault_Wrong.calls (x9_5.length : Int) (Int.tmod (wrap64 (a3)) 4) _ _ x11_3 t644 t645 _ ?side1 ?side2 A68.out).mono ?_); (case side1 => repeat (first | exact (Kd.R_reads' HO_11.out).2.2 | (with_reducible refine Kd.C_alloc ?_ _) | (with_reducible refine Kd.C_drewN ?_ _) | (with_reducible refine Kd.C_drew ?_))); (case side2 => exact (Kd.R_reads' HO_11.out).2.1); rintro e w96 ⟨v646, rfl, ho0, hb⟩; refine ⟨_, rfl, ?_⟩; have n0_ := Aside0.mk (Kd.R_elder' (by (with_reducible repeat (first | apply Kd.R_alloc | apply Kd.R_drewN | apply Kd.R_drew)); exact HO_9.out) (Kd.R_base ho0) hb); have n1_ := Aside0.mk (Kd.R_below (by (with_reducible repeat (first | apply Kd.R_alloc | apply Kd.R_drewN | apply Kd.R_drew)); exact HO_11.out) hb); have n2_ := Aside0.mk (Kd.R_below (by (with_reducible repeat (first | apply Kd.R_alloc | apply Kd.R_drewN | apply Kd.R_drew)); exact HO_12.out) hb); have n3_ := Aside0.mk (Kd.R_elder' (by (with_reducible repeat (first | apply Kd.R_alloc | apply Kd.R_drewN | apply Kd.R_drew)); exact HO_15.out) (Kd.R_base ho0) hb); have n4_ := Aside0.mk (Kd.R_below (by (with_reducible repeat (first | apply Kd.R_alloc | apply Kd.R_drewN | apply Kd.R_drew)); exact HO_16.out) hb); have n5_ := Aside0.mk (Kd.R_below (by (with_reducible repeat (first | apply Kd.R_alloc | apply Kd.R_drewN | apply Kd.R_drew)); exact HO_117.out) hb); have n6_ := Aside0.mk (Kd.R_lower (Kd.R_new' (Kd.R_new' ho0 (Kd.R_lt (by (with_reducible repeat (first | apply Kd.R_alloc | apply Kd.R_drewN | apply Kd.R_drew)); exact HO_9.out))) (Kd.R_lt (by (with_reducible repeat (first | apply Kd.R_alloc | apply Kd.R_drewN | apply Kd.R_drew)); exact HO_15.out))) (below_size (by repeat (first | (with_reducible first | exact HB.out | apply below_alloc | apply pw_below_drewN | apply below_drew1) | exact HB.out)))); have n7_ := Aside0.mk (below_step (by repeat (first | (with_reducible first | exact HB.out | apply below_alloc | apply pw_below_drewN | apply below_drew1) | exact HB.out)) hb); clear HO_9; clear HO_11; clear HO_12; clear HO_15; clear HO_16; clear HO_117; clear HB; have HO_9 := n0_; have HO_11 := n1_; have HO_12 := n2_; have HO_15 := n3_; have HO_16 := n4_; have HO_117 := n5_; have HO647 := n6_; have HB := n7_; clear n0_ n1_ n2_ n3_ n4_ n5_ n6_ n7_; (try clear hb); (try clear hb2); (try clear hk); (try clear hi); (try clear ho0); obtain ⟨Ao97, co97, eo97⟩ := Kd.R_slice HO_16.out; subst eo97) | ((with_reducible refine gate_callee (f := 30) rfl ?_); refine goesL_ (some 146) rfl rfl Try.func30 (by kernel_rfl) rfl #[.int .i64 (x9_5.length : Int), .slice Ao97 x16_6.length co97] rfl (by (try simp only [List.map_toArray, List.map_cons, List.map_nil]); first | done | rfl | (simp only [List.length_drop, List.length_take]; rfl)) ?_; (with_reducible refine (vault_Secret.calls (x9_5.length : Int) _ _ x16_6 t648 t649 _ ?side1 ?side2 A69.out).mono ?_); (case side1 => repeat (first | exact (Kd.R_reads' HO_16.out).2.2 | (with_reducible refine Kd.C_alloc ?_ _) | (with_reducible refine Kd.C_drewN ?_ _) | (with_reducible refine Kd.C_drew ?_))); (case side2 => exact (Kd.R_reads' HO_16.out).2.1); rintro e w98 ⟨rfl, hb⟩; refine ⟨_, rfl, ?_⟩; have n0_ := Aside0.mk (Kd.R_below (by (with_reducible repeat (first | apply Kd.R_alloc | apply Kd.R_drewN | apply Kd.R_drew)); exact HO_9.out) hb); have n1_ := Aside0.mk (Kd.R_below (by (with_reducible repeat (first | apply Kd.R_alloc | apply Kd.R_drewN | apply Kd.R_drew)); exact HO_11.out) hb); have n2_ := Aside0.mk (Kd.R_below (by (with_reducible repeat (first | apply Kd.R_alloc | apply Kd.R_drewN | apply Kd.R_drew)); exact HO_12.out) hb); have n3_ := Aside0.mk (Kd.R_below (by (with_reducible repeat (first | apply Kd.R_alloc | apply Kd.R_drewN | apply Kd.R_drew)); exact HO_15.out) hb); have n4_ := Aside0.mk (Kd.R_below (by (with_reducible repeat (first | apply Kd.R_alloc | apply Kd.R_drewN | apply Kd.R_drew)); exact HO_16.out) hb); have n5_ := Aside0.mk (Kd.R_below (by (with_reducible repeat (first | apply Kd.R_alloc | apply Kd.R_drewN | apply Kd.R_drew)); exact HO_117.out) hb); have n6_ := Aside0.mk (Kd.R_below (by (with_reducible repeat (first | apply Kd.R_alloc | apply Kd.R_drewN | apply Kd.R_drew)); exact HO647.out) hb); have n7_ := Aside0.mk (below_step (by repeat (first | (with_reducible first | exact HB.out | apply below_alloc | apply pw_below_drewN | apply below_drew1) | exact HB.out)) hb); clear HO_9; clear HO_11; clear HO_12; clear HO_15; clear HO_16; clear HO_117; clear HO647; clear HB; have HO_9 := n0_; have HO_11 := n1_; have HO_12 := n2_; have HO_15 := n3_; have HO_16 := n4_; have HO_117 := n5_; have HO647 := n6_; have HB := n7_; clear n0_ n1_ n2_ n3_ n4_ n5_ n6_ n7_; (try clear hb); (try clear hb2); (try clear hk); (try clear hi)))
                                    go_ret
                                    exact ⟨by first | rfl | (simp [errW_none, errW_some] <;> rfl) | (simp [*, errW_none, errW_some] <;> rfl), by repeat (first | (with_reducible first | exact HB.out | apply below_alloc | apply pw_below_drewN | apply below_drew1) | exact HB.out)⟩
          · rw [if_neg c20] at H
            exact absurd H (by simp)
end Go.Proofs.Ytpfkfbbekfkcgaa.P
end
section
namespace Go.Proofs.Ytpfkfbbekfkcgaa.P
set_option linter.unusedVariables false
set_option linter.unusedSimpArgs false
abbrev K251 := Fin 251
def fk (a : Int) : K251 := ⟨(a % 251).toNat, by omega⟩
theorem fk_val (a : Int) : ((fk a).val : Int) = a % 251 := by
  show (((a % 251).toNat : Nat) : Int) = _
  omega
theorem fk_eq {a b : Int} : fk a = fk b ↔ a % 251 = b % 251 := by
  constructor
  · intro h
    rw [← fk_val, ← fk_val, h]
  · intro h
    apply Fin.ext
    have := fk_val a
    have := fk_val b
    omega
theorem fk_of {k : K251} {a : Int} (h : (k.val : Int) = a % 251) : fk a = k := by
  apply Fin.ext
  have := fk_val a
  omega
theorem fk_mod (a : Int) : fk (a % 251) = fk a := fk_eq.2 (by omega)
theorem fk_add (a b : Int) : fk (a + b) = fk a + fk b := by
  apply fk_of
  have h1 := fk_val a
  have h2 := fk_val b
  rw [Fin.val_add]
  omega
theorem fk_sub (a b : Int) : fk (a - b) = fk a - fk b := by
  apply fk_of
  have h1 := fk_val a
  have h2 := fk_val b
  have h3 := (fk b).isLt
  rw [Fin.val_sub]
  omega
theorem fk_mul (a b : Int) : fk (a * b) = fk a * fk b := by
  apply fk_of
  have h1 := fk_val a
  have h2 := fk_val b
  rw [Fin.val_mul]
  rw [Int.mul_emod, ← h1, ← h2]
  simp
theorem fk_zero : fk 0 = 0 := rfl
theorem fk_one : fk 1 = 1 := rfl
theorem fk_inj {a b : Int} (a0 : 0 ≤ a) (a1 : a ≤ 250) (b0 : 0 ≤ b) (b1 : b ≤ 250) (h : fk a = fk b) : a = b := by
  have := fk_eq.1 h
  omega
def iF (a : K251) : K251 := a ^ 249
theorem inv_ex : ∀ a : K251, a ≠ 0 → a * iF a = 1 := by decide +kernel
theorem mul_zero' {a b : K251} (h : a * b = 0) (ha : a ≠ 0) : b = 0 := by
  have h1 := inv_ex a ha
  grind
def eF : List K251 → K251 → K251
  | [], _ => 0
  | a :: l, x => a + x * eF l x
def dv : List K251 → K251 → List K251
  | [], _ => []
  | [_], _ => []
  | _ :: b :: l, r => eF (b :: l) r :: dv (b :: l) r
theorem dv_len : ∀ (l : List K251) (r : K251), (dv l r).length = l.length - 1
  | [], _ => rfl
  | [_], _ => rfl
  | _ :: b :: l, r => by
    have := dv_len (b :: l) r
    simp only [dv, List.length_cons] at this ⊢
    omega
theorem dv_eF : ∀ (l : List K251) (r x : K251), eF l x - eF l r = (x - r) * eF (dv l r) x
  | [], r, x => by simp only [eF, dv]; grind
  | [a], r, x => by simp only [eF, dv]; grind
  | a :: b :: l, r, x => by
    have ih := dv_eF (b :: l) r x
    have e1 : eF (a :: b :: l) x = a + x * eF (b :: l) x := rfl
    have e2 : eF (a :: b :: l) r = a + r * eF (b :: l) r := rfl
    have e3 : eF (dv (a :: b :: l) r) x = eF (b :: l) r + x * eF (dv (b :: l) r) x := rfl
    rw [e1, e2, e3]
    grind
theorem dv_zero : ∀ (l : List K251) (r : K251), (∀ c ∈ dv l r, c = 0) → eF l r = 0 → ∀ c ∈ l, c = 0
  | [], _, _, _ => fun _ h => by cases h
  | [a], r, _, h => fun c hc => by
    simp only [eF] at h
    rw [List.mem_singleton] at hc
    subst hc
    grind
  | a :: b :: l, r, hd, h => fun c hc => by
    have h1 : eF (b :: l) r = 0 := hd _ (by simp [dv])
    have h2 := dv_zero (b :: l) r (fun c hc => hd c (by simp only [dv, List.mem_cons]; exact .inr hc)) h1
    have e2 : eF (a :: b :: l) r = a + r * eF (b :: l) r := rfl
    rw [e2, h1] at h
    cases hc with
    | head => grind
    | tail _ hc => exact h2 c hc
theorem roots : ∀ (n : Nat) (l xs : List K251), l.length = n → n ≤ xs.length → xs.Nodup → (∀ x ∈ xs, eF l x = 0) → ∀ c ∈ l, c = 0
  | 0, l, _, hl, _, _, _ => by
    rw [List.length_eq_zero_iff] at hl
    subst hl
    exact fun _ h => by cases h
  | n + 1, l, [], _, hx, _, _ => by simp at hx
  | n + 1, l, r :: ys, hl, hx, hd, hr => by
    rw [List.nodup_cons] at hd
    have h0 := hr r (by simp)
    refine dv_zero l r ?_ h0
    refine roots n (dv l r) ys (by rw [dv_len]; omega) (by simpa using hx) hd.2 (fun y hy => ?_)
    have h1 := hr y (by simp [hy])
    have h2 := dv_eF l r y
    rw [h0, h1] at h2
    refine mul_zero' (a := y - r) (by rw [← h2]; grind) (fun e => hd.1 ?_)
    have : y = r := by grind
    rw [← this]; exact hy
def subL (l m : List K251) : List K251 := List.zipWith (· - ·) l m
theorem eF_sub : ∀ (l m : List K251) (x : K251), l.length = m.length → eF (subL l m) x = eF l x - eF m x
  | [], [], x, _ => by simp only [subL, List.zipWith_nil_left, eF]; grind
  | a :: l, b :: m, x, h => by
    have ih := eF_sub l m x (by simpa using h)
    simp only [subL, List.zipWith_cons_cons, eF] at ih ⊢
    rw [ih]
    grind
  | [], _ :: _, _, h => by simp at h
  | _ :: _, [], _, h => by simp at h
theorem subL_zero : ∀ (l m : List K251), l.length = m.length → (∀ c ∈ subL l m, c = 0) → l = m
  | [], [], _, _ => rfl
  | a :: l, b :: m, h, hz => by
    have h1 : a - b = 0 := hz _ (by simp [subL])
    have h2 := subL_zero l m (by simpa using h) (fun c hc => hz c (by simp only [subL, List.zipWith_cons_cons, List.mem_cons] at hc ⊢; exact .inr hc))
    rw [h2, show a = b by grind]
  | [], _ :: _, h, _ => by simp at h
  | _ :: _, [], h, _ => by simp at h
theorem uniqueF (l m xs : List K251) (h : l.length = m.length) (hx : l.length ≤ xs.length) (hd : xs.Nodup) (he : ∀ x ∈ xs, eF l x = eF m x) : l = m := by
  refine subL_zero l m h (roots l.length _ xs (by simp [subL, h]) hx hd (fun x hx => ?_))
  rw [eF_sub _ _ _ h, he x hx]
  grind
end Go.Proofs.Ytpfkfbbekfkcgaa.P
end
section
namespace Go.Proofs.Ytpfkfbbekfkcgaa.P
open Go.RowKit Go.Proofs.YtpfkfbbekfkcgaaW.PrintWords Go.Proofs.YtpfkfbbekfkcgaaW.PrintLast Go.Proofs.YtpfkfbbekfkcgaaW.PrintMore
set_option linter.unusedVariables false
set_option linter.unusedSimpArgs false
theorem inv_all' : ∀ n : Fin 251, fk (inv (n.val : Int)) = iF n := by decide +kernel
theorem fk_inv {a : Int} (ha : F251 a) : fk (inv a) = iF (fk a) := by
  obtain ⟨a0, a1⟩ := ha
  have h := inv_all' ⟨a.toNat, by omega⟩
  have e : ((⟨a.toNat, by omega⟩ : Fin 251).val : Int) = a := by simp [Int.toNat_of_nonneg a0]
  rw [e] at h
  rw [h]
  congr 1
  exact (fk_of (by simp; omega)).symm
theorem fk_ev (p : List Int) (x : Int) : fk (ev p x) = eF (p.map fk) (fk x) := by
  induction p with
  | nil => rfl
  | cons c p ih =>
    show fk (((ev p x * x) % 251 + c) % 251) = fk c + fk x * eF (p.map fk) (fk x)
    rw [fk_mod, fk_add, fk_mod, fk_mul, ih]
    grind
def facF (x : K251) (a b : S61) : K251 := if a.f0 = b.f0 then 1 else (x - fk b.f0) * iF (fk a.f0 - fk b.f0)
def prodF (x : K251) (a : S61) (l : List S61) : K251 := l.foldr (fun b p => facF x a b * p) 1
def sumF (f : S61 → K251) (l : List S61) : K251 := l.foldr (fun a v => f a + v) 0
theorem fk_part_from (x : Int) (a : S61) : ∀ (l : List S61) (p : Int), fk (l.foldl (factor x a) p) = fk p * prodF (fk x) a l
  | [], p => by show fk p = fk p * 1; grind
  | b :: l, p => by
    have e : fk (factor x a p b) = fk p * facF (fk x) a b := by
      unfold factor facF
      split
      · grind
      · rw [fk_mod, fk_mul, fk_mod, fk_mul, fk_mod, fk_sub, fk_inv (mod_in _), fk_mod, fk_sub]
        grind
    rw [List.foldl_cons, fk_part_from x a l, e]
    show _ = fk p * (facF (fk x) a b * prodF (fk x) a l)
    grind
theorem fk_part (x : Int) (l : List S61) (a : S61) : fk (part x l a) = fk a.f1 * prodF (fk x) a l := by
  unfold part
  rw [fk_part_from, fk_mod]
theorem fk_lag_from (x : Int) (m : List S61) : ∀ (l : List S61) (v : Int), fk (l.foldl (fun v a => (v + part x m a) % 251) v) = fk v + sumF (fun a => fk a.f1 * prodF (fk x) a m) l
  | [], v => by show fk v = fk v + 0; grind
  | a :: l, v => by
    rw [List.foldl_cons, fk_lag_from x m l, fk_mod, fk_add, fk_part]
    show _ = fk v + (fk a.f1 * prodF (fk x) a m + sumF _ l)
    grind
def lagF (l : List S61) (x : K251) : K251 := sumF (fun a => fk a.f1 * prodF x a l) l
theorem fk_lag (l : List S61) (x : Int) : fk (lag l x) = lagF l (fk x) := by
  unfold lag
  rw [fk_lag_from, fk_zero]
  show 0 + lagF l (fk x) = _
  grind
theorem lag_in (l : List S61) (x : Int) : F251 (lag l x) := by
  unfold lag
  refine snoc_ind (P := fun m => F251 (m.foldl (fun v a => (v + part x l a) % 251) 0)) ?_ ?_ l
  · exact ⟨Int.le_refl _, by show (0 : Int) ≤ 250; decide⟩
  · intro m a _
    rw [List.foldl_append]
    exact mod_in _
structure KD (l : List S61) : Prop where
  nd : (l.map S61.f0).Nodup
  k : ∀ s ∈ l, F251 s.f0
  v : ∀ s ∈ l, F251 s.f1
theorem fk_ne {a b : Int} (ha : F251 a) (hb : F251 b) (h : a ≠ b) : fk a ≠ fk b := fun e => h (fk_inj ha.1 ha.2 hb.1 hb.2 e)
theorem KD.sub {l m : List S61} (h : KD l) (p : m.Sublist l) : KD m :=
  ⟨h.nd.sublist (p.map _), fun s hs => h.k s (p.subset hs), fun s hs => h.v s (p.subset hs)⟩
def places (l : List S61) : List K251 := l.map fun s => fk s.f0
theorem nodup_map {α β : Type} {f : α → β} : ∀ {l : List α}, l.Nodup → (∀ a ∈ l, ∀ b ∈ l, f a = f b → a = b) → (l.map f).Nodup
  | [], _, _ => List.nodup_nil
  | a :: l, h, hi => by
    rw [List.nodup_cons] at h
    rw [List.map_cons, List.nodup_cons]
    refine ⟨fun hm => ?_, nodup_map h.2 (fun x hx y hy => hi x (List.mem_cons_of_mem _ hx) y (List.mem_cons_of_mem _ hy))⟩
    obtain ⟨b, hb, e⟩ := List.mem_map.1 hm
    have := hi b (List.mem_cons_of_mem _ hb) a (List.mem_cons_self ..) e
    exact h.1 (this ▸ hb)
theorem places_nd {l : List S61} (h : KD l) : (places l).Nodup := by
  have e : places l = (l.map S61.f0).map fk := by simp [places]
  rw [e]
  refine nodup_map h.nd (fun a ha b hb e => ?_)
  obtain ⟨s, hs, rfl⟩ := List.mem_map.1 ha
  obtain ⟨t, ht, rfl⟩ := List.mem_map.1 hb
  have h1 := h.k s hs
  have h2 := h.k t ht
  exact fk_inj h1.1 h1.2 h2.1 h2.2 e
theorem prodF_zero {x : K251} {a b : S61} : ∀ {l : List S61}, b ∈ l → a.f0 ≠ b.f0 → x = fk b.f0 → prodF x a l = 0
  | c :: l, hb, hne, hx => by
    show facF x a c * prodF x a l = 0
    cases hb with
    | head =>
      unfold facF
      rw [if_neg hne, hx]
      grind
    | tail _ hb =>
      rw [prodF_zero hb hne hx]
      grind
theorem prodF_one (a : S61) : ∀ (l : List S61), (∀ s ∈ l, F251 s.f0) → F251 a.f0 → prodF (fk a.f0) a l = 1
  | [], _, _ => rfl
  | b :: l, hl, ha => by
    show facF _ a b * prodF _ a l = 1
    rw [prodF_one a l (fun s hs => hl s (List.mem_cons_of_mem _ hs)) ha]
    unfold facF
    split
    · grind
    · rename_i hne
      have h1 := fk_ne ha (hl b (List.mem_cons_self ..)) hne
      have h2 := inv_ex (fk a.f0 - fk b.f0) (fun e => h1 (by grind))
      rw [h2]
      grind
theorem sumF_one {f : S61 → K251} {a : S61} : ∀ {l : List S61}, (l.map S61.f0).Nodup → a ∈ l → (∀ b ∈ l, b.f0 ≠ a.f0 → f b = 0) → sumF f l = f a
  | b :: l, hn, ha, hz => by
    show f b + sumF f l = f a
    rw [List.map_cons, List.nodup_cons] at hn
    cases ha with
    | head =>
      have : sumF f l = 0 := by
        have : ∀ m : List S61, (∀ c ∈ m, f c = 0) → sumF f m = 0 := by
          intro m
          induction m with
          | nil => exact fun _ => rfl
          | cons c m ih =>
            intro h
            show f c + sumF f m = 0
            rw [h c (List.mem_cons_self ..), ih (fun d hd => h d (List.mem_cons_of_mem _ hd))]
            grind
        exact this l (fun c hc => hz c (List.mem_cons_of_mem _ hc) (fun e => hn.1 (e ▸ List.mem_map_of_mem hc)))
      rw [this]
      grind
    | tail _ ha =>
      have h1 : b.f0 ≠ a.f0 := fun e => hn.1 (e ▸ List.mem_map_of_mem ha)
      rw [hz b (List.mem_cons_self ..) h1, sumF_one hn.2 ha (fun c hc => hz c (List.mem_cons_of_mem _ hc))]
      grind
theorem lagF_at {l : List S61} (h : KD l) {a : S61} (ha : a ∈ l) : lagF l (fk a.f0) = fk a.f1 := by
  unfold lagF
  rw [sumF_one h.nd ha (fun b hb hne => by rw [prodF_zero ha hne rfl]; grind), prodF_one a l h.k (h.k a ha)]
  grind
def mulC (k d : K251) : K251 → List K251 → List K251
  | c, [] => [c * d]
  | c, b :: q => (c - b * k) * d :: mulC k d b q
theorem mulC_len (k d : K251) : ∀ (c : K251) (q : List K251), (mulC k d c q).length = q.length + 1
  | _, [] => rfl
  | _, b :: q => by simp [mulC, mulC_len k d b q]
theorem mulC_eF (k d x : K251) : ∀ (c : K251) (q : List K251), eF (mulC k d c q) x = d * (c + (x - k) * eF q x)
  | c, [] => by simp only [mulC, eF]; grind
  | c, b :: q => by
    simp only [mulC, eF]
    rw [mulC_eF k d x b q]
    grind
def addL : List K251 → List K251 → List K251
  | [], m => m
  | l, [] => l
  | a :: l, b :: m => (a + b) :: addL l m
theorem addL_len : ∀ (l m : List K251), (addL l m).length = max l.length m.length
  | [], m => by simp [addL]
  | a :: l, [] => by simp [addL]
  | a :: l, b :: m => by simp [addL, addL_len l m]
theorem addL_eF (x : K251) : ∀ (l m : List K251), eF (addL l m) x = eF l x + eF m x
  | [], m => by simp only [addL, eF]; grind
  | a :: l, [] => by simp only [addL, eF]; grind
  | a :: l, b :: m => by
    simp only [addL, eF]
    rw [addL_eF x l m]
    grind
def oneL (a : S61) : List S61 → List K251
  | [] => [1]
  | b :: l => if a.f0 = b.f0 then oneL a l else mulC (fk b.f0) (iF (fk a.f0 - fk b.f0)) 0 (oneL a l)
theorem oneL_eF (x : K251) (a : S61) : ∀ (l : List S61), eF (oneL a l) x = prodF x a l
  | [] => by simp only [oneL, eF]; show _ = (1 : K251); grind
  | b :: l => by
    have ih := oneL_eF x a l
    show _ = facF x a b * prodF x a l
    unfold oneL facF
    split
    · rw [ih]; grind
    · rw [mulC_eF, ih]; grind
theorem oneL_le (a : S61) : ∀ (l : List S61), (oneL a l).length ≤ l.length + 1
  | [] => by simp [oneL]
  | b :: l => by
    have := oneL_le a l
    unfold oneL
    split
    · simp; omega
    · rw [mulC_len]; simp; omega
theorem oneL_lt {a : S61} : ∀ {l : List S61}, a ∈ l → (oneL a l).length ≤ l.length
  | b :: l, h => by
    unfold oneL
    cases h with
    | head =>
      rw [if_pos rfl]
      have := oneL_le a l
      simpa using this
    | tail _ h =>
      have := oneL_lt h
      split
      · simp; omega
      · rw [mulC_len]; simp; omega
def scL (c : K251) (q : List K251) : List K251 := q.map fun a => c * a
theorem scL_eF (c x : K251) : ∀ q : List K251, eF (scL c q) x = c * eF q x
  | [] => by simp only [scL, List.map_nil, eF]; grind
  | a :: q => by
    have ih := scL_eF c x q
    simp only [scL, List.map_cons, eF] at ih ⊢
    rw [ih]
    grind
def lagL (m : List S61) : List S61 → List K251
  | [] => []
  | a :: l => addL (scL (fk a.f1) (oneL a m)) (lagL m l)
theorem lagL_eF (x : K251) (m : List S61) : ∀ l : List S61, eF (lagL m l) x = sumF (fun a => fk a.f1 * prodF x a m) l
  | [] => rfl
  | a :: l => by
    show eF (addL _ _) x = fk a.f1 * prodF x a m + sumF _ l
    rw [addL_eF, scL_eF, oneL_eF, lagL_eF x m l]
theorem lagL_len (m : List S61) : ∀ l : List S61, (∀ a ∈ l, a ∈ m) → (lagL m l).length ≤ m.length
  | [], _ => by simp [lagL]
  | a :: l, h => by
    have h1 := lagL_len m l (fun b hb => h b (List.mem_cons_of_mem _ hb))
    have h2 := oneL_lt (h a (List.mem_cons_self ..))
    rw [lagL, addL_len, scL, List.length_map]
    omega
theorem eF_zeros (x : K251) (n : Nat) : ∀ l : List K251, eF (l ++ List.replicate n 0) x = eF l x
  | [] => by
    induction n with
    | zero => rfl
    | succ n ih =>
      simp only [List.nil_append, List.replicate_succ, eF] at ih ⊢
      rw [ih]
      grind
  | a :: l => by
    have := eF_zeros x n l
    simp only [List.cons_append, eF]
    rw [this]
theorem lag_list (l : List S61) (n : Nat) (hn : l.length ≤ n) : ∃ p : List K251, p.length = n ∧ ∀ x, eF p x = lagF l x := by
  refine ⟨lagL l l ++ List.replicate (n - (lagL l l).length) 0, ?_, fun x => ?_⟩
  · have := lagL_len l l (fun a h => h)
    simp; omega
  · rw [eF_zeros, lagL_eF]; rfl
end Go.Proofs.Ytpfkfbbekfkcgaa.P
end
section
namespace Go.Proofs.Ytpfkfbbekfkcgaa.P
open Go.RowKit Go.Proofs.YtpfkfbbekfkcgaaW.PrintWords Go.Proofs.YtpfkfbbekfkcgaaW.PrintLast Go.Proofs.YtpfkfbbekfkcgaaW.PrintMore
set_option linter.unusedVariables false
set_option linter.unusedSimpArgs false
theorem zipF_nil (F : Int → Int → Int) : zipF F [] [] = [] := rfl
theorem zipF_cons (F : Int → Int → Int) (a b : Int) (p q : List Int) : zipF F (a :: p) (b :: q) = F a b :: zipF F p q := by
  unfold zipF
  rw [List.length_cons, List.length_cons, Nat.succ_max_succ, List.range_succ_eq_map, List.map_cons, List.map_map]
  rfl
theorem zipF_left (F : Int → Int → Int) (a : Int) (p : List Int) : zipF F (a :: p) [] = F a 0 :: zipF F p [] := by
  unfold zipF
  rw [List.length_cons, List.length_nil, Nat.max_eq_left (Nat.zero_le _), Nat.max_eq_left (Nat.zero_le _), List.range_succ_eq_map, List.map_cons, List.map_map]
  rfl
theorem zipF_right (F : Int → Int → Int) (b : Int) (q : List Int) : zipF F [] (b :: q) = F 0 b :: zipF F [] q := by
  unfold zipF
  rw [List.length_cons, List.length_nil, Nat.max_eq_right (Nat.zero_le _), Nat.max_eq_right (Nat.zero_le _), List.range_succ_eq_map, List.map_cons, List.map_map]
  rfl
theorem eF_add : ∀ (p q : List Int) (x : K251), eF ((zipF addF p q).map fk) x = eF (p.map fk) x + eF (q.map fk) x
  | [], [], x => by rw [zipF_nil]; simp only [List.map_nil, eF]; grind
  | a :: p, [], x => by
    have ih := eF_add p [] x
    rw [zipF_left]
    simp only [List.map_cons, List.map_nil, eF, addF] at ih ⊢
    rw [ih, fk_mod, fk_add, fk_zero]
    grind
  | [], b :: q, x => by
    have ih := eF_add [] q x
    rw [zipF_right]
    simp only [List.map_cons, List.map_nil, eF, addF] at ih ⊢
    rw [ih, fk_mod, fk_add, fk_zero]
    grind
  | a :: p, b :: q, x => by
    have ih := eF_add p q x
    rw [zipF_cons]
    simp only [List.map_cons, eF, addF] at ih ⊢
    rw [ih, fk_mod, fk_add]
    grind
theorem eF_subF : ∀ (p q : List Int) (x : K251), eF ((zipF subF p q).map fk) x = eF (p.map fk) x - eF (q.map fk) x
  | [], [], x => by rw [zipF_nil]; simp only [List.map_nil, eF]; grind
  | a :: p, [], x => by
    have ih := eF_subF p [] x
    rw [zipF_left]
    simp only [List.map_cons, List.map_nil, eF, subF] at ih ⊢
    rw [ih, fk_mod, fk_sub, fk_zero]
    grind
  | [], b :: q, x => by
    have ih := eF_subF [] q x
    rw [zipF_right]
    simp only [List.map_cons, List.map_nil, eF, subF] at ih ⊢
    rw [ih, fk_mod, fk_sub, fk_zero]
    grind
  | a :: p, b :: q, x => by
    have ih := eF_subF p q x
    rw [zipF_cons]
    simp only [List.map_cons, eF, subF] at ih ⊢
    rw [ih, fk_mod, fk_sub]
    grind
theorem eF_scale (a : Int) (x : K251) : ∀ p : List Int, eF ((scale p a).map fk) x = fk a * eF (p.map fk) x
  | [] => by simp only [scale, List.map_nil, eF]; grind
  | c :: p => by
    have ih := eF_scale a x p
    simp only [scale, List.map_cons, eF] at ih ⊢
    rw [ih, fk_mod, fk_mul]
    grind
def prodK (l : List S61) (x : K251) : K251 := l.foldl (fun v s => v * (x - fk s.f0)) 1
theorem prodK_snoc (l : List S61) (a : S61) (x : K251) : prodK (l ++ [a]) x = prodK l x * (x - fk a.f0) := by
  unfold prodK
  rw [List.foldl_append]; rfl
theorem zero_mul' (a b : K251) (h : a = 0) : a * b = 0 := by subst h; grind
theorem prodK_zero {a : S61} {l : List S61} : a ∈ l → prodK l (fk a.f0) = 0 := by
  refine snoc_ind (P := fun l => a ∈ l → prodK l (fk a.f0) = 0) (fun h => by cases h) ?_ l
  intro l b ih h
  rw [prodK_snoc]
  rcases List.mem_append.1 h with h | h
  · exact zero_mul' _ _ (ih h)
  · rw [List.mem_singleton] at h
    subst h
    grind
theorem prodK_ne {x : K251} {l : List S61} : (∀ a ∈ l, x ≠ fk a.f0) → prodK l x ≠ 0 := by
  refine snoc_ind (P := fun l => (∀ a ∈ l, x ≠ fk a.f0) → prodK l x ≠ 0) (fun _ => show (1 : K251) ≠ 0 by decide) ?_ l
  intro l b ih h e
  rw [prodK_snoc] at e
  have h1 := ih (fun a ha => h a (List.mem_append_left _ ha))
  have h2 := mul_zero' e h1
  exact h b (List.mem_append_right _ (List.mem_singleton_self b)) (by grind)
theorem solved_two (l : List S61) (x : K251) : eF ((solved l).2.map fk) x = prodK l x := by
  refine snoc_ind (P := fun l => eF ((solved l).2.map fk) x = prodK l x) ?_ ?_ l
  · show eF ([1].map fk) x = 1
    simp only [List.map_cons, List.map_nil, eF, fk_one]
    grind
  · intro l a ih
    rw [solved_snoc, prodK_snoc]
    show eF ((zipF subF (0 :: (solved l).2) (scale (solved l).2 a.f0)).map fk) x = _
    rw [eF_subF, eF_scale, List.map_cons]
    simp only [eF, fk_zero]
    rw [ih]
    grind
theorem solved_len (l : List S61) : (solved l).1.length = l.length := by
  refine snoc_ind (P := fun l => (solved l).1.length = l.length) rfl ?_ l
  intro l a ih
  rw [solved_snoc]
  have h2 := (solved_in l).2.2.2
  simp only [solveStep, zipF_len, scale_len, List.length_append, List.length_singleton, ih, h2]
  omega
theorem solved_at (l : List S61) : KD l → ∀ a ∈ l, eF ((solved l).1.map fk) (fk a.f0) = fk a.f1 := by
  refine snoc_ind (P := fun l => KD l → ∀ a ∈ l, eF ((solved l).1.map fk) (fk a.f0) = fk a.f1) (fun _ a h => by cases h) ?_ l
  intro l b ih hk a ha
  have hl : KD l := hk.sub (List.sublist_append_left _ _)
  rw [solved_snoc]
  show eF ((zipF addF (solved l).1 (scale (solved l).2 _)).map fk) _ = _
  rw [eF_add, eF_scale, solved_two]
  rcases List.mem_append.1 ha with ha | ha
  · rw [ih hl a ha, prodK_zero ha]
    grind
  · rw [List.mem_singleton] at ha
    subst ha
    have hne : prodK l (fk a.f0) ≠ 0 := prodK_ne (fun c hc => by
      have hn := hk.nd
      rw [List.map_append, List.nodup_append] at hn
      exact fk_ne (hk.k a (by simp)) (hk.k c (by simp [hc])) (fun e => hn.2.2 c.f0 (List.mem_map_of_mem hc) a.f0 (by simp) e.symm))
    have h2 := inv_ex _ hne
    rw [fk_mod, fk_mul, fk_mod, fk_sub, fk_inv (ev_in _ _), fk_ev, fk_ev, solved_two]
    grind
def Fit (n : Nat) (l : List S61) : Prop := ∃ p : List K251, p.length = n ∧ ∀ a ∈ l, eF p (fk a.f0) = fk a.f1
theorem fit_unique {l : List S61} (h : KD l) {p q : List K251} (hp : p.length = q.length) (hl : p.length ≤ l.length)
    (h1 : ∀ a ∈ l, eF p (fk a.f0) = fk a.f1) (h2 : ∀ a ∈ l, eF q (fk a.f0) = fk a.f1) : p = q := by
  refine uniqueF p q (places l) hp (by simpa [places] using hl) (places_nd h) (fun x hx => ?_)
  obtain ⟨a, ha, rfl⟩ := List.mem_map.1 hx
  rw [h1 a ha, h2 a ha]
theorem all_fk {p q : List Int} (hp : all251 p) (hq : all251 q) (h : p.map fk = q.map fk) : p = q := by
  induction p generalizing q with
  | nil =>
    cases q with
    | nil => rfl
    | cons b q => simp at h
  | cons a p ih =>
    cases q with
    | nil => simp at h
    | cons b q =>
      simp only [List.map_cons, List.cons.injEq] at h
      have ha := hp a (by simp)
      have hb := hq b (by simp)
      rw [fk_inj ha.1 ha.2 hb.1 hb.2 h.1, ih (fun x hx => hp x (by simp [hx])) (fun x hx => hq x (by simp [hx])) h.2]
theorem agreeB_fit {n : Nat} {l : List S61} (h : KD l) : agreeB n l = true ↔ Fit n l := by
  unfold agreeB
  by_cases c : (l.length : Int) ≤ n
  · rw [if_pos c]
    obtain ⟨p, hp, he⟩ := lag_list l n (by omega)
    exact ⟨fun _ => ⟨p, hp, fun a ha => by rw [he, lagF_at h ha]⟩, fun _ => rfl⟩
  · rw [if_neg c, show (n : Int).toNat = n by omega]
    have ht : KD (l.take n) := h.sub (List.take_sublist _ _)
    obtain ⟨p, hp, he⟩ := lag_list (l.take n) n (by rw [List.length_take]; omega)
    have hlie : lieS (l.take n) (l.drop n) = true ↔ ∀ s ∈ l.drop n, lag (l.take n) s.f0 = s.f1 := by
      unfold lieS
      simp
    rw [hlie]
    constructor
    · intro hd
      refine ⟨p, hp, fun a ha => ?_⟩
      rw [he]
      rw [← List.take_append_drop n l] at ha
      rcases List.mem_append.1 ha with ha | ha
      · exact lagF_at ht ha
      · rw [← fk_lag, hd a ha]
    · rintro ⟨q, hq, hqa⟩ s hs
      have e : p = q := fit_unique ht (by omega) (by rw [List.length_take]; omega) (fun a ha => by rw [he, lagF_at ht ha]) (fun a ha => hqa a (List.mem_of_mem_take ha))
      have hs' := List.mem_of_mem_drop hs
      have h1 := hqa s hs'
      rw [← e, he, ← fk_lag] at h1
      have hv := h.v s hs'
      exact fk_inj (lag_in _ _).1 (lag_in _ _).2 hv.1 hv.2 h1
theorem ev_eq {p : List Int} {s : S61} (hv : F251 s.f1) : ev p s.f0 = s.f1 ↔ eF (p.map fk) (fk s.f0) = fk s.f1 := by
  rw [← fk_ev]
  exact ⟨fun e => by rw [e], fun e => fk_inj (ev_in _ _).1 (ev_in _ _).2 hv.1 hv.2 e⟩
theorem lieP_iff {p : List Int} {l : List S61} (h : ∀ s ∈ l, F251 s.f1) : lieP p l = true ↔ ∀ s ∈ l, eF (p.map fk) (fk s.f0) = fk s.f1 := by
  unfold lieP
  simp only [Bool.not_eq_true', List.any_eq_false, bne_iff_ne, ne_eq, Decidable.not_not]
  exact ⟨fun hh s hs => (ev_eq (h s hs)).1 (hh s hs), fun hh s hs => (ev_eq (h s hs)).2 (hh s hs)⟩
def itp (n : Nat) (l : List S61) : List Int := (solved (l.take n)).1
theorem itp_len {n : Nat} {l : List S61} (hn : n ≤ l.length) : (itp n l).length = n := by
  unfold itp
  rw [solved_len, List.length_take]
  omega
theorem itp_in (n : Nat) (l : List S61) : all251 (itp n l) := (solved_in _).1
theorem itp_only {n : Nat} {l : List S61} (h : KD l) (hn : n ≤ l.length) {p : List K251} (hp : p.length = n) (ha : ∀ a ∈ l.take n, eF p (fk a.f0) = fk a.f1) : (itp n l).map fk = p := by
  have ht : KD (l.take n) := h.sub (List.take_sublist _ _)
  exact fit_unique ht (by rw [List.length_map, itp_len hn, hp]) (by rw [List.length_map, itp_len hn, List.length_take]; omega) (solved_at _ ht) ha
theorem lieP_fit {n : Nat} {l : List S61} (h : KD l) (hn : n ≤ l.length) : lieP (itp n l) l = true ↔ Fit n l := by
  rw [lieP_iff h.v]
  constructor
  · exact fun hh => ⟨(itp n l).map fk, by rw [List.length_map, itp_len hn], hh⟩
  · rintro ⟨p, hp, ha⟩
    rw [itp_only h hn hp (fun a hm => ha a (List.mem_of_mem_take hm))]
    exact ha
end Go.Proofs.Ytpfkfbbekfkcgaa.P
end
section
namespace Go.Proofs.Ytpfkfbbekfkcgaa.P
open Go.RowKit Go.Proofs.YtpfkfbbekfkcgaaW.PrintWords Go.Proofs.YtpfkfbbekfkcgaaW.PrintLast Go.Proofs.YtpfkfbbekfkcgaaW.PrintMore
set_option linter.unusedVariables false
set_option linter.unusedSimpArgs false
theorem Ev.pos {α : Type} {c : Prop} [Decidable c] {f g : Nat → Option α} {r : α} (h : c) (H : Ev f r) : Ev (fun k => if c then f k else g k) r := by
  simpa only [if_pos h] using H
theorem Ev.neg {α : Type} {c : Prop} [Decidable c] {f g : Nat → Option α} {r : α} (h : ¬ c) (H : Ev g r) : Ev (fun k => if c then f k else g k) r := by
  simpa only [if_neg h] using H
theorem Ev.have {α : Type} {x : Option α} {r : α} (h : x = some r) : Ev (fun _ => x) r := ⟨0, fun _ _ => h⟩
theorem w_nat (n : Nat) (h : n ≤ 4611686018427387904) : wrap64 ((n : Int) + 1) = ((n + 1 : Nat) : Int) := by unfold wrap64; omega
theorem rd_at (l : List Int) (n : Nat) (h : n < l.length) : rd l (n : Int) = l[n] := by
  unfold rd
  rw [Int.toNat_natCast, List.getD_eq_getElem?_getD, List.getElem?_eq_getElem h]; rfl
theorem drop_at {α : Type} (l : List α) (n : Nat) (h : n < l.length) : l.drop n = l[n] :: l.drop (n + 1) := List.drop_eq_getElem_cons h
theorem take_at {α : Type} (l : List α) (n : Nat) (h : n < l.length) : l.take (n + 1) = l.take n ++ [l[n]] := by rw [List.take_succ_eq_append_getElem h]
theorem rd61_at (l : List S61) (n : Nat) (h : n < l.length) : rd_T61 l (n : Int) = l[n] := by
  unfold rd_T61
  rw [Int.toNat_natCast, List.getD_eq_getElem?_getD, List.getElem?_eq_getElem h]; rfl
end Go.Proofs.Ytpfkfbbekfkcgaa.P
end
section
namespace Go.Proofs.Ytpfkfbbekfkcgaa.P
open Go.RowKit Go.Proofs.YtpfkfbbekfkcgaaW.PrintWords Go.Proofs.YtpfkfbbekfkcgaaW.PrintLast Go.Proofs.YtpfkfbbekfkcgaaW.PrintMore
set_option linter.unusedVariables false
set_option linter.unusedSimpArgs false
theorem scan_nd : ∀ (l b : List S61), scan b l = 0 → (b.map S61.f0).Nodup → ((b ++ l).map S61.f0).Nodup
  | [], b, _, hb => by rwa [List.append_nil]
  | s :: r, b, h, hb => by
    unfold scan at h
    by_cases c1 : (btw 1 s.f0 20 && btw 0 s.f1 250) = false
    · rw [if_pos c1] at h; omega
    · rw [if_neg c1] at h
      by_cases c2 : (b.any fun t => t.f0 == s.f0) = true
      · rw [if_pos c2] at h; omega
      · rw [if_neg c2] at h
        have := scan_nd r (b ++ [s]) h (by
          rw [List.map_append, List.nodup_append]
          refine ⟨hb, by simp, fun x hx y hy e => c2 ?_⟩
          obtain ⟨t, ht, rfl⟩ := List.mem_map.1 hx
          simp only [List.map_cons, List.map_nil, List.mem_singleton] at hy
          exact List.any_eq_true.2 ⟨t, ht, by simp [e, hy]⟩)
        rwa [List.append_assoc, List.singleton_append] at this
structure Fine (need : Int) (l : List S61) : Prop where
  n0 : 1 ≤ need
  n1 : need ≤ 8
  len : l.length ≤ 20
  good : ∀ s ∈ l, Good s
  kd : KD l
theorem checkE_fine {need : Int} {l : List S61} (h : checkE need l = 0) : Fine need l := by
  obtain ⟨a, b, c, d, e⟩ := checkE_ok h
  refine ⟨a, b, c, d, ?_, fun s hs => ?_, fun s hs => ?_⟩
  · have := scan_nd l [] e List.nodup_nil
    simpa using this
  · have := d s hs
    exact ⟨by have := this.1; omega, by have := this.2.1; omega⟩
  · have := d s hs
    exact ⟨this.2.2.1, this.2.2.2⟩
theorem scan_zero : ∀ (l b : List S61), (∀ s ∈ l, Good s) → ((b ++ l).map S61.f0).Nodup → scan b l = 0
  | [], b, _, _ => rfl
  | s :: r, b, h, hn => by
    have hs := h s (by simp)
    unfold scan
    rw [if_neg (by simp only [Bool.not_eq_false, Bool.and_eq_true, btw_iff]; exact ⟨⟨hs.1, hs.2.1⟩, hs.2.2⟩)]
    have hnb : ¬ (b.any fun t => t.f0 == s.f0) = true := by
      intro hc
      obtain ⟨t, ht, e⟩ := List.any_eq_true.1 hc
      rw [List.map_append, List.nodup_append] at hn
      exact hn.2.2 t.f0 (List.mem_map_of_mem ht) s.f0 (by simp) (by simpa using e)
    rw [if_neg hnb]
    refine scan_zero r (b ++ [s]) (fun t ht => h t (by simp [ht])) ?_
    rwa [List.append_assoc, List.singleton_append]
theorem checkE_zero {need : Int} {l : List S61} (n0 : 1 ≤ need) (n1 : need ≤ 8) (hl : l.length ≤ 20) (h : ∀ s ∈ l, Good s) (hn : (l.map S61.f0).Nodup) : checkE need l = 0 := by
  unfold checkE
  rw [if_neg (by rw [Bool.not_eq_false, btw_iff]; exact ⟨n0, n1⟩), if_neg (by omega)]
  exact scan_zero l [] h (by simpa using hn)
theorem kd_at {l : List S61} (h : KD l) {i j : Nat} (hi : i < l.length) (hj : j < l.length) : l[i].f0 = l[j].f0 ↔ i = j := by
  constructor
  · intro e
    have hn := h.nd
    have hp := List.pairwise_iff_getElem.1 hn
    rcases Nat.lt_trichotomy i j with c | c | c
    · exact absurd (by rw [List.getElem_map, List.getElem_map]; exact e) (hp i j (by simpa using hi) (by simpa using hj) c)
    · exact c
    · exact absurd (by rw [List.getElem_map, List.getElem_map]; exact e.symm) (hp j i (by simpa using hj) (by simpa using hi) c)
  · rintro rfl; rfl
def agreeR (need : Int) (l : List S61) : Bool × Int := if checkE need l = 0 then (agreeB need l, 0) else (false, checkE need l)
theorem vcheck_f (need : Int) (l : List S61) : vault_check.f need l = some (checkE need l) := rfl
theorem numbers_ev (a b : List Int) (h : a.length ≤ 1000000) : Ev (fun k => pianolalaw09_numbers.f k a b) (decide (a = b)) := by
  unfold pianolalaw09_numbers.f
  by_cases hl : a.length = b.length
  · refine Ev.pos (by omega) ?_
    have key : ∀ (d n : Nat), n + d = a.length → Ev (fun k => pianolalaw09_numbers.l0 k a b (n : Int)) (decide (a.drop n = b.drop n)) := by
      intro d
      induction d with
      | zero =>
        intro n hd
        refine Ev.step (fun k => by rw [pianolalaw09_numbers.l0]) ?_
        refine Ev.neg (by omega) (Ev.have ?_)
        rw [List.drop_of_length_le (by omega), List.drop_of_length_le (by omega)]
        simp
      | succ d ih =>
        intro n hd
        have h1 : n < a.length := by omega
        have h2 : n < b.length := by omega
        refine Ev.step (fun k => by rw [pianolalaw09_numbers.l0]) ?_
        refine Ev.pos (by omega) (Ev.pos (by omega) (Ev.pos (by omega) ?_))
        rw [rd_at a n h1, rd_at b n h2, w_nat n (by omega), drop_at a n h1, drop_at b n h2]
        by_cases c : a[n] = b[n]
        · refine Ev.pos c ?_
          have := ih (n + 1) (by omega)
          rw [show decide (a[n] :: a.drop (n + 1) = b[n] :: b.drop (n + 1)) = decide (a.drop (n + 1) = b.drop (n + 1)) from decide_eq_decide.2 (by rw [List.cons.injEq]; exact ⟨fun h => h.2, fun h => ⟨c, h⟩⟩)]
          exact this
        · refine Ev.neg c (Ev.have ?_)
          rw [decide_eq_false (fun e => c (List.cons.inj e).1)]
    exact key a.length 0 (by omega)
  · refine Ev.neg (by omega) (Ev.have ?_)
    rw [decide_eq_false]
    intro e
    rw [e] at hl
    exact hl rfl
def restoreR (need : Int) (l : List S61) : List Int × Int :=
  if checkE need l ≠ 0 then ([], checkE need l) else if (l.length : Int) < need then ([], 8) else if lieP (solved (l.take need.toNat)).1 l = false then ([], 15) else ((solved (l.take need.toNat)).1, 0)
theorem Restore_f (need : Int) (l : List S61) : vault_Restore.f need l = some (restoreR need l) := rfl
def secretR (need : Int) (l : List S61) : Int × Int := if (restoreR need l).2 = 0 then (rd (restoreR need l).1 0, 0) else (0, (restoreR need l).2)
theorem restoreR_len {need : Int} {l : List S61} (h : (restoreR need l).2 = 0) : ((restoreR need l).1.length : Int) = need ∧ 1 ≤ need := by
  unfold restoreR at h ⊢
  by_cases h1 : checkE need l = 0
  · have hf := checkE_fine h1
    have n0 := hf.n0
    rw [if_neg (by simpa using h1)] at h ⊢
    split at h
    · simp at h
    · split at h
      · simp at h
      · rename_i c1 c2
        rw [if_neg c1, if_neg c2]
        show ((solved (l.take need.toNat)).1.length : Int) = need ∧ _
        rw [solved_len, List.length_take]
        omega
  · rw [if_pos h1] at h
    exact absurd h h1
theorem Secret_f (need : Int) (l : List S61) : vault_Secret.f need l = some (secretR need l) := by
  unfold vault_Secret.f secretR
  rw [Restore_f, Option.bind_some]
  by_cases h : (restoreR need l).2 = 0
  · have := restoreR_len h
    rw [if_pos h, if_pos h, if_pos (by omega)]
  · rw [if_neg h, if_neg h]
end Go.Proofs.Ytpfkfbbekfkcgaa.P
end
section
namespace Go.Proofs.Ytpfkfbbekfkcgaa.P
open Go.RowKit Go.Proofs.YtpfkfbbekfkcgaaW.PrintWords Go.Proofs.YtpfkfbbekfkcgaaW.PrintLast Go.Proofs.YtpfkfbbekfkcgaaW.PrintMore
set_option linter.unusedVariables false
set_option linter.unusedSimpArgs false
def addS (a b : List S61) : List S61 := List.zipWith (fun s t => (⟨s.f0, (s.f1 + t.f1) % 251⟩ : S61)) a b
theorem addS_len {a b : List S61} (h : a.length = b.length) : (addS a b).length = a.length := by simp [addS, h]
theorem addS_take {a b : List S61} (h : a.length = b.length) (n : Nat) (hn : n < a.length) : (addS a b).take (n + 1) = (addS a b).take n ++ [⟨a[n].f0, (a[n].f1 + (b[n]'(by omega)).f1) % 251⟩] := by
  rw [take_at _ n (by rw [addS_len h]; exact hn)]
  simp [addS]
def addR (a b : List S61) : List S61 × Int :=
  if checkE 1 a ≠ 0 then ([], checkE 1 a) else if checkE 1 b ≠ 0 then ([], checkE 1 b) else if eqK a b = true then (addS a b, 0) else ([], 14)
theorem Add_ev (a b : List S61) : Ev (fun k => vault_Add.f k a b) (addR a b) := by
  unfold vault_Add.f addR
  refine Ev.bind (Ev.now _) ?_
  refine Ev.step (fun k => by rw [vault_Add.l0]) ?_
  refine Ev.pos (by simp) (Ev.pos (by omega) (Ev.pos (by simp) ?_))
  rw [show rd_L4 [a, b] 0 = a from rfl, vcheck_f]
  refine Ev.bind (Ev.now _) ?_
  by_cases h1 : checkE 1 a = 0
  · refine Ev.pos h1 ?_
    rw [if_neg (by simpa using h1), show wrap64 (0 + 1) = 1 by unfold wrap64; omega]
    refine Ev.step (fun k => by rw [vault_Add.l0]) ?_
    refine Ev.pos (by simp) (Ev.pos (by omega) (Ev.pos (by simp) ?_))
    rw [show rd_L4 [a, b] 1 = b from rfl, vcheck_f]
    refine Ev.bind (Ev.now _) ?_
    by_cases h2 : checkE 1 b = 0
    · refine Ev.pos h2 ?_
      rw [if_neg (by simpa using h2), show wrap64 (1 + 1) = 2 by unfold wrap64; omega]
      refine Ev.step (fun k => by rw [vault_Add.l0]) ?_
      refine Ev.neg (by simp) ?_
      have fa := checkE_fine h1
      have fb := checkE_fine h2
      have la := fa.len
      rw [show equal_keepers.f a b = some (eqK a b) by unfold equal_keepers.f; rw [if_pos (by omega)]]
      refine Ev.bind (Ev.now _) ?_
      by_cases e : eqK a b = true
      · refine Ev.pos e ?_
        rw [if_pos e]
        have hl := eqK_len e
        have key : ∀ (d n : Nat), n + d = a.length → Ev (fun k => vault_Add.l1 k b ((addS a b).take n) a (a.length : Int) (n : Int)) (addS a b, 0) := by
          intro d
          induction d with
          | zero =>
            intro n hd
            refine Ev.step (fun k => by rw [vault_Add.l1]) ?_
            refine Ev.neg (by omega) (Ev.have ?_)
            rw [List.take_of_length_le (by rw [addS_len hl]; omega)]
          | succ d ih =>
            intro n hd
            have hn : n < a.length := by omega
            have hb : n < b.length := by omega
            refine Ev.step (fun k => by rw [vault_Add.l1]) ?_
            refine Ev.pos (by omega) (Ev.pos (by omega) (Ev.pos (by omega) (Ev.pos (by omega) ?_)))
            rw [rd61_at a n hn, rd61_at b n hb, plus_f _ _ (fa.kd.v _ (List.getElem_mem hn)) (fb.kd.v _ (List.getElem_mem hb))]
            refine Ev.bind (Ev.now _) (Ev.pos (by rw [List.length_take]; omega) ?_)
            rw [w_nat n (by omega), ← addS_take hl n hn]
            exact ih (n + 1) (by omega)
        have := key a.length 0 (by omega)
        exact this
      · refine Ev.neg e (Ev.have ?_)
        rw [if_neg e]
    · refine Ev.neg h2 (Ev.have ?_)
      rw [if_pos h2]
  · refine Ev.neg h1 (Ev.have ?_)
    rw [if_pos h1]
def bytesL (l : List Int) : Prop := ∀ x ∈ l, 0 ≤ x ∧ x ≤ 255
theorem wf_u8 {x : Int} (h : (Lit.int .u8 x).wf = true) : 0 ≤ x ∧ x ≤ 255 := by
  simp only [Lit.wf, IntKind.min, IntKind.max, IntKind.signed, IntKind.bits, Bool.and_eq_true, decide_eq_true_eq, if_true] at h
  simpa using h
theorem bytes_of {l : List Int} (h : ∀ x ∈ l, (Lit.int .u8 x).wf = true) : bytesL l := fun x hx => wf_u8 (h x hx)
def madeTo (l : List Int) (n : Nat) : List Int := (l.take n).map fun x => x % 251
def madeR (l : List Int) : List Int := if l = [] then [0] else madeTo l 8
theorem madeR_in (l : List Int) : all251 (madeR l) := by
  unfold madeR
  split
  · intro x hx
    rw [List.mem_singleton] at hx
    subst hx
    exact ⟨by omega, by omega⟩
  · intro x hx
    obtain ⟨y, _, rfl⟩ := List.mem_map.1 hx
    exact mod_in _
theorem madeR_len (l : List Int) : 1 ≤ (madeR l).length ∧ (madeR l).length ≤ 8 := by
  unfold madeR
  split
  · simp
  · rename_i h
    have : 0 < l.length := List.length_pos_iff.2 h
    simp [madeTo]
    omega
theorem made_ev (l : List Int) (hb : bytesL l) (hl : l.length ≤ 4611686018427387904) : Ev (fun k => pianolalaw09_Lock_made.f k l) (madeR l) := by
  unfold pianolalaw09_Lock_made.f
  have fin : ∀ n : Nat, n ≤ l.length → (n = l.length ∨ n = 8) → n ≤ 8 → Ev (fun _ => if ((madeTo l n).length : Int) = 0 then some ([0] : List Int) else some (madeTo l n)) (madeR l) := by
    intro n hn h h8
    have e : (madeTo l n).length = n := by simp [madeTo]; omega
    have e2 : madeTo l n = madeTo l 8 := by
      rcases h with h | h
      · unfold madeTo
        rw [List.take_of_length_le (by omega), List.take_of_length_le (by omega)]
      · rw [h]
    unfold madeR
    by_cases z : l = []
    · rw [if_pos z]
      subst z
      have : n = 0 := by simpa using hn
      subst this
      exact Ev.pos (by simp [madeTo]) (Ev.now _)
    · rw [if_neg z]
      have : 0 < l.length := List.length_pos_iff.2 z
      refine Ev.neg (by rw [e]; omega) (Ev.have (by rw [e2]))
  have key : ∀ (d n : Nat), n + d = 8 → n ≤ l.length → Ev (fun k => pianolalaw09_Lock_made.l0 k l (madeTo l n) (n : Int)) (madeR l) := by
    intro d
    induction d with
    | zero =>
      intro n hd hn
      refine Ev.step (fun k => by rw [pianolalaw09_Lock_made.l0]) ?_
      by_cases c : n < l.length
      · exact Ev.pos (by omega) (Ev.neg (by omega) (fin n hn (.inr (by omega)) (by omega)))
      · exact Ev.neg (by omega) (fin n hn (.inr (by omega)) (by omega))
    | succ d ih =>
      intro n hd hn
      refine Ev.step (fun k => by rw [pianolalaw09_Lock_made.l0]) ?_
      by_cases c : n < l.length
      · refine Ev.pos (by omega) (Ev.pos (by omega) (Ev.pos (by omega) (Ev.pos (by simp [madeTo]; omega) ?_)))
        obtain ⟨x0, x1⟩ := hb l[n] (List.getElem_mem c)
        rw [rd_at l n c, show wrap64 l[n] = l[n] by unfold wrap64; omega, Int.tmod_eq_emod_of_nonneg x0, w_nat n (by omega)]
        have := ih (n + 1) (by omega) (by omega)
        unfold madeTo at this
        rw [take_at l n c, List.map_append] at this
        exact this
      · exact Ev.neg (by omega) (fin n hn (.inl (by omega)) (by omega))
  have := key 8 0 (by omega) (by omega)
  exact this
def pw (x : K251) : Nat → K251
  | 0 => 1
  | n + 1 => pw x n * x
theorem at_ev (l : List Int) (x : Int) (hx : F251 x) (hl : all251 l) (hn : l.length ≤ 1000000) : Ev (fun k => pianolalaw09_at.f k l x) (ev l x) := by
  unfold pianolalaw09_at.f
  obtain ⟨x0, x1⟩ := hx
  have key : ∀ (d n : Nat) (s : Int), n + d = l.length → F251 s → fk (ev l x) = fk s + pw (fk x) n * eF ((l.drop n).map fk) (fk x) → Ev (fun k => pianolalaw09_at.l0 k x s l (l.length : Int) (n : Int)) (ev l x) := by
    intro d
    induction d with
    | zero =>
      intro n s hd hs he
      refine Ev.step (fun k => by rw [pianolalaw09_at.l0]) ?_
      refine Ev.neg (by omega) (Ev.have ?_)
      rw [List.drop_of_length_le (by omega)] at he
      simp only [List.map_nil, eF] at he
      rw [fk_inj (ev_in l x).1 (ev_in l x).2 hs.1 hs.2 (by rw [he]; grind)]
    | succ d ih =>
      intro n s hd hs he
      have hlt : n < l.length := by omega
      have hc := hl _ (List.getElem_mem hlt)
      refine Ev.step (fun k => by rw [pianolalaw09_at.l0]) ?_
      refine Ev.pos (by omega) (Ev.pos (by omega) (Ev.pos (by omega) ?_))
      rw [rd_at l n hlt]
      have inner : ∀ (e m : Nat) (c : Int), m + e = n → F251 c → fk c = fk l[n] * pw (fk x) m → Ev (fun k => pianolalaw09_at.l1 k x s (n : Int) c (m : Int) l (l.length : Int) (n : Int)) (ev l x) := by
        intro e
        induction e with
        | zero =>
          intro m c hm hcb hce
          obtain ⟨c0, c1⟩ := hcb
          obtain ⟨s0, s1⟩ := hs
          refine Ev.step (fun k => by rw [pianolalaw09_at.l1]) ?_
          refine Ev.neg (by omega) ?_
          rw [show wrap64 (s + c) = s + c by unfold wrap64; omega, Int.tmod_eq_emod_of_nonneg (by omega), w_nat n (by omega)]
          refine ih (n + 1) _ (by omega) (mod_in _) ?_
          have : m = n := by omega
          subst this
          rw [he, drop_at l m hlt, fk_mod, fk_add, hce]
          simp only [List.map_cons, eF, pw]
          grind
        | succ e ihe =>
          intro m c hm hcb hce
          obtain ⟨p0, p1⟩ := mul_bd c x hcb ⟨x0, x1⟩
          refine Ev.step (fun k => by rw [pianolalaw09_at.l1]) ?_
          refine Ev.pos (by omega) ?_
          rw [show wrap64 (c * x) = c * x by unfold wrap64; omega, Int.tmod_eq_emod_of_nonneg p0, w_nat m (by omega)]
          refine ihe (m + 1) _ (by omega) (mod_in _) ?_
          rw [fk_mod, fk_mul, hce]
          simp only [pw]
          grind
      refine inner n 0 l[n] (by omega) hc ?_
      simp only [pw]
      grind
  refine key l.length 0 0 (by omega) ⟨by omega, by omega⟩ ?_
  rw [fk_ev, fk_zero, List.drop_zero]
  simp only [pw]
  grind
theorem nodup_len {α : Type} [DecidableEq α] : ∀ {l m : List α}, l.Nodup → (∀ x ∈ l, x ∈ m) → l.length ≤ m.length
  | [], _, _, _ => Nat.zero_le _
  | a :: l, m, h, hm => by
    rw [List.nodup_cons] at h
    have h1 := nodup_len (m := m.erase a) h.2 (fun x hx => (List.mem_erase_of_ne (fun e : x = a => h.1 (by rw [← e]; exact hx))).2 (hm x (List.mem_cons_of_mem _ hx)))
    have ha := hm a (List.mem_cons_self ..)
    have := List.length_pos_of_mem ha
    rw [List.length_erase_of_mem ha] at h1
    rw [List.length_cons]
    omega
def metL (m : List Int) : List Bool := (List.range 21).map fun j : Nat => decide ((j : Int) ∈ m)
theorem metL_rd (m : List Int) (k : Int) (k0 : 0 ≤ k) (k1 : k ≤ 20) : rdOf false (metL m) k = decide (k ∈ m) := by
  unfold rdOf metL
  rw [List.getD_eq_getElem?_getD, List.getElem?_map, List.getElem?_range (by omega)]
  simp [Int.toNat_of_nonneg k0]
theorem metL_set (m : List Int) (k : Int) (k0 : 0 ≤ k) : (metL m).set k.toNat true = metL (m ++ [k]) := by
  unfold metL
  refine List.ext_getElem (by simp) (fun j h1 h2 => ?_)
  rw [List.getElem_set]
  simp only [List.getElem_map, List.getElem_range, List.mem_append, List.mem_singleton]
  by_cases c : k.toNat = j
  · rw [if_pos c]
    have : (j : Int) = k := by omega
    simp [this]
  · rw [if_neg c]
    have : ¬ (j : Int) = k := by omega
    simp [this]
theorem metL_nil : metL [] = List.replicate 21 false := by decide
def onS (c : List Int) (kp : List Int) : List S61 := kp.map fun k => ⟨k, ev c k⟩
structure Kp (kp : List Int) (least : Int) : Prop where
  nd : kp.Nodup
  r : ∀ k ∈ kp, 1 ≤ k ∧ k ≤ 20
  le : least ≤ kp.length
theorem Kp.len {kp : List Int} {least : Int} (h : Kp kp least) : kp.length ≤ 20 := by
  have := nodup_len (m := (List.range 20).map fun j : Nat => ((j + 1 : Nat) : Int)) h.nd (fun x hx => by
    have := h.r x hx
    exact List.mem_map.2 ⟨(x - 1).toNat, List.mem_range.2 (by omega), by omega⟩)
  simpa using this
theorem some_ex (by_ : List Int) (hb : bytesL by_) (hbl : by_.length ≤ 140737488351232) (least : Int) (hl : least ≤ 20) :
    ∃ kp, Kp kp least ∧ ∀ c : List Int, all251 c → c.length ≤ 8 → Ev (fun k => pianolalaw09_some.f k c by_ least) (onS c kp) := by
  have put : ∀ (c m : List Int) (k : Int), onS c (m ++ [k]) = onS c m ++ [⟨k, ev c k⟩] := fun c m k => by simp [onS]
  have two : ∀ (d i : Nat) (m : List Int), by_.length ≤ i → i ≤ by_.length + 20 → m.Nodup → (∀ k ∈ m, 1 ≤ k ∧ k ≤ 20) → (∀ k : Int, 1 ≤ k → k ≤ 20 → k ∈ m ∨ ∃ j : Nat, i ≤ j ∧ j < i + d ∧ k = 1 + (j : Int) % 20) → i + d ≤ by_.length + 20 →
      ∃ kp, Kp kp least ∧ ∀ c : List Int, all251 c → c.length ≤ 8 → Ev (fun k => pianolalaw09_some.l0 k c by_ least (metL m) (onS c m) (i : Int)) (onS c kp) := by
    intro d
    induction d with
    | zero =>
      intro i m hi hi2 hn hr hcov hd
      have h20 : 20 ≤ m.length := by
        have := nodup_len (l := (List.range 20).map fun j : Nat => ((j + 1 : Nat) : Int)) (m := m) (nodup_map List.nodup_range (fun a _ b _ e => by omega)) (fun x hx => by
          obtain ⟨j, hj, rfl⟩ := List.mem_map.1 hx
          have hj := List.mem_range.1 hj
          rcases hcov ((j + 1 : Nat) : Int) (by omega) (by omega) with h | ⟨q, _, _, _⟩
          · exact h
          · omega)
        simpa using this
      refine ⟨m, ⟨hn, hr, by omega⟩, fun c _ _ => ?_⟩
      refine Ev.step (fun k => by rw [pianolalaw09_some.l0]) ?_
      refine Ev.neg (by omega) ?_
      refine Ev.step (fun k => by rw [pianolalaw09_some.j1]) ?_
      exact Ev.neg (by simp [onS]; omega) (Ev.now _)
    | succ d ih =>
      intro i m hi hi2 hn hr hcov hd
      by_cases c0 : (m.length : Int) < least
      · have e1 : wrap64 (1 + (Int.tmod (i : Int) 20)) = 1 + (i : Int) % 20 := by
          rw [Int.tmod_eq_emod_of_nonneg (by omega)]; unfold wrap64; omega
        by_cases cm : (1 + (i : Int) % 20) ∈ m
        · obtain ⟨kp, hk, hev⟩ := ih (i + 1) m (by omega) (by omega) hn hr (fun k k0 k1 => by
            rcases hcov k k0 k1 with h | ⟨j, j0, j1, e⟩
            · exact .inl h
            · by_cases hj : j = i
              · subst hj; exact .inl (e ▸ cm)
              · exact .inr ⟨j, by omega, by omega, e⟩) (by omega)
          refine ⟨kp, hk, fun c hc hcl => ?_⟩
          refine Ev.step (fun k => by rw [pianolalaw09_some.l0]) ?_
          refine Ev.neg (by omega) ?_
          refine Ev.step (fun k => by rw [pianolalaw09_some.j1]) ?_
          refine Ev.pos (by simp [onS]; omega) (Ev.neg (by omega) ?_)
          rw [e1]
          refine Ev.pos (by omega) (Ev.pos (by simp [metL]; omega) ?_)
          rw [metL_rd m _ (by omega) (by omega), w_nat i (by omega)]
          exact Ev.pos (by simpa using cm) (hev c hc hcl)
        · obtain ⟨kp, hk, hev⟩ := ih (i + 1) (m ++ [1 + (i : Int) % 20]) (by omega) (by omega)
            (List.nodup_append.2 ⟨hn, by simp, fun a ha b hb e => by rw [List.mem_singleton] at hb; subst hb; subst e; exact cm ha⟩)
            (fun k hk => by
              rcases List.mem_append.1 hk with h | h
              · exact hr k h
              · rw [List.mem_singleton] at h; omega)
            (fun k k0 k1 => by
              rcases hcov k k0 k1 with h | ⟨j, j0, j1, e⟩
              · exact .inl (List.mem_append_left _ h)
              · by_cases hj : j = i
                · subst hj; exact .inl (List.mem_append_right _ (by rw [e]; exact List.mem_singleton_self _))
                · exact .inr ⟨j, by omega, by omega, e⟩) (by omega)
          refine ⟨kp, hk, fun c hc hcl => ?_⟩
          have h20 : m.length ≤ 20 := (Kp.len (least := 0) ⟨hn, hr, by omega⟩)
          refine Ev.step (fun k => by rw [pianolalaw09_some.l0]) ?_
          refine Ev.neg (by omega) ?_
          refine Ev.step (fun k => by rw [pianolalaw09_some.j1]) ?_
          refine Ev.pos (by simp [onS]; omega) (Ev.neg (by omega) ?_)
          rw [e1]
          refine Ev.pos (by omega) (Ev.pos (by simp [metL]; omega) ?_)
          rw [metL_rd m _ (by omega) (by omega), w_nat i (by omega)]
          refine Ev.neg (by simpa using cm) (Ev.bind (at_ev c _ ⟨by omega, by omega⟩ hc (by omega)) (Ev.pos (by simp [onS]; omega) ?_))
          rw [metL_set m _ (by omega), ← put]
          exact hev c hc hcl
      · refine ⟨m, ⟨hn, hr, by omega⟩, fun c _ _ => ?_⟩
        refine Ev.step (fun k => by rw [pianolalaw09_some.l0]) ?_
        refine Ev.neg (by omega) ?_
        refine Ev.step (fun k => by rw [pianolalaw09_some.j1]) ?_
        exact Ev.neg (by simp [onS]; omega) (Ev.now _)
  have one : ∀ (d i : Nat) (m : List Int), i + d = by_.length → m.Nodup → (∀ k ∈ m, 1 ≤ k ∧ k ≤ 20) →
      ∃ kp, Kp kp least ∧ ∀ c : List Int, all251 c → c.length ≤ 8 → Ev (fun k => pianolalaw09_some.l0 k c by_ least (metL m) (onS c m) (i : Int)) (onS c kp) := by
    intro d
    induction d with
    | zero =>
      intro i m hi hn hr
      exact two 20 i m (by omega) (by omega) hn hr (fun k k0 k1 => .inr ⟨i + ((k - 1 - (i : Int)) % 20).toNat, by omega, by omega, by omega⟩) (by omega)
    | succ d ih =>
      intro i m hi hn hr
      have hlt : i < by_.length := by omega
      obtain ⟨b0, b1⟩ := hb by_[i] (List.getElem_mem hlt)
      have e1 : wrap64 (1 + (Int.tmod (wrap64 by_[i]) 20)) = 1 + by_[i] % 20 := by
        rw [show wrap64 by_[i] = by_[i] by unfold wrap64; omega, Int.tmod_eq_emod_of_nonneg (by omega)]; unfold wrap64; omega
      by_cases cm : (1 + by_[i] % 20) ∈ m
      · obtain ⟨kp, hk, hev⟩ := ih (i + 1) m (by omega) hn hr
        refine ⟨kp, hk, fun c hc hcl => ?_⟩
        refine Ev.step (fun k => by rw [pianolalaw09_some.l0]) ?_
        refine Ev.pos (by omega) ?_
        refine Ev.step (fun k => by rw [pianolalaw09_some.j1]) ?_
        refine Ev.pos rfl (Ev.pos (by omega) (Ev.pos (by omega) ?_))
        rw [rd_at by_ i hlt, e1]
        refine Ev.pos (by omega) (Ev.pos (by simp [metL]; omega) ?_)
        rw [metL_rd m _ (by omega) (by omega), w_nat i (by omega)]
        exact Ev.pos (by simpa using cm) (hev c hc hcl)
      · obtain ⟨kp, hk, hev⟩ := ih (i + 1) (m ++ [1 + by_[i] % 20]) (by omega)
          (List.nodup_append.2 ⟨hn, by simp, fun a ha b hb e => by rw [List.mem_singleton] at hb; subst hb; subst e; exact cm ha⟩)
          (fun k hk => by
            rcases List.mem_append.1 hk with h | h
            · exact hr k h
            · rw [List.mem_singleton] at h; omega)
        refine ⟨kp, hk, fun c hc hcl => ?_⟩
        have h20 : m.length ≤ 20 := (Kp.len (least := 0) ⟨hn, hr, by omega⟩)
        refine Ev.step (fun k => by rw [pianolalaw09_some.l0]) ?_
        refine Ev.pos (by omega) ?_
        refine Ev.step (fun k => by rw [pianolalaw09_some.j1]) ?_
        refine Ev.pos rfl (Ev.pos (by omega) (Ev.pos (by omega) ?_))
        rw [rd_at by_ i hlt, e1]
        refine Ev.pos (by omega) (Ev.pos (by simp [metL]; omega) ?_)
        rw [metL_rd m _ (by omega) (by omega), w_nat i (by omega)]
        refine Ev.neg (by simpa using cm) (Ev.bind (at_ev c _ ⟨by omega, by omega⟩ hc (by omega)) (Ev.pos (by simp [onS]; omega) ?_))
        rw [metL_set m _ (by omega), ← put]
        exact hev c hc hcl
  obtain ⟨kp, hk, hev⟩ := one by_.length 0 [] (by omega) List.nodup_nil (fun k h => by cases h)
  refine ⟨kp, hk, fun c hc hcl => ?_⟩
  unfold pianolalaw09_some.f
  refine Ev.pos (by omega) ?_
  rw [← metL_nil]
  exact hev c hc hcl
theorem onS_len (c kp : List Int) : (onS c kp).length = kp.length := by simp [onS]
theorem onS_kd {kp : List Int} {least : Int} (h : Kp kp least) (c : List Int) : KD (onS c kp) := by
  refine ⟨?_, fun s hs => ?_, fun s hs => ?_⟩
  · have : (onS c kp).map S61.f0 = kp := by simp [onS, Function.comp_def]
    rw [this]; exact h.nd
  · obtain ⟨k, hk, rfl⟩ := List.mem_map.1 hs
    have := h.r k hk
    exact ⟨by show 0 ≤ k; omega, by show k ≤ 250; omega⟩
  · obtain ⟨k, hk, rfl⟩ := List.mem_map.1 hs
    exact ev_in _ _
theorem onS_good {kp : List Int} {least : Int} (h : Kp kp least) (c : List Int) : ∀ s ∈ onS c kp, Good s := by
  intro s hs
  obtain ⟨k, hk, rfl⟩ := List.mem_map.1 hs
  have := h.r k hk
  have := ev_in c k
  exact ⟨by show 1 ≤ k; omega, by show k ≤ 20; omega, this.1, this.2⟩
theorem fine_check {need : Int} {l : List S61} (h : Fine need l) : checkE need l = 0 := checkE_zero h.n0 h.n1 h.len h.good h.kd.nd
theorem restore_on {c : List Int} {s : List S61} (h : Fine (c.length : Int) s) (hc : all251 c) (hl : c.length ≤ s.length) (ha : ∀ a ∈ s, eF (c.map fk) (fk a.f0) = fk a.f1) :
    restoreR (c.length : Int) s = (c, 0) ∧ secretR (c.length : Int) s = (rd c 0, 0) ∧ agreeR (c.length : Int) s = (true, 0) := by
  have he := fine_check h
  have hn : ((c.length : Int)).toNat = c.length := Int.toNat_natCast _
  have e : itp c.length s = c := all_fk (itp_in _ _) hc (itp_only h.kd hl (by simp) (fun a hm => ha a (List.mem_of_mem_take hm)))
  have hfit : Fit c.length s := ⟨c.map fk, by simp, ha⟩
  have hlie := (lieP_fit h.kd hl).2 hfit
  have r : restoreR (c.length : Int) s = (c, 0) := by
    unfold restoreR
    rw [if_neg (by simpa using he), if_neg (by omega), hn]
    change (if lieP (itp c.length s) s = false then ([], 15) else (itp c.length s, 0)) = (c, 0)
    rw [if_neg (by simp [hlie]), e]
  refine ⟨r, ?_, ?_⟩
  · unfold secretR
    rw [r]; rfl
  · unfold agreeR
    rw [if_pos he, (agreeB_fit h.kd).2 hfit]
end Go.Proofs.Ytpfkfbbekfkcgaa.P
end
section
namespace Go.Proofs.Ytpfkfbbekfkcgaa.P
open Go.RowKit Go.Proofs.YtpfkfbbekfkcgaaW.PrintWords Go.Proofs.YtpfkfbbekfkcgaaW.PrintLast Go.Proofs.YtpfkfbbekfkcgaaW.PrintMore
set_option linter.unusedVariables false
set_option linter.unusedSimpArgs false
def offN (p : List K251) (l : List S61) : List Nat := (List.range l.length).filter fun j : Nat => !decide (eF p (fk (rd_T61 l j).f0) = fk (rd_T61 l j).f1)
def offL (p : List K251) (l : List S61) : List Int := (offN p l).map fun j : Nat => (j : Int)
theorem rest_all (l : List S61) : ((List.range l.length).map fun j : Nat => rd_T61 l j) = l := by
  refine List.ext_getElem (by simp) (fun i h1 h2 => ?_)
  rw [List.getElem_map, List.getElem_range, rd61_at l i h2]
theorem restOf_sub (x : List Int) (l : List S61) : (restOf x l l.length).Sublist l := by
  have h : (restOf x l l.length).Sublist ((List.range l.length).map fun j : Nat => rd_T61 l j) := List.filter_sublist.map _
  rwa [rest_all] at h
theorem restOf_mem (x : List Int) (l : List S61) (a : S61) : a ∈ restOf x l l.length ↔ ∃ j : Nat, j < l.length ∧ ¬ (j : Int) ∈ x ∧ rd_T61 l j = a := by
  unfold restOf
  rw [List.mem_map]
  constructor
  · rintro ⟨j, hj, rfl⟩
    rw [List.mem_filter, List.mem_range] at hj
    exact ⟨j, hj.1, by simpa using hj.2, rfl⟩
  · rintro ⟨j, hj, hx, rfl⟩
    exact ⟨j, by rw [List.mem_filter, List.mem_range]; exact ⟨hj, by simpa using hx⟩, rfl⟩
theorem fit_rest {n : Nat} {l : List S61} {x : List Int} : Fit n (restOf x l l.length) ↔ ∃ p : List K251, p.length = n ∧ ∀ i ∈ offL p l, i ∈ x := by
  constructor
  · rintro ⟨p, hp, ha⟩
    refine ⟨p, hp, fun i hi => ?_⟩
    obtain ⟨j, hj, rfl⟩ := List.mem_map.1 hi
    unfold offN at hj
    rw [List.mem_filter, List.mem_range] at hj
    by_cases c : (j : Int) ∈ x
    · exact c
    · have := ha (rd_T61 l j) ((restOf_mem x l _).2 ⟨j, hj.1, c, rfl⟩)
      have h2 := hj.2
      simp [this] at h2
  · rintro ⟨p, hp, ha⟩
    refine ⟨p, hp, fun a hm => ?_⟩
    obtain ⟨j, hj, hx, rfl⟩ := (restOf_mem x l a).1 hm
    by_cases c : eF p (fk (rd_T61 l j).f0) = fk (rd_T61 l j).f1
    · exact c
    · exact absurd (ha (j : Int) (List.mem_map.2 ⟨j, by unfold offN; rw [List.mem_filter, List.mem_range]; exact ⟨hj, by simpa using c⟩, rfl⟩)) hx
theorem tryB_fit {n : Nat} {l : List S61} (h : KD l) (x : List Int) : tryB (n : Int) l x = true ↔ ∃ p : List K251, p.length = n ∧ ∀ i ∈ offL p l, i ∈ x := by
  unfold tryB
  rw [agreeB_fit (h.sub (restOf_sub x l)), fit_rest]
structure Asc (n : Nat) (x : List Int) : Prop where
  lt : x.Pairwise (· < ·)
  r : ∀ i ∈ x, 0 ≤ i ∧ i < (n : Int)
theorem asc_ext {x y : List Int} (hx : x.Pairwise (· < ·)) (hy : y.Pairwise (· < ·)) (h : ∀ i, i ∈ x ↔ i ∈ y) : x = y := by
  induction x generalizing y with
  | nil =>
    cases y with
    | nil => rfl
    | cons b y => exact absurd ((h b).2 (List.mem_cons_self ..)) (by simp)
  | cons a x ih =>
    cases y with
    | nil => exact absurd ((h a).1 (List.mem_cons_self ..)) (by simp)
    | cons b y =>
      rw [List.pairwise_cons] at hx hy
      have e : a = b := by
        rcases List.mem_cons.1 ((h a).1 (List.mem_cons_self ..)) with e | ha
        · exact e
        · rcases List.mem_cons.1 ((h b).2 (List.mem_cons_self ..)) with e | hb
          · exact e.symm
          · have := hy.1 a ha
            have := hx.1 b hb
            omega
      subst e
      congr 1
      refine ih hx.2 hy.2 (fun i => ?_)
      constructor
      · intro hi
        rcases List.mem_cons.1 ((h i).1 (List.mem_cons_of_mem _ hi)) with e | hi'
        · have := hx.1 i hi; omega
        · exact hi'
      · intro hi
        rcases List.mem_cons.1 ((h i).2 (List.mem_cons_of_mem _ hi)) with e | hi'
        · have := hy.1 i hi; omega
        · exact hi'
theorem asc_nodup {x : List Int} (hx : x.Pairwise (· < ·)) : x.Nodup := hx.imp (fun h => by omega)
theorem asc_sub {x y : List Int} (hx : x.Pairwise (· < ·)) (hy : y.Pairwise (· < ·)) (h : ∀ i ∈ x, i ∈ y) (hl : y.length ≤ x.length) : x = y := by
  refine asc_ext hx hy (fun i => ⟨h i, fun hi => ?_⟩)
  by_cases c : i ∈ x
  · exact c
  · have := nodup_len (l := i :: x) (m := y) (List.nodup_cons.2 ⟨c, asc_nodup hx⟩) (fun j hj => by
      rcases List.mem_cons.1 hj with e | hj
      · rw [e]; exact hi
      · exact h j hj)
    simp at this
    omega
theorem offL_asc (p : List K251) (l : List S61) : Asc l.length (offL p l) := by
  constructor
  · unfold offL
    rw [List.pairwise_map]
    have : (offN p l).Pairwise (· < ·) := List.Pairwise.filter _ List.pairwise_lt_range
    exact this.imp (fun h => by omega)
  · intro i hi
    obtain ⟨j, hj, rfl⟩ := List.mem_map.1 hi
    unfold offN at hj
    rw [List.mem_filter, List.mem_range] at hj
    omega
theorem combos_iff : ∀ (d r : Nat) (f : Int) (b x : List Int), x ∈ combos d r f b ↔ ∃ y, x = b ++ y ∧ y.length = d ∧ y.Pairwise (· < ·) ∧ ∀ i ∈ y, f ≤ i ∧ i < f + r
  | 0, r, f, b, x => by
    have e : combos 0 r f b = [b] := by cases r <;> rfl
    rw [e, List.mem_singleton]
    constructor
    · rintro rfl; exact ⟨[], by simp, rfl, List.Pairwise.nil, fun _ h => by cases h⟩
    · rintro ⟨y, rfl, hy, _⟩
      rw [List.length_eq_zero_iff] at hy
      subst hy; simp
  | d + 1, 0, f, b, x => by
    simp only [combos, List.not_mem_nil, false_iff]
    rintro ⟨y, _, hy, _, hr⟩
    cases y with
    | nil => simp at hy
    | cons a y => have := hr a (List.mem_cons_self ..); omega
  | d + 1, r + 1, f, b, x => by
    unfold combos
    rw [List.mem_append, combos_iff d r (f + 1) (b ++ [f]) x, combos_iff (d + 1) r (f + 1) b x]
    constructor
    · rintro (⟨y, rfl, hy, hp, hr⟩ | ⟨y, rfl, hy, hp, hr⟩)
      · refine ⟨f :: y, by simp, by simp [hy], List.pairwise_cons.2 ⟨fun i hi => by have := hr i hi; omega, hp⟩, fun i hi => ?_⟩
        rcases List.mem_cons.1 hi with e | hi
        · omega
        · have := hr i hi; omega
      · exact ⟨y, rfl, hy, hp, fun i hi => by have := hr i hi; omega⟩
    · rintro ⟨y, rfl, hy, hp, hr⟩
      cases y with
      | nil => simp at hy
      | cons a y =>
        rw [List.pairwise_cons] at hp
        by_cases c : a = f
        · subst c
          exact .inl ⟨y, by simp, by simpa using hy, hp.2, fun i hi => by have := hp.1 i hi; have := hr i (List.mem_cons_of_mem _ hi); omega⟩
        · refine .inr ⟨a :: y, rfl, hy, List.pairwise_cons.2 hp, fun i hi => ?_⟩
          have ha := hr a (List.mem_cons_self ..)
          rcases List.mem_cons.1 hi with e | hi'
          · omega
          · have := hp.1 i hi'; have := hr i hi; omega
theorem all_iff (n s : Nat) (x : List Int) : x ∈ allCombos n s ↔ x.length = s ∧ Asc n x := by
  unfold allCombos
  rw [combos_iff]
  constructor
  · rintro ⟨y, rfl, hy, hp, hr⟩
    exact ⟨by simpa using hy, ⟨by simpa using hp, fun i hi => by have := hr i (by simpa using hi); omega⟩⟩
  · rintro ⟨hl, hp, hr⟩
    exact ⟨x, rfl, hl, hp, fun i hi => by have := hr i hi; omega⟩
theorem wrongFrom_some (need : Int) (l : List S61) : ∀ (k s : Nat) (x : List Int), wrongFrom need l k s = some x → ∃ s', s ≤ s' ∧ s' < s + k ∧ x ∈ allCombos l.length s' ∧ tryB need l x = true ∧ ∀ s'', s ≤ s'' → s'' < s' → ∀ y ∈ allCombos l.length s'', tryB need l y = false
  | 0, s, x, h => by simp [wrongFrom] at h
  | k + 1, s, x, h => by
    unfold wrongFrom at h
    cases hf : (allCombos l.length s).find? (tryB need l) with
    | some y =>
      rw [hf] at h
      injection h with h
      subst h
      exact ⟨s, Nat.le_refl _, by omega, List.mem_of_find?_eq_some hf, List.find?_some hf, fun s'' h1 h2 => by omega⟩
    | none =>
      rw [hf] at h
      obtain ⟨s', h1, h2, h3, h4, h5⟩ := wrongFrom_some need l k (s + 1) x h
      refine ⟨s', by omega, by omega, h3, h4, fun s'' g1 g2 y hy => ?_⟩
      by_cases c : s'' = s
      · subst c
        have := List.find?_eq_none.1 hf y hy
        simpa using this
      · exact h5 s'' (by omega) g2 y hy
theorem wrongFrom_none (need : Int) (l : List S61) : ∀ (k s : Nat), wrongFrom need l k s = none → ∀ s'', s ≤ s'' → s'' < s + k → ∀ y ∈ allCombos l.length s'', tryB need l y = false
  | 0, s, _, s'', h1, h2, _, _ => by omega
  | k + 1, s, h, s'', h1, h2, y, hy => by
    unfold wrongFrom at h
    cases hf : (allCombos l.length s).find? (tryB need l) with
    | some y => rw [hf] at h; cases h
    | none =>
      rw [hf] at h
      by_cases c : s'' = s
      · subst c
        have := List.find?_eq_none.1 hf y hy
        simpa using this
      · exact wrongFrom_none need l k (s + 1) h s'' (by omega) (by omega) y hy
theorem off_unique {n most : Nat} {l : List S61} (h : KD l) (hl : n + 2 * most ≤ l.length) {p q : List K251} (hp : p.length = n) (hq : q.length = n) {x y : List Int}
    (hx : ∀ i ∈ offL p l, i ∈ x) (hy : ∀ i ∈ offL q l, i ∈ y) (lx : x.length ≤ most) (ly : y.length ≤ most) : p = q := by
  have hk := h.sub (restOf_sub (x ++ y) l)
  have on : ∀ (r : List K251), (∀ i ∈ offL r l, i ∈ x ++ y) → ∀ a ∈ restOf (x ++ y) l l.length, eF r (fk a.f0) = fk a.f1 := by
    intro r hr a ha
    obtain ⟨j, hj, hn, rfl⟩ := (restOf_mem _ l a).1 ha
    by_cases c : eF r (fk (rd_T61 l j).f0) = fk (rd_T61 l j).f1
    · exact c
    · exact absurd (hr (j : Int) (List.mem_map.2 ⟨j, by unfold offN; rw [List.mem_filter, List.mem_range]; exact ⟨hj, by simpa using c⟩, rfl⟩)) hn
  have hlen : n ≤ (restOf (x ++ y) l l.length).length := by
    unfold restOf
    rw [List.length_map]
    have h1 := nodup_len (l := (List.range l.length).map fun j : Nat => (j : Int)) (m := (((List.range l.length).filter fun j : Nat => !decide ((j : Int) ∈ x ++ y)).map fun j : Nat => (j : Int)) ++ (x ++ y))
      (nodup_map List.nodup_range (fun a _ b _ e => by omega)) (fun i hi => by
        obtain ⟨j, hj, rfl⟩ := List.mem_map.1 hi
        rw [List.mem_range] at hj
        by_cases c : (j : Int) ∈ x ++ y
        · exact List.mem_append_right _ c
        · exact List.mem_append_left _ (List.mem_map.2 ⟨j, by rw [List.mem_filter, List.mem_range]; exact ⟨hj, by rw [decide_eq_false c]; rfl⟩, rfl⟩))
    simp only [List.length_append, List.length_map, List.length_range] at h1
    omega
  exact fit_unique hk (by omega) (by omega) (on p (fun i hi => List.mem_append_left _ (hx i hi))) (on q (fun i hi => List.mem_append_right _ (hy i hi)))
theorem wrong_is {n most : Nat} {l : List S61} (h : KD l) (hl : n + 2 * most ≤ l.length) {p : List K251} (hp : p.length = n) (ho : (offL p l).length ≤ most) : wrongFrom (n : Int) l (most + 1) 0 = some (offL p l) := by
  have hmem : offL p l ∈ allCombos l.length (offL p l).length := (all_iff _ _ _).2 ⟨rfl, offL_asc p l⟩
  have htry : tryB (n : Int) l (offL p l) = true := (tryB_fit h _).2 ⟨p, hp, fun i hi => hi⟩
  cases hw : wrongFrom (n : Int) l (most + 1) 0 with
  | none =>
    have := wrongFrom_none _ l _ _ hw (offL p l).length (by omega) (by omega) _ hmem
    rw [htry] at this
    cases this
  | some x =>
    obtain ⟨s', h1, h2, h3, h4, h5⟩ := wrongFrom_some _ l _ _ x hw
    obtain ⟨hxl, hxa⟩ := (all_iff _ _ _).1 h3
    obtain ⟨q, hq, hqx⟩ := (tryB_fit h x).1 h4
    have e : p = q := off_unique h hl hp hq (x := offL p l) (y := x) (fun i hi => hi) hqx ho (by omega)
    subst e
    have hle : x.length ≤ (offL p l).length := by
      by_cases c : x.length ≤ (offL p l).length
      · exact c
      · have := h5 (offL p l).length (by omega) (by omega) _ hmem
        rw [htry] at this
        cases this
    rw [asc_sub (offL_asc p l).lt hxa.lt hqx hle]
def wrongR (need most : Int) (l : List S61) : List Int × Int :=
  if checkE need l ≠ 0 then ([], checkE need l) else if btw 0 most 3 = false then ([], 3) else if (l.length : Int) < need + 2 * most then ([], 8) else
    match wrongFrom need l (most.toNat + 1) 0 with | some x => (sortI (keeps x l), 0) | none => ([], 15)
theorem Wrong_f (need most : Int) (l : List S61) : vault_Wrong.f need most l = some (wrongR need most l) := rfl
theorem sortI_perm (x : List Int) : (sortI x).Perm x := List.mergeSort_perm _ _
theorem sortI_sorted (x : List Int) : (sortI x).Pairwise (· ≤ ·) := by
  have := List.pairwise_mergeSort (le := fun a b : Int => decide (a ≤ b)) (fun a b c h1 h2 => by simp at *; omega) (fun a b => by simp; omega) x
  exact this.imp (fun h => by simpa using h)
end Go.Proofs.Ytpfkfbbekfkcgaa.P
end
section
namespace Go.Proofs.Ytpfkfbbekfkcgaa.P
open Go.RowKit Go.Proofs.YtpfkfbbekfkcgaaW.PrintWords Go.Proofs.YtpfkfbbekfkcgaaW.PrintLast Go.Proofs.YtpfkfbbekfkcgaaW.PrintMore
set_option linter.unusedVariables false
set_option linter.unusedSimpArgs false
def offS (p : List K251) (l : List S61) : List S61 := l.filter fun a => !decide (eF p (fk a.f0) = fk a.f1)
theorem keeps_off (p : List K251) (l : List S61) : keeps (offL p l) l = (offS p l).map S61.f0 := by
  unfold keeps offL offN
  rw [List.map_map]
  have h : ∀ m : List S61, offS p m = ((List.range m.length).filter fun j : Nat => !decide (eF p (fk (rd_T61 m j).f0) = fk (rd_T61 m j).f1)).map fun j : Nat => rd_T61 m j := by
    intro m
    have e := rest_all m
    have : offS p m = ((List.range m.length).map fun j : Nat => rd_T61 m j).filter fun a => !decide (eF p (fk a.f0) = fk a.f1) := by rw [e]; rfl
    rw [this, List.filter_map]
    rfl
  rw [h l, List.map_map]
  rfl
theorem offL_len (p : List K251) (l : List S61) : (offL p l).length = (offS p l).length := by
  have := keeps_off p l
  have := congrArg List.length this
  unfold keeps at this
  simpa using this
theorem wrong_found {c : List Int} {n : Nat} {s : List S61} (h : Fine (c.length : Int) s) (hl : c.length + 2 * n ≤ s.length) (n3 : n ≤ 3) (ho : (offS (c.map fk) s).length ≤ n) :
    wrongR (c.length : Int) (n : Int) s = (sortI ((offS (c.map fk) s).map S61.f0), 0) := by
  unfold wrongR
  rw [if_neg (by simpa using fine_check h), if_neg (by rw [Bool.not_eq_false, btw_iff]; omega), if_neg (by omega)]
  have := wrong_is (n := c.length) (most := n) h.kd hl (p := c.map fk) (by simp) (by rw [offL_len]; exact ho)
  rw [Int.toNat_natCast, this]
  show (sortI (keeps (offL (c.map fk) s) s), (0 : Int)) = _
  rw [keeps_off]
end Go.Proofs.Ytpfkfbbekfkcgaa.P
end
section
namespace Go.Proofs.Ytpfkfbbekfkcgaa.Pure
open Go.RowKit Go.Proofs.Ytpfkfbbekfkcgaa.P Go.Proofs.YtpfkfbbekfkcgaaW.PrintWords Go.Proofs.YtpfkfbbekfkcgaaW.PrintLast
theorem rd64_at' (l : List S64) (n : Nat) (h : n < l.length) : rd_T64 l (n : Int) = l[n] := by
  unfold rd_T64
  rw [Int.toNat_natCast, List.getD_eq_getElem?_getD, List.getElem?_eq_getElem h]; rfl
theorem filter_len {α : Type} (p : α → Bool) : ∀ l : List α, (l.filter p).length + (l.filter fun a => !p a).length = l.length
  | [] => rfl
  | a :: l => by
    have := filter_len p l
    rw [List.filter_cons, List.filter_cons]
    cases p a <;> simp <;> omega
structure Changed (c : List Int) (kp B : List Int) (s : List S61) : Prop where
  keep : s.map S61.f0 = kp
  good : ∀ a ∈ s, P.Good a
  off : ∀ a ∈ s, a.f0 ∈ B → a.f1 ≠ ev c a.f0
  on : ∀ a ∈ s, ¬ a.f0 ∈ B → a.f1 = ev c a.f0
  nd : B.Nodup
  sub : ∀ b ∈ B, b ∈ kp
theorem Changed.kd {c kp B : List Int} {s : List S61} (h : Changed c kp B s) (hk : kp.Nodup) : KD s :=
  ⟨by rw [h.keep]; exact hk, fun a ha => by have := h.good a ha; exact ⟨by have := this.1; omega, by have := this.2.1; omega⟩, fun a ha => by have := h.good a ha; exact ⟨this.2.2.1, this.2.2.2⟩⟩
theorem Changed.off_iff {c kp B : List Int} {s : List S61} (h : Changed c kp B s) (hk : kp.Nodup) : offS (c.map fk) s = s.filter fun a => decide (a.f0 ∈ B) := by
  unfold offS
  refine List.filter_congr (fun a ha => ?_)
  have hv := (h.kd hk).v a ha
  have e := ev_eq (p := c) hv
  by_cases hb : a.f0 ∈ B
  · have : ¬ eF (c.map fk) (fk a.f0) = fk a.f1 := fun hh => h.off a ha hb (e.2 hh).symm
    simp [hb, this]
  · have : eF (c.map fk) (fk a.f0) = fk a.f1 := e.1 (h.on a ha hb).symm
    simp [hb, this]
def wantTo (B : List Int) (n : Nat) : List Int := ((List.range n).filter fun j : Nat => decide ((j : Int) ∈ B)).map fun j : Nat => (j : Int)
theorem wantTo_succ (B : List Int) (n : Nat) : wantTo B (n + 1) = if (n : Int) ∈ B then wantTo B n ++ [(n : Int)] else wantTo B n := by
  unfold wantTo
  rw [List.range_succ, List.filter_append, List.map_append]
  by_cases c : (n : Int) ∈ B
  · simp [c]
  · simp [c]
theorem wantTo_len (B : List Int) (n : Nat) : (wantTo B n).length ≤ n := by
  unfold wantTo
  rw [List.length_map]
  have := List.length_filter_le (fun j : Nat => decide ((j : Int) ∈ B)) (List.range n)
  simpa using this
theorem lt_of_le_nodup {x : List Int} (h : x.Pairwise (· ≤ ·)) (hn : x.Nodup) : x.Pairwise (· < ·) := by
  have := List.Pairwise.and h hn
  exact this.imp (fun ⟨h1, h2⟩ => by omega)
theorem want_is {c kp B : List Int} {s : List S61} (h : Changed c kp B s) (hk : kp.Nodup) : sortI ((offS (c.map fk) s).map S61.f0) = wantTo B 21 := by
  rw [h.off_iff hk]
  have hnd : ((s.filter fun a => decide (a.f0 ∈ B)).map S61.f0).Nodup := by
    have : ((s.filter fun a => decide (a.f0 ∈ B)).map S61.f0).Sublist (s.map S61.f0) := List.filter_sublist.map _
    rw [h.keep] at this
    exact hk.sublist this
  refine asc_ext (lt_of_le_nodup (sortI_sorted _) ((sortI_perm _).nodup_iff.2 hnd)) ?_ (fun i => ?_)
  · unfold wantTo
    rw [List.pairwise_map]
    have : ((List.range 21).filter fun j : Nat => decide ((j : Int) ∈ B)).Pairwise (· < ·) := List.Pairwise.filter _ List.pairwise_lt_range
    exact this.imp (fun h => by omega)
  · rw [(sortI_perm _).mem_iff]
    unfold wantTo
    rw [List.mem_map, List.mem_map]
    constructor
    · rintro ⟨a, ha, rfl⟩
      rw [List.mem_filter] at ha
      have hg := h.good a ha.1
      have g1 := hg.1
      have g2 := hg.2.1
      exact ⟨a.f0.toNat, by
        rw [List.mem_filter, List.mem_range]
        refine ⟨by omega, ?_⟩
        rw [show ((a.f0.toNat : Nat) : Int) = a.f0 by omega]
        exact ha.2, by omega⟩
    · rintro ⟨j, hj, rfl⟩
      rw [List.mem_filter] at hj
      have hb : (j : Int) ∈ B := by simpa using hj.2
      have hkp := h.sub _ hb
      rw [← h.keep] at hkp
      obtain ⟨a, ha, e⟩ := List.mem_map.1 hkp
      exact ⟨a, by rw [List.mem_filter]; exact ⟨ha, by rw [e]; simpa using hb⟩, e⟩
section
variable {c kp B : List Int} {s : List S61} {n : Nat}
def restS (B : List Int) (s : List S61) : List S61 := s.filter fun a => !decide (a.f0 ∈ B)
theorem wrong_end (h : Changed c kp B s) (hk : kp.Nodup) (hc : all251 c) (c1 : 1 ≤ c.length) (c4 : c.length ≤ 4) (hs : s.length ≤ 11) (hl : c.length + 2 * n ≤ s.length) (n3 : n ≤ 3) (hB : B.length ≤ n) :
    wrongR (c.length : Int) (n : Int) s = (wantTo B 21, 0) ∧ secretR (c.length : Int) (restS B s) = (rd c 0, 0) := by
  have hkd := h.kd hk
  have hf : Fine (c.length : Int) s := ⟨by omega, by omega, by omega, h.good, hkd⟩
  have hoff : (offS (c.map fk) s).length ≤ B.length := by
    rw [h.off_iff hk]
    have := nodup_len (l := (s.filter fun a => decide (a.f0 ∈ B)).map S61.f0) (m := B) (by
      have : ((s.filter fun a => decide (a.f0 ∈ B)).map S61.f0).Sublist (s.map S61.f0) := List.filter_sublist.map _
      rw [h.keep] at this
      exact hk.sublist this) (fun i hi => by
        obtain ⟨a, ha, rfl⟩ := List.mem_map.1 hi
        rw [List.mem_filter] at ha
        simpa using ha.2)
    simpa using this
  refine ⟨?_, ?_⟩
  · rw [wrong_found hf hl n3 (by omega), want_is h hk]
  · have hsub : (restS B s).Sublist s := List.filter_sublist
    have hlen := filter_len (fun a : S61 => decide (a.f0 ∈ B)) s
    rw [← h.off_iff hk] at hlen
    have hrl : (restS B s).length = (s.filter fun a => !decide (a.f0 ∈ B)).length := rfl
    have hf2 : Fine (c.length : Int) (restS B s) := ⟨by omega, by omega, Nat.le_trans hsub.length_le (by omega), fun a ha => h.good a (hsub.subset ha), hkd.sub hsub⟩
    refine (restore_on hf2 hc (by omega) (fun a ha => ?_)).2.1
    unfold restS at ha
    rw [List.mem_filter] at ha
    exact (ev_eq (hkd.v a ha.1)).1 (h.on a ha.1 (by simpa using ha.2)).symm
theorem wrong_l2 (h : Changed c kp B s) (hk : kp.Nodup) (hc : all251 c) (c1 : 1 ≤ c.length) (c4 : c.length ≤ 4) (hs : s.length ≤ 11) (hl : c.length + 2 * n ≤ s.length) (n3 : n ≤ 3) (hB : B.length ≤ n) :
    ∀ (d i : Nat), i + d = s.length → Ev (fun k => pianolalaw09_VaultWrong.l2 k c (n : Int) s (metL B) (wantTo B 21) (restS B (s.take i)) s (s.length : Int) (i : Int)) true := by
  intro d
  induction d with
  | zero =>
    intro i hd
    obtain ⟨e1, e2⟩ := wrong_end h hk hc c1 c4 hs hl n3 hB
    refine Ev.step (fun k => by rw [pianolalaw09_VaultWrong.l2]) ?_
    refine Ev.neg (by omega) ?_
    rw [List.take_of_length_le (by omega), Wrong_f, Secret_f, e1, e2]
    have := wantTo_len B 21
    exact Ev.bind (Ev.now _) (Ev.bind (Ev.now _) (Ev.pos rfl (Ev.pos rfl (Ev.bind (numbers_ev _ _ (show (wantTo B 21).length ≤ 1000000 by omega)) (Ev.pos (by simp) (Ev.pos (by omega) (Ev.pos rfl (Ev.have rfl))))))))
  | succ d ih =>
    intro i hd
    have hi : i < s.length := by omega
    have h1 := ih (i + 1) (by omega)
    have hg := h.good _ (List.getElem_mem hi)
    have g1 := hg.1
    have g2 := hg.2.1
    have hle : (restS B (s.take i)).length ≤ s.length := by
      have : (restS B (s.take i)).Sublist s := List.filter_sublist.trans (List.take_sublist _ _)
      exact this.length_le
    refine Ev.step (fun k => by rw [pianolalaw09_VaultWrong.l2]) ?_
    refine Ev.pos (by omega) (Ev.pos (by omega) (Ev.pos (by omega) ?_))
    rw [rd61_at s i hi]
    refine Ev.pos (by omega) (Ev.pos (by simp [metL]; omega) ?_)
    rw [metL_rd B _ (by omega) (by omega), w_nat i (by omega)]
    have e : restS B (s.take (i + 1)) = if s[i].f0 ∈ B then restS B (s.take i) else restS B (s.take i) ++ [s[i]] := by
      unfold restS
      rw [take_at s i hi, List.filter_append]
      by_cases cb : s[i].f0 ∈ B
      · simp [cb]
      · simp [cb]
    rw [e] at h1
    by_cases cb : s[i].f0 ∈ B
    · rw [if_pos cb] at h1
      exact Ev.pos (by simpa using cb) h1
    · rw [if_neg cb] at h1
      exact Ev.neg (by simpa using cb) (Ev.pos (by omega) h1)
theorem wrong_l1 (h : Changed c kp B s) (hk : kp.Nodup) (hc : all251 c) (c1 : 1 ≤ c.length) (c4 : c.length ≤ 4) (hs : s.length ≤ 11) (hl : c.length + 2 * n ≤ s.length) (n3 : n ≤ 3) (hB : B.length ≤ n) :
    ∀ (d i : Nat), i + d = 21 → Ev (fun k => pianolalaw09_VaultWrong.l1 k c (n : Int) s (metL B) (wantTo B i) (metL B) ((metL B).length : Int) (i : Int)) true := by
  have hml : (metL B).length = 21 := by simp [metL]
  intro d
  induction d with
  | zero =>
    intro i hd
    have : i = 21 := by omega
    subst this
    refine Ev.step (fun k => by rw [pianolalaw09_VaultWrong.l1]) ?_
    refine Ev.neg (by omega) ?_
    exact wrong_l2 h hk hc c1 c4 hs hl n3 hB s.length 0 (by omega)
  | succ d ih =>
    intro i hd
    have h1 := ih (i + 1) (by omega)
    have := wantTo_len B i
    rw [wantTo_succ] at h1
    refine Ev.step (fun k => by rw [pianolalaw09_VaultWrong.l1]) ?_
    refine Ev.pos (by omega) (Ev.pos (by omega) (Ev.pos (by omega) ?_))
    rw [metL_rd B _ (by omega) (by omega), w_nat i (by omega)]
    by_cases cb : (i : Int) ∈ B
    · rw [if_pos cb] at h1
      exact Ev.pos (by simpa using cb) (Ev.pos (by omega) h1)
    · rw [if_neg cb] at h1
      exact Ev.neg (by simpa using cb) h1
end
theorem change_one {c kp B : List Int} {s : List S61} (h : Changed c kp B s) (hk : kp.Nodup) (i : Nat) (hi : i < s.length) (hb : ¬ s[i].f0 ∈ B) (v : Int) (hv : F251 v) (hne : v ≠ s[i].f1) :
    Changed c kp (B ++ [s[i].f0]) (s.set i ⟨s[i].f0, v⟩) := by
  have hmem : ∀ a ∈ s.set i ⟨s[i].f0, v⟩, a = ⟨s[i].f0, v⟩ ∨ (a ∈ s ∧ a.f0 ≠ s[i].f0) := by
    intro a ha
    obtain ⟨j, hj, rfl⟩ := List.mem_iff_getElem.1 ha
    rw [List.length_set] at hj
    rw [List.getElem_set]
    by_cases e : i = j
    · rw [if_pos e]; exact .inl rfl
    · rw [if_neg e]
      exact .inr ⟨List.getElem_mem hj, fun hh => e ((kd_at (h.kd hk) hj hi).1 hh).symm⟩
  refine ⟨?_, fun a ha => ?_, fun a ha hab => ?_, fun a ha hab => ?_, ?_, fun b hbm => ?_⟩
  · rw [← h.keep]
    refine List.ext_getElem (by simp) (fun j h1 h2 => ?_)
    rw [List.getElem_map, List.getElem_map, List.getElem_set]
    split
    · rename_i e; subst e; rfl
    · rfl
  · rcases hmem a ha with e | ⟨e, _⟩
    · rw [e]
      have := h.good _ (List.getElem_mem hi)
      exact ⟨this.1, this.2.1, hv.1, hv.2⟩
    · exact h.good a e
  · rcases hmem a ha with e | ⟨e, e2⟩
    · rw [e]
      show v ≠ ev c s[i].f0
      rw [← h.on _ (List.getElem_mem hi) hb]
      exact hne
    · rcases List.mem_append.1 hab with hab | hab
      · exact h.off a e hab
      · rw [List.mem_singleton] at hab
        exact absurd hab e2
  · rcases hmem a ha with e | ⟨e, e2⟩
    · rw [e] at hab
      exact absurd (List.mem_append_right _ (List.mem_singleton_self _)) hab
    · exact h.on a e (fun hh => hab (List.mem_append_left _ hh))
  · rw [List.nodup_append]
    exact ⟨h.nd, by simp, fun a ha b hbm e => by rw [List.mem_singleton] at hbm; subst hbm; subst e; exact hb ha⟩
  · rcases List.mem_append.1 hbm with hbm | hbm
    · exact h.sub b hbm
    · rw [List.mem_singleton] at hbm
      rw [hbm, ← h.keep]
      exact List.mem_map_of_mem (List.getElem_mem hi)
theorem VaultWrong (l0 l1 : List Int) (l2 : List S64) (a3 : Int) (_ : l0.length ≤ maxLen) (y0 : l0.length * 1 ≤ 140737488351232) (w0 : ∀ x ∈ l0, (Lit.int .u8 x).wf = true) (_ : l1.length ≤ maxLen) (y1 : l1.length * 1 ≤ 140737488351232) (w1 : ∀ x ∈ l1, (Lit.int .u8 x).wf = true)
    (w2 : ∀ s ∈ l2, (Lit.int .u8 s.f0).wf = true ∧ (Lit.int .u8 s.f1).wf = true) (w3 : (Lit.int .u8 a3).wf = true) : ∃ k, pianolalaw09_VaultWrong.f k l0 l1 l2 a3 = some true := by
  obtain ⟨a30, a31⟩ := wf_u8 w3
  refine Ev.rounds ?_
  unfold pianolalaw09_VaultWrong.f
  refine Ev.bind (made_ev l0 (bytes_of w0) (by omega)) ?_
  obtain ⟨m1, m8⟩ := madeR_len l0
  have hm := madeR_in l0
  generalize madeR l0 = c0 at m1 m8 hm ⊢
  obtain ⟨n, hn⟩ : ∃ n : Nat, (n : Int) = a3 % 4 := ⟨(a3 % 4).toNat, by omega⟩
  have e4 : Int.tmod (wrap64 a3) 4 = (n : Int) := by
    rw [show wrap64 a3 = a3 by unfold wrap64; omega, Int.tmod_eq_emod_of_nonneg a30, hn]
  have j1 : ∀ (c : List Int) (kp : List Int) (s : List S61), all251 c → 1 ≤ c.length → c.length ≤ 4 → kp.Nodup → s.length ≤ 11 → c.length + 2 * n ≤ s.length → Changed c kp [] s → Ev (fun k => pianolalaw09_VaultWrong.j1 k l2 c (n : Int) s) true := by
    intro c kp s hc c1 c4 hk hs hl h
    refine Ev.step (fun k => by rw [pianolalaw09_VaultWrong.j1]) ?_
    refine Ev.pos (by omega) ?_
    rw [← metL_nil]
    have fin : ∀ (i : Nat) (B : List Int) (s : List S61), s.length ≤ 11 → c.length + 2 * n ≤ s.length → Changed c kp B s → B.length ≤ n → Ev (fun k => pianolalaw09_VaultWrong.j3 k l2 c (n : Int) s (metL B) (i : Int) false) true := by
      intro i B s hs hl h hB
      refine Ev.step (fun k => by rw [pianolalaw09_VaultWrong.j3]) ?_
      refine Ev.neg (by simp) ?_
      exact wrong_l1 h hk hc c1 c4 hs hl (by omega) hB 21 0 (by omega)
    have key : ∀ (d i : Nat) (B : List Int) (s : List S61), i + d = n → s.length ≤ 11 → c.length + 2 * n ≤ s.length → Changed c kp B s → B.length ≤ i → Ev (fun k => pianolalaw09_VaultWrong.l0 k l2 c (n : Int) s (metL B) (i : Int)) true := by
      intro d
      induction d with
      | zero =>
        intro i B s hd hs hl h hB
        refine Ev.step (fun k => by rw [pianolalaw09_VaultWrong.l0]) ?_
        by_cases g : i < l2.length
        · refine Ev.pos (by omega) ?_
          rw [decide_eq_false (show ¬ (i : Int) < (n : Int) by omega)]
          exact fin i B s hs hl h (by omega)
        · exact Ev.neg (by omega) (fin i B s hs hl h (by omega))
      | succ d ih =>
        intro i B s hd hs hl h hB
        refine Ev.step (fun k => by rw [pianolalaw09_VaultWrong.l0]) ?_
        by_cases g : i < l2.length
        · refine Ev.pos (by omega) ?_
          rw [decide_eq_true (show (i : Int) < (n : Int) by omega)]
          refine Ev.step (fun k => by rw [pianolalaw09_VaultWrong.j3]) ?_
          have hw := w2 _ (List.getElem_mem g)
          obtain ⟨p0, p1⟩ := wf_u8 hw.1
          obtain ⟨q0, q1⟩ := wf_u8 hw.2
          refine Ev.pos rfl (Ev.pos (by omega) (Ev.pos (by omega) ?_))
          rw [rd64_at' l2 i g]
          obtain ⟨j, hj, hjl⟩ : ∃ j : Nat, Int.tmod (wrap64 l2[i].f0) (s.length : Int) = (j : Int) ∧ j < s.length := by
            rw [show wrap64 l2[i].f0 = l2[i].f0 by unfold wrap64; omega, Int.tmod_eq_emod_of_nonneg p0]
            have h0 := Int.emod_nonneg l2[i].f0 (b := (s.length : Int)) (by omega)
            have h1 := Int.emod_lt_of_pos l2[i].f0 (b := (s.length : Int)) (by omega)
            exact ⟨(l2[i].f0 % (s.length : Int)).toNat, by omega, by omega⟩
          rw [hj]
          have hg := h.good _ (List.getElem_mem hjl)
          obtain ⟨g1, g2, g3, g4⟩ := hg
          refine Ev.neg (by omega) (Ev.pos (by omega) (Ev.pos (by omega) ?_))
          rw [rd61_at s j hjl]
          refine Ev.pos (by omega) (Ev.pos (by simp [metL]; omega) ?_)
          rw [metL_rd B _ (by omega) (by omega), w_nat i (by omega)]
          by_cases cb : s[j].f0 ∈ B
          · exact Ev.pos (by simpa using cb) (ih (i + 1) B s (by omega) hs hl h (by omega))
          · refine Ev.neg (by simpa using cb) ?_
            have e1 : Int.tmod (wrap64 ((wrap64 (s[j].f1 + 1)) + (Int.tmod (wrap64 l2[i].f1) 250))) 251 = (s[j].f1 + 1 + l2[i].f1 % 250) % 251 := by
              rw [show wrap64 l2[i].f1 = l2[i].f1 by unfold wrap64; omega, Int.tmod_eq_emod_of_nonneg q0, show wrap64 (s[j].f1 + 1) = s[j].f1 + 1 by unfold wrap64; omega,
                show wrap64 (s[j].f1 + 1 + l2[i].f1 % 250) = s[j].f1 + 1 + l2[i].f1 % 250 by unfold wrap64; omega, Int.tmod_eq_emod_of_nonneg (by omega)]
            rw [e1, Int.toNat_natCast, metL_set B _ (by omega)]
            exact ih (i + 1) _ _ (by omega) (by rw [List.length_set]; exact hs) (by rw [List.length_set]; exact hl) (change_one h hk j hjl cb _ (mod_in _) (by omega)) (by simp; omega)
        · exact Ev.neg (by omega) (fin i B s hs hl h (by omega))
    exact key n 0 [] s (by omega) hs hl h (by simp)
  have j0 : ∀ c : List Int, all251 c → 1 ≤ c.length → c.length ≤ 4 → Ev (fun k => pianolalaw09_VaultWrong.j0 k l1 l2 a3 c) true := by
    intro c hc c1 c4
    refine Ev.step (fun k => by rw [pianolalaw09_VaultWrong.j0]) ?_
    rw [e4, show wrap64 ((c.length : Int) + (wrap64 (2 * (n : Int)))) = (c.length : Int) + 2 * n by rw [show wrap64 (2 * (n : Int)) = 2 * n by unfold wrap64; omega]; unfold wrap64; omega]
    obtain ⟨kp, hk, hev⟩ := some_ex l1 (bytes_of w1) (by omega) ((c.length : Int) + 2 * n) (by omega)
    have hle := hk.le
    refine Ev.bind (hev c hc (by omega)) ?_
    have hch : ∀ t : List S61, t.Sublist (onS c kp) → Changed c (t.map S61.f0) [] t := by
      intro t ht
      refine ⟨rfl, fun a ha => onS_good hk c a (ht.subset ha), (fun a ha h => by cases h), fun a ha _ => ?_, List.nodup_nil, (fun b h => by cases h)⟩
      obtain ⟨k, hkk, rfl⟩ := List.mem_map.1 (ht.subset ha)
      rfl
    have hnd : ∀ t : List S61, t.Sublist (onS c kp) → (t.map S61.f0).Nodup := fun t ht => ((onS_kd hk c).sub ht).nd
    have hl := onS_len c kp
    by_cases g : ((onS c kp).length : Int) > 11
    · refine Ev.pos g (Ev.pos (by omega) ?_)
      have ht := List.take_sublist (11 : Int).toNat (onS c kp)
      have hlen : ((onS c kp).take (11 : Int).toNat).length = 11 := by
        rw [List.length_take, show (11 : Int).toNat = 11 from rfl]; omega
      exact j1 c _ _ hc c1 c4 (hnd _ ht) (by omega) (by omega) (hch _ ht)
    · exact Ev.neg g (j1 c _ _ hc c1 c4 (hnd _ (List.Sublist.refl _)) (by omega) (by omega) (hch _ (List.Sublist.refl _)))
  by_cases g : (c0.length : Int) > 4
  · refine Ev.pos g (Ev.pos (by omega) ?_)
    have hlen : (c0.take (4 : Int).toNat).length = 4 := by
      rw [List.length_take, show (4 : Int).toNat = 4 from rfl]; omega
    exact j0 _ (fun x hx => hm x (List.mem_of_mem_take hx)) (by omega) (by omega)
  · exact Ev.neg g (j0 c0 hm m1 (by omega))
end Go.Proofs.Ytpfkfbbekfkcgaa.Pure
end
