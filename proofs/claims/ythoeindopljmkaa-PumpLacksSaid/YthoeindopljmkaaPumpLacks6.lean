/- Words and contracts for a claim. -/
import Derived.Test.YthoeindopljmkaaPumpLacks5
import Derived.Lib.SliceRun
section
namespace Go.Proofs.Ythoeindopljmkaa.P
open Go.RowKit Go.Proofs.YthoeindopljmkaaW.PrintWords Go.Proofs.YthoeindopljmkaaW.PrintLast Go.Proofs.YthoeindopljmkaaW.PrintMore
set_option linter.unusedVariables false
set_option linter.unusedSimpArgs false
theorem btw_iff {a b c : Int} : btw a b c = true ↔ a ≤ b ∧ b ≤ c := by simp [btw]
end Go.Proofs.Ythoeindopljmkaa.P
end
section
namespace Go.Proofs.Ythoeindopljmkaa.P
open Go.RowKit Go.Proofs.YthoeindopljmkaaW.PrintWords Go.Proofs.YthoeindopljmkaaW.PrintLast Go.Proofs.YthoeindopljmkaaW.PrintMore
attribute [local go_sem] max2_int min2_int max_two min_two max_three min_three max_four min_four
set_option linter.unusedVariables false
set_option linter.unusedSimpArgs false
def pianolalaw04_given.l0 : Nat → List (S71) → List (S90) → Int → Option ((List (S90)))
  | 0, _, _, _ => none
  | k + 1, x0, x3, x4 => if x4 < (x0.length : Int) then (if 0 ≤ x4 then (if x3.length < 8796093022208 then (pianolalaw04_given.l0 k x0 (x3 ++ [(⟨(rd_T71 x0 x4).f0, (rd_T71 x0 x4).f1⟩ : S90)]) (wrap64 (x4 + 1))) else (none)) else (none)) else (some x3)
def pianolalaw04_given.f (k : Nat) (l0 : List (S71)) : Option ((List (S90))) := pianolalaw04_given.l0 k l0 ([] : List (S90)) 0
set_option maxHeartbeats 8000000 in
set_option maxRecDepth 100000 in
theorem pianolalaw04_given.calls (k : Nat) (A0 : Option Addr) (c0 : Nat) (l0 : List (S71)) (r : List (S90)) (w : World) (hr0 : Kd.C k71 w A0 l0.length l0) (hc0 : l0.length ≤ c0) (h : pianolalaw04_given.f k l0 = some r) :
  Calls Try.prog 16 #[.slice A0 l0.length c0] w fun e w' => ∃ v0_ : Value, e = .returned (v0_) ∧ Kd.R k90 90 w' w.heap.size (fun _ => True) v0_ r ∧ Below w.heap.size w w' := by
 have hu71 := Try.underlying71
 have HR0 := zA hr0
 have HC0 := zA hc0
 clear hr0 hc0
 have HB := zA (Below.refl w.heap.size w)
 have H : (pianolalaw04_given.l0 k l0 ([] : List (S90)) 0) = some r := h
 clear h
 have H' := zA H
 clear H
 go_enter Try.func16, Try.ntmps16
 go_wp2
 go_loopg [3, 4] k (fun kq v3 v4 w' => ∃ (x3_1 : List (S90)) (x4_1 : Int), v4 = .int .i64 x4_1 ∧ Aside0 (pianolalaw04_given.l0 kq l0 x3_1 x4_1 = some r) ∧ Aside0 (kq ≤ k) ∧ Aside0 (Kd.R k90 90 w' w.heap.size (fun _ => True) v3 x3_1) ∧ Aside0 (Below w.heap.size w w'))
 case atStart => exact ⟨(([] : List (S90))), (0), zqQ, H', ⟨Nat.le_refl _⟩, ⟨by first | exact Kd.R_nil _ _ _ _ _ | exact Kd.N_nil _ _ _ _ _ | exact Kd.V_nil _ _ _ _ _ | exact Kd.Q_nil _ _ _ _ _ | exact Kd.S_nil _ _ _ _ _⟩, ⟨zqA HB.out⟩⟩
 case round =>
  clear H'
  try clear c1
  obtain ⟨x3_1, x4_1, rfl, HA, HK1, HO_3, HB⟩ := hrel
  cases gk with
  | zero => exact absurd HA.out (by simp [pianolalaw04_given.l0])
  | succ k1 =>
   have H := HA.out
   clear HA
   simp only [pianolalaw04_given.l0] at H
   by_cases c2 : x4_1 < (l0.length : Int)
   ·
    rw [if_pos c2] at H
    have c2b0 : decide (x4_1 < (l0.length : Int)) = true := decide_eq_true c2
    clear c2
    by_cases c3 : 0 ≤ x4_1
    ·
     rw [if_pos c3] at H
     have c3b0 : decide (0 ≤ x4_1) = true := decide_eq_true c3
     clear c3
     by_cases c4 : x3_1.length < 8796093022208
     ·
      rw [if_pos c4] at H
      have LMc4 := zA c4
      clear c4
      obtain ⟨y102, hy102⟩ : ∃ y_ : List (S90), y_ = (x3_1 ++ [(⟨(rd_T71 l0 x4_1).f0, (rd_T71 l0 x4_1).f1⟩ : S90)]) := ⟨_, rfl⟩
      replace H : (pianolalaw04_given.l0 k1 l0 y102 (wrap64 (x4_1 + 1))) = some r := zqF hy102 H
      have Ny102 := zA hy102
      clear hy102
      have H' := zA H
      clear H
      have p101 : 0 ≤ (x4_1 : Int) := of_decide_eq_true (zqD)
      have q101 : x4_1 < (l0.length : Int) := of_decide_eq_true (zqD)
      obtain ⟨ad101, e101, hx101_0, hx101_1⟩ := at_T71 HR0.out x4_1 p101 q101
      cases e101
      replace hx101_0 := (HB.out.cell (World.block_lt_of_cell? w _ hx101_0)).trans hx101_0
      replace hx101_1 := (HB.out.cell (World.block_lt_of_cell? w _ hx101_1)).trans hx101_1
      replace p101 := eq_true p101; replace q101 := eq_true q101
      go_wp2_with (first | ((with_reducible refine gate_builtin (b := .append) (xs := #[.tmp 11, .tmp 16]) rfl ?_); at_builtin; refine Kd.R_append k90 (w0 := w) w.heap.size rfl (.tmp 11) (.tmp 16) 24 90 (.agg #[(.int .i64 0), (.int .i64 0)]) 16 rfl Try.underlying24 info90 rfl (by decide) (by omega) u3 x3_1 (⟨(rd_T71 l0 x4_1).f0, (rd_T71 l0 x4_1).f1⟩ : S90) [.int .i64 ((rd_T71 l0 x4_1).f0), .int .i64 ((rd_T71 l0 x4_1).f1)] (fun _ => True) (fun _ => False) rfl rfl ?aP (fun _ hk => hk.elim) ?aF ?aO ?aB ?aS ?aL ?_; (case aP => exact k90_mkM _ _ _ (⟨(rd_T71 l0 x4_1).f0, (rd_T71 l0 x4_1).f1⟩ : S90)); (case aB => exact (zqA HB.out)); (case aF => exact (fun _ _ => trivial)); (case aO => exact (zqC HO_3.out)); (case aS => exact (below_size (zqA HB.out))); (case aL => have := LMc4.out; omega); intro v103 w5 ho hb hg hat; rw [← Ny102.out] at ho; have n0_ := zA (hb); have n1_ := zA (ho); clear HB; clear HO_3; have HB := n0_; have HO104 := n1_; clear n0_ n1_; clear ho hb hg hat))
      go_roundg k1
      case measure => have := HK1.out; omega
      case rel => exact ⟨(y102), (wrap64 (x4_1 + 1)), zqQ, H', ⟨by have := HK1.out; omega⟩, ⟨zqC HO104.out⟩, ⟨zqA HB.out⟩⟩
     ·
      rw [if_neg c4] at H
      exact absurd H (by simp)
    ·
     rw [if_neg c3] at H
     exact absurd H (by simp)
   ·
    rw [if_neg c2] at H
    have c2b0 : decide (x4_1 < (l0.length : Int)) = false := decide_eq_false c2
    clear c2
    obtain rfl := Option.some.inj H
    go_wp2
    go_ret
    exact ⟨_, zqR, zqC HO_3.out, zqA HB.out⟩
def pianolaref04_CheckBounds.l0 : Nat → List (S90) → Int → Option (Int)
  | 0, _, _ => none
  | k + 1, x0, x3 => if x3 < (x0.length : Int) then (if 0 ≤ x3 then ((pianolaref04_is.f ((rd_T90 x0 x3).f0) 1 100).bind fun t111 => (if t111 = true then ((pianolaref04_is.f ((rd_T90 x0 x3).f1) 0 1000000).bind fun t113 => (if t113 = true then (pianolaref04_CheckBounds.l0 k x0 (wrap64 (x3 + 1))) else (some 3))) else (some 3))) else (none)) else (some 0)
def pianolaref04_CheckBounds.f (k : Nat) (l0 : List (S90)) : Option (Int) := if (l0.length : Int) = 0 then (some 4) else (if (l0.length : Int) > 5 then (some 5) else (pianolaref04_CheckBounds.l0 k l0 0))
set_option maxHeartbeats 8000000 in
set_option maxRecDepth 100000 in
theorem pianolaref04_CheckBounds.calls (k : Nat) (A0 : Option Addr) (c0 : Nat) (l0 : List (S90)) (r : Int) (w : World) (hr0 : Kd.C k90 w A0 l0.length l0) (hc0 : l0.length ≤ c0) (h : pianolaref04_CheckBounds.f k l0 = some r) :
  Calls Try.prog 24 #[.slice A0 l0.length c0] w fun e w' => e = .returned (.int .i64 r) ∧ Drawn0 w w' := by
 have HR0 := zA hr0
 have HC0 := zA hc0
 clear hr0 hc0
 have H : (if (l0.length : Int) = 0 then (some 4) else (if (l0.length : Int) > 5 then (some 5) else (pianolaref04_CheckBounds.l0 k l0 0))) = some r := h
 clear h
 by_cases c2 : (l0.length : Int) = 0
 ·
  rw [if_pos c2] at H
  have c2b0 : ((l0.length : Int) == 0) = true := beq_iff_eq.mpr c2
  have c2b1 : ((l0.length : Int) != 0) = false := bne_eq_false_iff_eq.mpr c2
  clear c2
  obtain rfl := Option.some.inj H
  go_enter Try.func24, Try.ntmps24
  go_wp2
  go_ret
  exact ⟨by first | rfl | (simp; done) | (simp [*]; done), by repeat (first | exact Drawn0.refl _ | apply Drawn0.step)⟩
 ·
  rw [if_neg c2] at H
  have c2b0 : ((l0.length : Int) == 0) = false := beq_eq_false_iff_ne.mpr c2
  have c2b1 : ((l0.length : Int) != 0) = true := bne_iff_ne.mpr c2
  have c2b2 : ¬ (l0 = []) := fun h_ => c2 (by rw [h_]; rfl)
  by_cases c3 : (l0.length : Int) > 5
  ·
   rw [if_pos c3] at H
   have c3b0 : decide (5 < (l0.length : Int)) = true := decide_eq_true c3
   have c3b1 : decide (5 < l0.length) = true := decide_eq_true (by omega)
   clear c3
   obtain rfl := Option.some.inj H
   go_enter Try.func24, Try.ntmps24
   go_wp2
   go_ret
   exact ⟨by first | rfl | (simp; done) | (simp [*]; done), by repeat (first | exact Drawn0.refl _ | apply Drawn0.step)⟩
  ·
   rw [if_neg c3] at H
   have c3b0 : decide (5 < (l0.length : Int)) = false := decide_eq_false c3
   have c3b1 : decide (5 < l0.length) = false := decide_eq_false (by omega)
   clear c3
   have H' := zA H
   clear H
   go_enter Try.func24, Try.ntmps24
   go_wp2
   go_loopg [3] k (fun kq v3 w' => ∃ (x3_1 : Int), v3 = .int .i64 x3_1 ∧ Aside0 (pianolaref04_CheckBounds.l0 kq l0 x3_1 = some r) ∧ Aside0 (kq ≤ k) ∧ Drawn0 w w')
   case atStart => exact ⟨(0), zqQ, H', ⟨Nat.le_refl _⟩, by repeat (first | exact Drawn0.refl _ | apply Drawn0.step)⟩
   case round =>
    clear H'
    try clear c2
    try clear c2b0
    try clear c2b1
    try clear c2b2
    try clear p2
    try clear c3
    try clear c3b0
    try clear c3b1
    obtain ⟨x3_1, rfl, HA, HK1, ⟨m1, rfl⟩⟩ := hrel
    cases gk with
    | zero => exact absurd HA.out (by simp [pianolaref04_CheckBounds.l0])
    | succ k1 =>
     have H := HA.out
     clear HA
     simp only [pianolaref04_CheckBounds.l0] at H
     by_cases c4 : x3_1 < (l0.length : Int)
     ·
      rw [if_pos c4] at H
      have c4b0 : decide (x3_1 < (l0.length : Int)) = true := decide_eq_true c4
      clear c4
      by_cases c5 : 0 ≤ x3_1
      ·
       rw [if_pos c5] at H
       have c5b0 : decide (0 ≤ x3_1) = true := decide_eq_true c5
       clear c5
       replace H := Option.bind_eq_some_iff.mp H
       obtain ⟨t111, A60, H⟩ := H
       replace H : (if t111 = true then ((pianolaref04_is.f ((rd_T90 l0 x3_1).f1) 0 1000000).bind fun t113 => (if t113 = true then (pianolaref04_CheckBounds.l0 k1 l0 (wrap64 (x3_1 + 1))) else (some 3))) else (some 3)) = some r := H
       have A6 := zA A60
       clear A60
       by_cases c7 : t111 = true
       ·
        subst c7
        have H1 : ((pianolaref04_is.f ((rd_T90 l0 x3_1).f1) 0 1000000).bind fun t113 => (if t113 = true then (pianolaref04_CheckBounds.l0 k1 l0 (wrap64 (x3_1 + 1))) else (some 3))) = some r := by rw [if_pos rfl] at H; exact H
        clear H; have H := H1; clear H1
        replace H := Option.bind_eq_some_iff.mp H
        obtain ⟨t113, A80, H⟩ := H
        replace H : (if t113 = true then (pianolaref04_CheckBounds.l0 k1 l0 (wrap64 (x3_1 + 1))) else (some 3)) = some r := H
        have A8 := zA A80
        clear A80
        by_cases c9 : t113 = true
        ·
         subst c9
         have H1 : (pianolaref04_CheckBounds.l0 k1 l0 (wrap64 (x3_1 + 1))) = some r := by rw [if_pos rfl] at H; exact H
         clear H; have H := H1; clear H1
         have H' := zA H
         clear H
         have p110 : 0 ≤ (x3_1 : Int) := of_decide_eq_true (zqD)
         have q110 : x3_1 < (l0.length : Int) := of_decide_eq_true (zqD)
         obtain ⟨ad110, e110, hx110_0, hx110_1⟩ := at_T90 HR0.out x3_1 p110 q110
         cases e110; replace p110 := eq_true p110; replace q110 := eq_true q110
         go_wp2_with (first | ((with_reducible refine gate_callee (f := 61) rfl ?_); refine goesL_ (some 21) rfl rfl Try.func61 (by kernel_rfl) rfl #[.int .i64 ((rd_T90 l0 x3_1).f0), .int .i64 1, .int .i64 100] rfl zqE ?_; (with_reducible refine (pianolaref04_is.calls ((rd_T90 l0 x3_1).f0) 1 100 true _ A6.out).mono ?_); rintro e w' ⟨rfl, ⟨nd, rfl⟩⟩; refine ⟨_, rfl, ?_⟩; have p112 : 0 ≤ (x3_1 : Int) := of_decide_eq_true (zqD); have q112 : x3_1 < (l0.length : Int) := of_decide_eq_true (zqD); obtain ⟨ad112, e112, hx112_0, hx112_1⟩ := at_T90 HR0.out x3_1 p112 q112; obtain rfl : ad110 = ad112 := (by injection e112); replace p112 := eq_true p112; replace q112 := eq_true q112) | (go_at_call 61; (with_reducible refine (pianolaref04_is.calls ((rd_T90 l0 x3_1).f1) 0 1000000 true _ A8.out).mono ?_); rintro e w' ⟨rfl, ⟨nd, rfl⟩⟩))
         go_roundg k1
         case measure => have := HK1.out; omega
         case rel => exact ⟨(wrap64 (x3_1 + 1)), zqQ, H', ⟨by have := HK1.out; omega⟩, by repeat (first | exact Drawn0.refl _ | apply Drawn0.step)⟩
        ·
         replace c9 := Bool.eq_false_iff.mpr c9
         subst c9
         have H1 : (some 3) = some r := by rw [if_neg (show ¬ (false = true) by decide)] at H; exact H
         clear H; have H := H1; clear H1
         obtain rfl := Option.some.inj H
         have p110 : 0 ≤ (x3_1 : Int) := of_decide_eq_true (zqD)
         have q110 : x3_1 < (l0.length : Int) := of_decide_eq_true (zqD)
         obtain ⟨ad110, e110, hx110_0, hx110_1⟩ := at_T90 HR0.out x3_1 p110 q110
         cases e110; replace p110 := eq_true p110; replace q110 := eq_true q110
         go_wp2_with (first | ((with_reducible refine gate_callee (f := 61) rfl ?_); refine goesL_ (some 21) rfl rfl Try.func61 (by kernel_rfl) rfl #[.int .i64 ((rd_T90 l0 x3_1).f0), .int .i64 1, .int .i64 100] rfl zqE ?_; (with_reducible refine (pianolaref04_is.calls ((rd_T90 l0 x3_1).f0) 1 100 true _ A6.out).mono ?_); rintro e w' ⟨rfl, ⟨nd, rfl⟩⟩; refine ⟨_, rfl, ?_⟩; have p112 : 0 ≤ (x3_1 : Int) := of_decide_eq_true (zqD); have q112 : x3_1 < (l0.length : Int) := of_decide_eq_true (zqD); obtain ⟨ad112, e112, hx112_0, hx112_1⟩ := at_T90 HR0.out x3_1 p112 q112; obtain rfl : ad110 = ad112 := (by injection e112); replace p112 := eq_true p112; replace q112 := eq_true q112) | (go_at_call 61; (with_reducible refine (pianolaref04_is.calls ((rd_T90 l0 x3_1).f1) 0 1000000 false _ A8.out).mono ?_); rintro e w' ⟨rfl, ⟨nd, rfl⟩⟩))
         go_ret
         exact ⟨by first | rfl | (simp; done) | (simp [*]; done), by repeat (first | exact Drawn0.refl _ | apply Drawn0.step)⟩
       ·
        replace c7 := Bool.eq_false_iff.mpr c7
        subst c7
        have H1 : (some 3) = some r := by rw [if_neg (show ¬ (false = true) by decide)] at H; exact H
        clear H; have H := H1; clear H1
        obtain rfl := Option.some.inj H
        have p110 : 0 ≤ (x3_1 : Int) := of_decide_eq_true (zqD)
        have q110 : x3_1 < (l0.length : Int) := of_decide_eq_true (zqD)
        obtain ⟨ad110, e110, hx110_0, hx110_1⟩ := at_T90 HR0.out x3_1 p110 q110
        cases e110; replace p110 := eq_true p110; replace q110 := eq_true q110
        go_wp2_with (first | ((with_reducible refine gate_callee (f := 61) rfl ?_); refine goesL_ (some 21) rfl rfl Try.func61 (by kernel_rfl) rfl #[.int .i64 ((rd_T90 l0 x3_1).f0), .int .i64 1, .int .i64 100] rfl zqE ?_; (with_reducible refine (pianolaref04_is.calls ((rd_T90 l0 x3_1).f0) 1 100 false _ A6.out).mono ?_); rintro e w' ⟨rfl, ⟨nd, rfl⟩⟩; refine ⟨_, rfl, ?_⟩))
        go_ret
        exact ⟨by first | rfl | (simp; done) | (simp [*]; done), by repeat (first | exact Drawn0.refl _ | apply Drawn0.step)⟩
      ·
       rw [if_neg c5] at H
       exact absurd H (by simp)
     ·
      rw [if_neg c4] at H
      have c4b0 : decide (x3_1 < (l0.length : Int)) = false := decide_eq_false c4
      clear c4
      obtain rfl := Option.some.inj H
      go_wp2
      go_ret
      exact ⟨by first | rfl | (simp; done) | (simp [*]; done), by repeat (first | exact Drawn0.refl _ | apply Drawn0.step)⟩
def pianolalaw04_long.l0 : Nat → List (List (S71)) → Bool → Int → Option (Bool)
  | 0, _, _, _ => none
  | k + 1, x0, x3, x4 => if x4 < (x0.length : Int) then (if x3 = true then (pianolalaw04_long.l0 k x0 true (wrap64 (x4 + 1))) else (if 0 ≤ x4 then (pianolalaw04_long.l0 k x0 (decide (((rd_L4 x0 x4).length : Int) > 20)) (wrap64 (x4 + 1))) else (none))) else (some x3)
def pianolalaw04_long.f (k : Nat) (l0 : List (List (S71))) : Option (Bool) := pianolalaw04_long.l0 k l0 (decide ((l0.length : Int) > 10)) 0
set_option maxHeartbeats 8000000 in
set_option maxRecDepth 100000 in
theorem pianolalaw04_long.calls (k : Nat) (A0 : Option Addr) (c0 : Nat) (l0 : List (List (S71))) (r : Bool) (w : World) (hr0 : Kd.C (Kd.slice 71 k71) w A0 l0.length l0) (hc0 : l0.length ≤ c0) (h : pianolalaw04_long.f k l0 = some r) :
  Calls Try.prog 26 #[.slice A0 l0.length c0] w fun e w' => e = .returned (.bool r) ∧ Drawn0 w w' := by
 have HR0 := zA hr0
 have HC0 := zA hc0
 clear hr0 hc0
 have H : (pianolalaw04_long.l0 k l0 (decide ((l0.length : Int) > 10)) 0) = some r := h
 clear h
 have H' := zA H
 clear H
 go_enter Try.func26, Try.ntmps26
 go_wp2
 go_loopg [3, 4] k (fun kq v3 v4 w' => ∃ (x3_1 : Bool) (x4_1 : Int), v3 = .bool x3_1 ∧ v4 = .int .i64 x4_1 ∧ Aside0 (pianolalaw04_long.l0 kq l0 x3_1 x4_1 = some r) ∧ Aside0 (kq ≤ k) ∧ Drawn0 w w')
 case atStart => exact ⟨(decide ((l0.length : Int) > 10)), (0), zqQ, zqQ, H', ⟨Nat.le_refl _⟩, by repeat (first | exact Drawn0.refl _ | apply Drawn0.step)⟩
 case round =>
  clear H'
  obtain ⟨x3_1, x4_1, rfl, rfl, HA, HK1, ⟨m1, rfl⟩⟩ := hrel
  cases gk with
  | zero => exact absurd HA.out (by simp [pianolalaw04_long.l0])
  | succ k1 =>
   have H := HA.out
   clear HA
   simp only [pianolalaw04_long.l0] at H
   by_cases c2 : x4_1 < (l0.length : Int)
   ·
    rw [if_pos c2] at H
    have c2b0 : decide (x4_1 < (l0.length : Int)) = true := decide_eq_true c2
    clear c2
    by_cases c3 : x3_1 = true
    ·
     subst c3
     have H1 : (pianolalaw04_long.l0 k1 l0 true (wrap64 (x4_1 + 1))) = some r := by rw [if_pos rfl] at H; exact H
     clear H; have H := H1; clear H1
     have H' := zA H
     clear H
     go_wp2
     go_roundg k1
     case measure => have := HK1.out; omega
     case rel => exact ⟨(true), (wrap64 (x4_1 + 1)), zqQ, zqQ, H', ⟨by have := HK1.out; omega⟩, by repeat (first | exact Drawn0.refl _ | apply Drawn0.step)⟩
    ·
     replace c3 := Bool.eq_false_iff.mpr c3
     subst c3
     have H1 : (if 0 ≤ x4_1 then (pianolalaw04_long.l0 k1 l0 (decide (((rd_L4 l0 x4_1).length : Int) > 20)) (wrap64 (x4_1 + 1))) else (none)) = some r := by rw [if_neg (show ¬ (false = true) by decide)] at H; exact H
     clear H; have H := H1; clear H1
     by_cases c4 : 0 ≤ x4_1
     ·
      rw [if_pos c4] at H
      have c4b0 : decide (0 ≤ x4_1) = true := decide_eq_true c4
      clear c4
      have H' := zA H
      clear H
      have p191 : 0 ≤ (x4_1 : Int) := of_decide_eq_true (zqD)
      have q191 : x4_1 < (l0.length : Int) := of_decide_eq_true (zqD)
      obtain ⟨ad191, A191_0, c191_0, e191, hx191_0, hl191_0, hi191_0⟩ := at_L4 HR0.out x4_1 p191 q191
      cases e191
      have HR191_0 := zA hi191_0
      have HC191_0 := zA hl191_0
      clear hi191_0 hl191_0; replace p191 := eq_true p191; replace q191 := eq_true q191
      go_wp2
      go_roundg k1
      case measure => have := HK1.out; omega
      case rel => exact ⟨(decide (((rd_L4 l0 x4_1).length : Int) > 20)), (wrap64 (x4_1 + 1)), zqQ, zqQ, H', ⟨by have := HK1.out; omega⟩, by repeat (first | exact Drawn0.refl _ | apply Drawn0.step)⟩
     ·
      rw [if_neg c4] at H
      exact absurd H (by simp)
   ·
    rw [if_neg c2] at H
    have c2b0 : decide (x4_1 < (l0.length : Int)) = false := decide_eq_false c2
    clear c2
    obtain rfl := Option.some.inj H
    go_wp2
    go_ret
    exact ⟨by first | rfl | (simp; done) | (simp [*]; done), by repeat (first | exact Drawn0.refl _ | apply Drawn0.step)⟩
def pianolalaw04_row.l0 : Nat → List (List (S71)) → List (List (S90)) → Int → Option ((List (List (S90))))
  | 0, _, _, _ => none
  | k + 1, x0, x3, x4 => if x4 < (x0.length : Int) then (if 0 ≤ x4 then ((pianolalaw04_given.f k (rd_L4 x0 x4)).bind fun t193 => (if x3.length < 5864062014805 then (pianolalaw04_row.l0 k x0 (x3 ++ [t193]) (wrap64 (x4 + 1))) else (none))) else (none)) else (some x3)
def pianolalaw04_row.f (k : Nat) (l0 : List (List (S71))) : Option ((List (List (S90)))) := pianolalaw04_row.l0 k l0 ([] : List (List (S90))) 0
set_option maxHeartbeats 8000000 in
set_option maxRecDepth 100000 in
theorem pianolalaw04_row.calls (k : Nat) (A0 : Option Addr) (c0 : Nat) (l0 : List (List (S71))) (r : List (List (S90))) (w : World) (hr0 : Kd.C (Kd.slice 71 k71) w A0 l0.length l0) (hc0 : l0.length ≤ c0) (h : pianolalaw04_row.f k l0 = some r) :
  Calls Try.prog 62 #[.slice A0 l0.length c0] w fun e w' => ∃ v0_ : Value, e = .returned (v0_) ∧ Kd.S (Kd.slice 90 k90) 24 w' w.heap.size (fun _ => True) v0_ r ∧ Below w.heap.size w w' := by
 have HR0 := zA hr0
 have HC0 := zA hc0
 clear hr0 hc0
 have HB := zA (Below.refl w.heap.size w)
 have H : (pianolalaw04_row.l0 k l0 ([] : List (List (S90))) 0) = some r := h
 clear h
 have H' := zA H
 clear H
 go_enter Try.func62, Try.ntmps62
 go_wp2
 go_loopg [3, 4] k (fun kq v3 v4 w' => ∃ (x3_1 : List (List (S90))) (x4_1 : Int), v4 = .int .i64 x4_1 ∧ Aside0 (pianolalaw04_row.l0 kq l0 x3_1 x4_1 = some r) ∧ Aside0 (kq ≤ k) ∧ Aside0 (Kd.S (Kd.slice 90 k90) 24 w' w.heap.size (fun _ => True) v3 x3_1) ∧ Aside0 (Below w.heap.size w w'))
 case atStart => exact ⟨(([] : List (List (S90)))), (0), zqQ, H', ⟨Nat.le_refl _⟩, ⟨by first | exact Kd.S_nil _ _ _ _ _ | exact Kd.N_nil _ _ _ _ _ | exact Kd.V_nil _ _ _ _ _ | exact Kd.Q_nil _ _ _ _ _ | exact Kd.R_nil _ _ _ _ _⟩, ⟨zqA HB.out⟩⟩
 case round =>
  clear H'
  obtain ⟨x3_1, x4_1, rfl, HA, HK1, HO_3, HB⟩ := hrel
  cases gk with
  | zero => exact absurd HA.out (by simp [pianolalaw04_row.l0])
  | succ k1 =>
   have H := HA.out
   clear HA
   simp only [pianolalaw04_row.l0] at H
   by_cases c2 : x4_1 < (l0.length : Int)
   ·
    rw [if_pos c2] at H
    have c2b0 : decide (x4_1 < (l0.length : Int)) = true := decide_eq_true c2
    clear c2
    by_cases c3 : 0 ≤ x4_1
    ·
     rw [if_pos c3] at H
     have c3b0 : decide (0 ≤ x4_1) = true := decide_eq_true c3
     clear c3
     replace H := Option.bind_eq_some_iff.mp H
     obtain ⟨t193, A40, H⟩ := H
     replace H : (if x3_1.length < 5864062014805 then (pianolalaw04_row.l0 k1 l0 (x3_1 ++ [t193]) (wrap64 (x4_1 + 1))) else (none)) = some r := H
     have A4 := zA A40
     clear A40
     by_cases c5 : x3_1.length < 5864062014805
     ·
      rw [if_pos c5] at H
      have LMc5 := zA c5
      clear c5
      obtain ⟨y196, hy196⟩ : ∃ y_ : List (List (S90)), y_ = (x3_1 ++ [t193]) := ⟨_, rfl⟩
      replace H : (pianolalaw04_row.l0 k1 l0 y196 (wrap64 (x4_1 + 1))) = some r := zqF hy196 H
      have Ny196 := zA hy196
      clear hy196
      have H' := zA H
      clear H
      have p192 : 0 ≤ (x4_1 : Int) := of_decide_eq_true (zqD)
      have q192 : x4_1 < (l0.length : Int) := of_decide_eq_true (zqD)
      obtain ⟨ad192, A192_0, c192_0, e192, hx192_0, hl192_0, hi192_0⟩ := at_L4 HR0.out x4_1 p192 q192
      cases e192
      replace hx192_0 := (HB.out.cell (World.block_lt_of_cell? w _ hx192_0)).trans hx192_0
      have HR192_0 := zA hi192_0
      have HC192_0 := zA hl192_0
      clear hi192_0 hl192_0; replace p192 := eq_true p192; replace q192 := eq_true q192
      go_wp2_with (first | ((with_reducible refine gate_callee (f := 16) rfl ?_); refine goesL_ (some 16) rfl rfl Try.func16 (by kernel_rfl) rfl #[.slice A192_0 (rd_L4 l0 x4_1).length c192_0] rfl zqE ?_; (with_reducible refine (pianolalaw04_given.calls k1 _ _ (rd_L4 l0 x4_1) t193 _ ?side1 ?side2 A4.out).mono ?_); (case side1 => exact zqK (Kd.C_below HR192_0.out HB.out)); (case side2 => exact HC192_0.out); rintro e w6 ⟨v194, rfl, ho0, hb⟩; refine ⟨_, rfl, ?_⟩; have n0_ := zA (Kd.S_elder' (by (with_reducible repeat (first | apply Kd.S_alloc | apply Kd.S_drewN | apply Kd.S_drew)); exact HO_3.out) (Kd.R_base ho0) hb); have n1_ := zA (Kd.R_lower ho0 (below_size (zqA HB.out))); have n2_ := zA (below_step (zqA HB.out) hb); clear HO_3; clear HB; have HO_3 := n0_; have HO195 := n1_; have HB := n2_; clear n0_ n1_ n2_; (try clear hb); (try clear hb2); (try clear hk); (try clear hi); (try clear ho0); obtain ⟨Ao8, co8, eo8⟩ := Kd.R_slice HO195.out; subst eo8) | ((with_reducible refine gate_builtin (b := .append) (xs := #[.tmp 11, .tmp 17]) rfl ?_); at_builtin; refine Kd.S_append (Kd.slice 90 k90) (w0 := w) w.heap.size rfl (.tmp 11) (.tmp 17) 42 24 (.slice none 0 0) 24 rfl Try.underlying42 info24 rfl (by decide) (by omega) u3 x3_1 t193 [.slice Ao8 t193.length co8] (fun _ => True) (fun k_ => some k_ = (.slice Ao8 t193.length co8 : Value).ownBlock) rfl rfl ?aP (fun k_ hk_ => ((Kd.R_mono (ok' := fun k_ => ((fun _ => True)) k_ ∧ some k_ ≠ (u3 : Value).ownBlock) (Kd.R_apart' (HO195.out) (Kd.S_typed HO_3.out) (by decide)) (fun k_ hk => ⟨trivial, hk.2⟩))).1 k_ hk_.symm) ?aF ?aO ?aB ?aS ?aL ?_; (case aP => exact Kd.M_row (Kd.R_mono (Kd.R_tight rfl (Kd.R_mono (ok' := fun k_ => ((fun _ => True)) k_ ∧ some k_ ≠ (u3 : Value).ownBlock) (Kd.R_apart' (HO195.out) (Kd.S_typed HO_3.out) (by decide)) (fun k_ hk => ⟨trivial, hk.2⟩))) (fun _ h_ => h_))); (case aB => exact (zqA HB.out)); (case aF => exact (fun _ _ => trivial)); (case aO => exact (by (with_reducible repeat (first | apply Kd.S_alloc | apply Kd.S_drewN | apply Kd.S_drew)); exact Kd.S_mono HO_3.out (fun k_ hk => ⟨trivial, fun e_ => hk.2 e_⟩))); (case aS => exact (below_size (zqA HB.out))); (case aL => have := LMc5.out; omega); intro v197 w7 ho hb hg hat; rw [← Ny196.out] at ho; have n0_ := zA (hb); have n1_ := zA (ho); clear HB; clear HO_3; clear HO195; have HB := n0_; have HO198 := n1_; clear n0_ n1_; clear ho hb hg hat))
      go_roundg k1
      case measure => have := HK1.out; omega
      case rel => exact ⟨(y196), (wrap64 (x4_1 + 1)), zqQ, H', ⟨by have := HK1.out; omega⟩, ⟨by (with_reducible repeat (first | apply Kd.S_alloc | apply Kd.S_drewN | apply Kd.S_drew)); exact HO198.out⟩, ⟨zqA HB.out⟩⟩
     ·
      rw [if_neg c5] at H
      exact absurd H (by simp)
    ·
     rw [if_neg c3] at H
     exact absurd H (by simp)
   ·
    rw [if_neg c2] at H
    have c2b0 : decide (x4_1 < (l0.length : Int)) = false := decide_eq_false c2
    clear c2
    obtain rfl := Option.some.inj H
    go_wp2
    go_ret
    exact ⟨_, zqR, by (with_reducible repeat (first | apply Kd.S_alloc | apply Kd.S_drewN | apply Kd.S_drew)); exact HO_3.out, zqA HB.out⟩
def pianolalaw04_plant.f (k : Nat) (l0_0 : List (List (S71))) (l0_1 : List (List (S71))) : Option ((List (List (S90))) × (List (List (S90)))) := (pianolalaw04_row.f k l0_0).bind fun t201 => ((pianolalaw04_row.f k l0_1).bind fun t204 => (some (t201, t204)))
def pianolalaw04_plant.T1 : Bool × List (List Nat × List Nat) := (true, [([], []), ([0], [0]), ([1], [1]), ([], []), ([3], [3]), ([4, 2], [4]), ([2, 5], [2, 5]), ([6, 5, 0, 1, 2, 3, 4, 5, 6], [6])])
def pianolalaw04_plant.B1 : List Nat := [0, 1, 3, 0, 8, 31, 63, 127]
theorem pianolalaw04_plant.tab1 : rtab .any (opsOf Try.f27 1) = pianolalaw04_plant.T1 := by kernel_rfl
theorem pianolalaw04_plant.bits1 : waitsOk pianolalaw04_plant.T1.2 pianolalaw04_plant.B1 = true := by kernel_rfl
set_option maxHeartbeats 8000000 in
set_option maxRecDepth 100000 in
theorem pianolalaw04_plant.calls (k : Nat) (A0_0 : Option Addr) (c0_0 : Nat) (l0_0 : List (List (S71))) (A0_1 : Option Addr) (c0_1 : Nat) (l0_1 : List (List (S71))) (r1 : List (List (S90))) (r2 : List (List (S90))) (w : World) (hr0_0 : Kd.C (Kd.slice 71 k71) w A0_0 l0_0.length l0_0) (hc0_0 : l0_0.length ≤ c0_0) (hr0_1 : Kd.C (Kd.slice 71 k71) w A0_1 l0_1.length l0_1) (hc0_1 : l0_1.length ≤ c0_1) (h : pianolalaw04_plant.f k l0_0 l0_1 = some (r1, r2)) :
  Calls Try.prog 27 #[.agg #[.slice A0_0 l0_0.length c0_0, .slice A0_1 l0_1.length c0_1]] w fun e w' => ∃ v0_ v1_ : Value, e = .returned (.agg #[v0_, v1_]) ∧ Kd.S (Kd.slice 90 k90) 24 w' w.heap.size (fun k_ => some k_ ≠ (v1_ : Value).ownBlock) v0_ r1 ∧ Kd.S (Kd.slice 90 k90) 24 w' w.heap.size (fun k_ => some k_ ≠ (v0_ : Value).ownBlock) v1_ r2 ∧ Below w.heap.size w w' := by
 have hu40 := Try.underlying40
 have hu44 := Try.underlying44
 have HR0_0 := zA hr0_0
 have HC0_0 := zA hc0_0
 clear hr0_0 hc0_0
 have HR0_1 := zA hr0_1
 have HC0_1 := zA hc0_1
 clear hr0_1 hc0_1
 have HB := zA (Below.refl w.heap.size w)
 have H : ((pianolalaw04_row.f k l0_0).bind fun t201 => ((pianolalaw04_row.f k l0_1).bind fun t204 => (some (t201, t204)))) = some (r1, r2) := h
 clear h
 replace H := Option.bind_eq_some_iff.mp H
 obtain ⟨t201, A20, H⟩ := H
 replace H : ((pianolalaw04_row.f k l0_1).bind fun t204 => (some (t201, t204))) = some (r1, r2) := H
 have A2 := zA A20
 clear A20
 replace H := Option.bind_eq_some_iff.mp H
 obtain ⟨t204, A30, H⟩ := H
 replace H : (some (t201, t204)) = some (r1, r2) := H
 have A3 := zA A30
 clear A30
 simp only [Option.some.injEq, Prod.mk.injEq] at H
 obtain ⟨rfl, rfl⟩ := H
 go_enter Try.func27, Try.ntmps27
 try go_wp2_with (first | ((with_reducible refine gate_dst (N := 1) rfl ?_); refine box_event ?hg (N := 1) ?hd (cs := #[.slice A0_0 l0_0.length c0_0, .slice A0_1 l0_1.length c0_1]) (t := 40) ?hr ?_; (case hd => rfl); (case hg => rfl); (case hr => first | (go_simp; done) | (go_simp; rfl)); intro gb199 hg w4 hbox hb; have n0_ := zA (below_step (zqA HB.out) hb); have n1_ := zA (hbox); have n2_ := zA ((by rw [hg]; exact (below_size (zqA HB.out)) : w.heap.size ≤ gb199)); have n3_ := zA ((by rw [hg]; exact (below_size (zqA HB.out)) : w.heap.size ≤ gb199)); clear HB; have HB := n0_; have BK199 := n1_; have GW199 := n2_; have GE199 := n3_; clear n0_ n1_ n2_ n3_; clear hb hbox hg) | ((with_reducible refine gate_dst (N := 2) rfl ?_); refine box_event ?hg (N := 2) ?hd (cs := #[.slice none 0 0, .slice none 0 0]) (t := 44) ?hr ?_; (case hd => rfl); (case hg => rfl); (case hr => first | (go_simp; done) | (go_simp; rfl)); intro gb200 hg w5 hbox hb; have n0_ := zA (blk_below (g := gb199) (o := .cells #[.slice A0_0 l0_0.length c0_0, .slice A0_1 l0_1.length c0_1] 40 (0, 0)) (zqB BK199.out) hb); have n1_ := zA (below_step (zqG HB.out GE199.out) hb); have n2_ := zA (hbox); have n3_ := zA ((by rw [hg]; exact (below_size (zqG HB.out GE199.out)) : w.heap.size ≤ gb200)); have n4_ := zA ((by rw [hg]; exact (below_size (zqG HB.out GE199.out)) : w.heap.size ≤ gb200)); have n5_ := zA ((by rw [hg]; exact Nat.ne_of_lt (blk_lt (g := gb199) (o := .cells #[.slice A0_0 l0_0.length c0_0, .slice A0_1 l0_1.length c0_1] 40 (0, 0)) (zqB BK199.out)) : gb199 ≠ gb200)); have n6_ := zA ((by rw [hg]; exact Nat.ne_of_gt (blk_lt (g := gb199) (o := .cells #[.slice A0_0 l0_0.length c0_0, .slice A0_1 l0_1.length c0_1] 40 (0, 0)) (zqB BK199.out)) : gb200 ≠ gb199)); clear BK199; clear HB; have BK199 := n0_; have HB := n1_; have BK200 := n2_; have GW200 := n3_; have GE200 := n4_; have NB199_200 := n5_; have NB200_199 := n6_; clear n0_ n1_ n2_ n3_ n4_ n5_ n6_; clear hb hbox hg))
 have n0_ := zA (blk_drew BK199.out); have n1_ := zA (blk_drew BK200.out); have n2_ := zA (below_drew1 HB.out); clear BK199 BK200 HB; have BK199 := n0_; have BK200 := n1_; have HB := n2_; clear n0_ n1_ n2_
 refine start_ (n := 8) (S := fun w' => w'.cell? ⟨gb199, 0, none⟩ = some (.slice A0_0 l0_0.length c0_0) ∧ w'.cell? ⟨gb199, 1, none⟩ = some (.slice A0_1 l0_1.length c0_1)) (ds := []) #[false, false, false, false, false, false, false, false] (by kernel_rfl) rfl rfl ⟨(blk_cell BK199.out 0).trans rfl, (blk_cell BK199.out 1).trans rfl⟩ (fun hHeld => ?_); refine with_tabW pianolalaw04_plant.tab1 pianolalaw04_plant.bits1 (fun HT_ HW_ => ?_)
 generalize w5.drew = w6 at BK199 BK200 HB hHeld ⊢
 refine pure_ (i := 0) (N := some 3) (v := ?_) (a' := ?_) #[true, false, false, false, false, false, false, false] rfl rfl (any_of HT_.out (by kernel_rfl)) (fun _ _ _ h => h) (Or.inl ⟨by rfl, ?_⟩) ?_ ?_
 rotate_left
 ·
  intro w'
  go_simp
  with_reducible rfl
 rotate_left
 · simp only [Act.put, List.setIfInBounds_toArray, List.set_cons_zero, List.set_cons_succ, i64_w, i32_w]; rfl
 refine pure_ (i := 3) (N := some 6) (v := ?_) (a' := ?_) #[true, false, false, true, false, false, false, false] rfl rfl (any_of HT_.out (by kernel_rfl)) (fun _ _ _ h => h) (Or.inl ⟨by rfl, ?_⟩) ?_ ?_
 rotate_left
 ·
  intro w'
  go_simp
  with_reducible rfl
 rotate_left
 · simp only [Act.put, List.setIfInBounds_toArray, List.set_cons_zero, List.set_cons_succ, i64_w, i32_w]; rfl
 refine take_ (i := 1) (N := some 4) (v := ?_) (a' := ?_) #[true, true, false, true, false, false, false, false] rfl rfl (take_ofW HT_.out HW_.out (by kernel_rfl)) (fun _ _ _ h => h) (Or.inl ⟨by rfl, ?_⟩) hHeld ?_ ?_
 rotate_left
 ·
  rintro w' ⟨s0, s1⟩
  go_simp
  with_reducible rfl
 rotate_left
 · simp only [Act.put, List.setIfInBounds_toArray, List.set_cons_zero, List.set_cons_succ, i64_w, i32_w]; rfl
 refine take_ (i := 4) (N := some 7) (v := ?_) (a' := ?_) #[true, true, false, true, true, false, false, false] rfl rfl (take_ofW HT_.out HW_.out (by kernel_rfl)) (fun _ _ _ h => h) (Or.inl ⟨by rfl, ?_⟩) hHeld ?_ ?_
 rotate_left
 ·
  rintro w' ⟨s0, s1⟩
  go_simp
  with_reducible rfl
 rotate_left
 · simp only [Act.put, List.setIfInBounds_toArray, List.set_cons_zero, List.set_cons_succ, i64_w, i32_w]; rfl
 refine one_ (i := 2) (N := some 5) #[true, true, true, true, true, false, false, false] rfl rfl (one_of HT_.out (by kernel_rfl)) (by decide) (fun K hK => ?_)
 refine goes_ Try.func62 (by kernel_rfl) rfl #[.slice A0_0 l0_0.length c0_0] (by rfl) rfl rfl zqE ?_
 with_reducible refine (pianolalaw04_row.calls k _ _ l0_0 t201 _ ?side1 ?side2 A2.out).mono ?_
 (case side1 => exact zqK (Kd.C_below HR0_0.out HB.out))
 (case side2 => exact HC0_0.out)
 rintro e w7 ⟨v202, rfl, ho0, hb⟩
 refine ⟨_, rfl, ?_⟩
 have n0_ := zA (Kd.S_lower ho0 (below_size (zqH HB.out GE199.out GE200.out))); have n1_ := zA (blk_below (g := gb199) (zqB BK199.out) hb); have n2_ := zA (blk_below (g := gb200) (zqB BK200.out) hb); have n3_ := zA (below_step (zqH HB.out GE199.out GE200.out) hb); clear BK199 BK200 HB; have HO203 := n0_; have BK199 := n1_; have BK200 := n2_; have HB := n3_; clear n0_ n1_ n2_ n3_
 (try clear hb); (try clear hb2); (try clear hk); (try clear hi); (try clear ho0)
 refine hK.out _ _ ⟨(blk_cell BK199.out 0).trans rfl, (blk_cell BK199.out 1).trans rfl⟩ (fun hHeld => ?_)
 clear hK K; refine norm_ (a' := ?_) ?_ ?_; rotate_left
 · show Act.put _ (some 5) _ = _; simp only [Act.put, List.setIfInBounds_toArray, List.set_cons_zero, List.set_cons_succ, i64_w, i32_w]; rfl
 refine one_ (i := 5) (N := some 8) #[true, true, true, true, true, true, false, false] rfl rfl (one_of HT_.out (by kernel_rfl)) (by decide) (fun K hK => ?_)
 refine goes_ Try.func62 (by kernel_rfl) rfl #[.slice A0_1 l0_1.length c0_1] (by rfl) rfl rfl zqE ?_
 with_reducible refine (pianolalaw04_row.calls k _ _ l0_1 t204 _ ?side1 ?side2 A3.out).mono ?_
 (case side1 => exact zqK (Kd.C_below HR0_1.out HB.out))
 (case side2 => exact HC0_1.out)
 rintro e w8 ⟨v205, rfl, ho0, hb⟩
 refine ⟨_, rfl, ?_⟩
 have n0_ := zA (Kd.S_elder' (by (with_reducible repeat (first | apply Kd.S_alloc | apply Kd.S_drewN | apply Kd.S_drew)); exact HO203.out) (Kd.S_base ho0) hb)
 have n1_ := zA (Kd.S_lower (Kd.S_new' ho0 (Kd.S_lt (by (with_reducible repeat (first | apply Kd.S_alloc | apply Kd.S_drewN | apply Kd.S_drew)); exact HO203.out))) (below_size (zqH HB.out GE199.out GE200.out)))
 have n2_ := zA (blk_below (g := gb199) (zqB BK199.out) hb); have n3_ := zA (blk_below (g := gb200) (zqB BK200.out) hb); have n4_ := zA (below_step (zqH HB.out GE199.out GE200.out) hb); clear HO203 BK199 BK200 HB; have HO203 := n0_; have HO206 := n1_; have BK199 := n2_; have BK200 := n3_; have HB := n4_; clear n0_ n1_ n2_ n3_ n4_
 (try clear hb); (try clear hb2); (try clear hk); (try clear hi); (try clear ho0)
 obtain ⟨Ao9, co9, eo9⟩ := Kd.S_slice HO206.out
 (first | subst eo9 | (injection eo9 with f1_ f2_ f3_; have f4_ := f1_.symm; have f5_ := f3_.symm; clear f1_ f2_ f3_; subst f4_; subst f5_))
 obtain ⟨Ao10, co10, eo10⟩ := Kd.S_slice HO203.out
 (first | subst eo10 | (injection eo10 with f1_ f2_ f3_; have f4_ := f1_.symm; have f5_ := f3_.symm; clear f1_ f2_ f3_; subst f4_; subst f5_))
 refine hK.out _ _ ⟨(blk_cell BK199.out 0).trans rfl, (blk_cell BK199.out 1).trans rfl⟩ (fun hHeld => ?_)
 clear hK K; refine norm_ (a' := ?_) ?_ ?_; rotate_left
 · show Act.put _ (some 8) _ = _; simp only [Act.put, List.setIfInBounds_toArray, List.set_cons_zero, List.set_cons_succ, i64_w, i32_w]; rfl
 refine pure_ (i := 6) (N := some 9) (v := ?_) (a' := ?_) #[true, true, true, true, true, true, true, false] rfl rfl (any_of HT_.out (by kernel_rfl)) (fun _ _ _ h => h) (Or.inl ⟨by rfl, ?_⟩) ?_ ?_
 rotate_left
 ·
  intro w'
  go_simp
  with_reducible rfl
 rotate_left
 · simp only [Act.put, List.setIfInBounds_toArray, List.set_cons_zero, List.set_cons_succ, i64_w, i32_w]; rfl
 refine one_ (i := 7) (N := none) #[true, true, true, true, true, true, true, true] rfl rfl (one_of HT_.out (by kernel_rfl)) (by decide) (fun K hK => ?_)
 have hs11 : w8.cell? ⟨gb200, 0, none⟩ = some (.slice none 0 0) := (blk_cell BK200.out 0).trans rfl
 have hfs11 := blk_frozen BK200.out 0
 have hns11_0 := NB199_200.out
 have hms11_0 := NB200_199.out
 have hs12 : w8.cell? ⟨gb200, 1, none⟩ = some (.slice none 0 0) := (blk_cell BK200.out 1).trans rfl
 have hfs12 := blk_frozen BK200.out 1
 have hns12_0 := NB199_200.out
 have hms12_0 := NB200_199.out
 refine skip_ (w1 := ?_) (by rfl) rfl ?_ ?_
 rotate_left
 ·
  go_simp
  rfl
 refine hK.out _ _ ⟨((cell_far (p := ⟨gb200, _, none⟩) NB199_200.out _).trans (((cell_far (p := ⟨gb200, _, none⟩) NB199_200.out _).trans (hHeld.1)))), ((cell_far (p := ⟨gb200, _, none⟩) NB199_200.out _).trans (((cell_far (p := ⟨gb200, _, none⟩) NB199_200.out _).trans (hHeld.2))))⟩ (fun hHeld => ?_)
 clear hK K
 refine done_ (done_of HT_.out (by kernel_rfl)) ?_
 try go_wp2
 refine bodyPost_ret (results_cell_row rfl _ _ gb200 44 #[.slice Ao10 t201.length co10, .slice Ao9 t204.length co9] (0, 0) _ rfl (by (with_reducible repeat (first | refine blk_drewN ?_ _ | refine blk_drew ?_ | refine blk_alloc ?_ _)); refine blk_put (cs := #[.slice Ao10 t201.length co10, .slice none 0 0]) ?_ 1 _ rfl; (with_reducible repeat (first | refine blk_drewN ?_ _ | refine blk_drew ?_ | refine blk_alloc ?_ _)); refine blk_put (cs := #[.slice none 0 0, .slice none 0 0]) ?_ 0 _ rfl; (with_reducible repeat (first | refine blk_drewN ?_ _ | refine blk_drew ?_ | refine blk_alloc ?_ _)); exact BK200.out) Try.underlying44 rfl (by kernel_rfl)) rfl ?_
 exact ⟨_, _, zqR, by (with_reducible repeat (first | apply Kd.S_alloc | apply Kd.S_drewN | apply Kd.S_drew)); exact Kd.S_mono (Kd.S_far (p := ⟨gb200, 1, none⟩) (Kd.S_far (p := ⟨gb200, 0, none⟩) (Kd.S_types HO203.out BK200.out (by decide)) (fun _ hk => hk.2) (.slice Ao10 t201.length co10)) (fun _ hk => hk.2) (.slice Ao9 t204.length co9)) (fun _ hk => hk.1.2), by (with_reducible repeat (first | apply Kd.S_alloc | apply Kd.S_drewN | apply Kd.S_drew)); exact Kd.S_mono (Kd.S_far (p := ⟨gb200, 1, none⟩) (Kd.S_far (p := ⟨gb200, 0, none⟩) (Kd.S_types HO206.out BK200.out (by decide)) (fun _ hk => hk.2) (.slice Ao10 t201.length co10)) (fun _ hk => hk.2) (.slice Ao9 t204.length co9)) (fun _ hk => hk.1.2), zqH HB.out GE199.out GE200.out⟩
mutual
def pianolaref04_Check.j0 : Nat → Bool → List (List (S90)) → List (List (S90)) → Option (Int)
  | 0, _, _, _ => none
  | k + 1, x16, x217000, x217001 => if x16 = true then (some 4) else (if (x217000.length : Int) > 3 then (pianolaref04_Check.j1 k true x217000 x217001) else (pianolaref04_Check.j1 k (decide ((x217001.length : Int) > 3)) x217000 x217001))
def pianolaref04_Check.j1 : Nat → Bool → List (List (S90)) → List (List (S90)) → Option (Int)
  | 0, _, _, _ => none
  | k + 1, x26, x217000, x217001 => if x26 = true then (some 5) else (pianolaref04_Check.l0 k 0 x217000 x217001)
def pianolaref04_Check.l0 : Nat → Int → List (List (S90)) → List (List (S90)) → Option (Int)
  | 0, _, _, _ => none
  | k + 1, x3, x217000, x217001 => if x3 < (x217000.length : Int) then (if 0 ≤ x3 then ((pianolaref04_CheckBounds.f k (rd_L5 x217000 x3)).bind fun t218 => (if t218 = 0 then (pianolaref04_Check.l0 k (wrap64 (x3 + 1)) x217000 x217001) else (some t218))) else (none)) else (pianolaref04_Check.l1 k 0 x217000 x217001)
def pianolaref04_Check.l1 : Nat → Int → List (List (S90)) → List (List (S90)) → Option (Int)
  | 0, _, _, _ => none
  | k + 1, x5, x217000, x217001 => if x5 < (x217001.length : Int) then (if 0 ≤ x5 then ((pianolaref04_CheckBounds.f k (rd_L5 x217001 x5)).bind fun t220 => (if t220 = 0 then (pianolaref04_Check.l1 k (wrap64 (x5 + 1)) x217000 x217001) else (some t220))) else (none)) else (some 0)
end
def pianolaref04_Check.f (k : Nat) (l0_0 : List (List (S90))) (l0_1 : List (List (S90))) : Option (Int) := if (l0_0.length : Int) = 0 then (pianolaref04_Check.j0 k true l0_0 l0_1) else (pianolaref04_Check.j0 k ((l0_1.length : Int) == 0) l0_0 l0_1)
set_option maxHeartbeats 8000000 in
set_option maxRecDepth 100000 in
theorem pianolaref04_Check.calls (k : Nat) (A0_0 : Option Addr) (c0_0 : Nat) (l0_0 : List (List (S90))) (A0_1 : Option Addr) (c0_1 : Nat) (l0_1 : List (List (S90))) (r : Int) (w : World) (hr0_0 : Kd.C (Kd.slice 90 k90) w A0_0 l0_0.length l0_0) (hc0_0 : l0_0.length ≤ c0_0) (hr0_1 : Kd.C (Kd.slice 90 k90) w A0_1 l0_1.length l0_1) (hc0_1 : l0_1.length ≤ c0_1) (h : pianolaref04_Check.f k l0_0 l0_1 = some r) :
  Calls Try.prog 35 #[.agg #[.slice A0_0 l0_0.length c0_0, .slice A0_1 l0_1.length c0_1]] w fun e w' => e = .returned (.int .i64 r) ∧ Below w.heap.size w w' := by
 have hu44 := Try.underlying44
 have HR0_0 := zA hr0_0
 have HC0_0 := zA hc0_0
 clear hr0_0 hc0_0
 have HR0_1 := zA hr0_1
 have HC0_1 := zA hc0_1
 clear hr0_1 hc0_1
 have HB := zA (Below.refl w.heap.size w)
 have H : (if (l0_0.length : Int) = 0 then (pianolaref04_Check.j0 k true l0_0 l0_1) else (pianolaref04_Check.j0 k ((l0_1.length : Int) == 0) l0_0 l0_1)) = some r := h
 clear h
 have HC2 := zA H
 clear H
 go_enter Try.func35, Try.ntmps35
 go_upto_region 1 with (first | ((with_reducible refine gate_dst (N := 1) rfl ?_); (try (refine gate_guard (by rfl) ?_; dsimp only)); refine box_event ?hg (N := 1) ?hd (cs := #[.slice A0_0 l0_0.length c0_0, .slice A0_1 l0_1.length c0_1]) (t := 44) ?hr ?_; (case hd => rfl); (case hg => rfl); (case hr => first | (go_simp; done) | (go_simp; rfl)); intro gb216 hg w3 hbox hb; have n0_ := zA (below_step (zqA HB.out) hb); have n1_ := zA (hbox); have n2_ := zA ((by rw [hg]; exact (below_size (zqA HB.out)) : w.heap.size ≤ gb216)); have n3_ := zA ((by rw [hg]; exact (below_size (zqA HB.out)) : w.heap.size ≤ gb216)); clear HB; have HB := n0_; have BK216 := n1_; have GW216 := n2_; have GE216 := n3_; clear n0_ n1_ n2_ n3_; clear hb hbox hg))
 (try simp only [Act.put, List.setIfInBounds_toArray, List.set_cons_zero, List.set_cons_succ])
 go_cut [16] (fun v16 wc => ∃ (kq : Nat) (x16_1 : Bool), v16 = .bool x16_1 ∧ Aside0 (pianolaref04_Check.j0 kq x16_1 l0_0 l0_1 = some r) ∧ Aside0 (kq ≤ k) ∧ Aside0 (wc.heap[gb216]? = some (.cells #[(.slice A0_0 l0_0.length c0_0), (.slice A0_1 l0_1.length c0_1)] 44 (0, 0))) ∧ Aside0 (Below w.heap.size w wc))
 case first =>
  have H := HC2.out
  clear HC2
  by_cases c4 : (l0_0.length : Int) = 0
  ·
   rw [if_pos c4] at H
   have c4b0 : ((l0_0.length : Int) == 0) = true := beq_iff_eq.mpr c4
   have c4b1 : ((l0_0.length : Int) != 0) = false := bne_eq_false_iff_eq.mpr c4
   clear c4
   (first | rw [c4b0] | rw [c4b1] | (simp only [i64_w, i32_w]; rw [c4b0]) | skip)
   have H' := zA H
   clear H
   have hcz5_0 : w3.cell? ⟨gb216, 0, none⟩ = some (.slice A0_0 l0_0.length c0_0) := (blk_cell BK216.out 0).trans rfl
   have hcz5_1 : w3.cell? ⟨gb216, 1, none⟩ = some (.slice A0_1 l0_1.length c0_1) := (blk_cell BK216.out 1).trans rfl
   have hfz5_0 := blk_frozen BK216.out 0
   have hfz5_1 := blk_frozen BK216.out 1
   go_wp2
   go_meet
   case rel => exact ⟨_, (true), zqQ, H', ⟨by first | omega | exact Nat.le_refl _⟩, ⟨zqB BK216.out⟩, ⟨zqG HB.out GE216.out⟩⟩
  ·
   rw [if_neg c4] at H
   have c4b0 : ((l0_0.length : Int) == 0) = false := beq_eq_false_iff_ne.mpr c4
   have c4b1 : ((l0_0.length : Int) != 0) = true := bne_iff_ne.mpr c4
   have c4b2 : ¬ (l0_0 = []) := fun h_ => c4 (by rw [h_]; rfl)
   (first | rw [c4b0] | rw [c4b1] | (simp only [i64_w, i32_w]; rw [c4b0]) | skip)
   have H' := zA H
   clear H
   have hcz6_0 : w3.cell? ⟨gb216, 0, none⟩ = some (.slice A0_0 l0_0.length c0_0) := (blk_cell BK216.out 0).trans rfl
   have hcz6_1 : w3.cell? ⟨gb216, 1, none⟩ = some (.slice A0_1 l0_1.length c0_1) := (blk_cell BK216.out 1).trans rfl
   have hfz6_0 := blk_frozen BK216.out 0
   have hfz6_1 := blk_frozen BK216.out 1
   go_wp2
   go_meet
   case rel => exact ⟨_, (((l0_1.length : Int) == 0)), zqQ, H', ⟨by first | omega | exact Nat.le_refl _⟩, ⟨zqB BK216.out⟩, ⟨zqG HB.out GE216.out⟩⟩
 case rest =>
  clear HC2
  try clear p2
  try clear c3
  try clear c4
  try clear c4b0
  try clear c4b1
  try clear c4b2
  try clear hcz5_0
  try clear hcz5_1
  try clear hcz6_0
  try clear hcz6_1
  try clear hfz5_0
  try clear hfz5_1
  try clear hfz6_0
  try clear hfz6_1
  obtain ⟨kq, x16_1, rfl, HA, HJ1, BK216, HB⟩ := hcut
  cases kq with
  | zero => exact absurd HA.out (by simp [pianolaref04_Check.j0])
  | succ kj1 =>
   have H := HA.out
   clear HA
   simp only [pianolaref04_Check.j0] at H
   by_cases c7 : x16_1 = true
   ·
    subst c7
    have H1 : (some 4) = some r := by rw [if_pos rfl] at H; exact H
    clear H; have H := H1; clear H1
    obtain rfl := Option.some.inj H
    go_wp2
    go_ret
    exact ⟨zqR, zqG HB.out GE216.out⟩
   ·
    replace c7 := Bool.eq_false_iff.mpr c7
    subst c7
    have H1 : (if (l0_0.length : Int) > 3 then (pianolaref04_Check.j1 kj1 true l0_0 l0_1) else (pianolaref04_Check.j1 kj1 (decide ((l0_1.length : Int) > 3)) l0_0 l0_1)) = some r := by rw [if_neg (show ¬ (false = true) by decide)] at H; exact H
    clear H; have H := H1; clear H1
    have HC8 := zA H
    clear H
    go_upto_region 3 with (fail)
    go_cut [26] (fun v26 wc => ∃ (kq : Nat) (x26_7 : Bool), v26 = .bool x26_7 ∧ Aside0 (pianolaref04_Check.j1 kq x26_7 l0_0 l0_1 = some r) ∧ Aside0 (kq ≤ kj1) ∧ Aside0 (wc.heap[gb216]? = some (.cells #[(.slice A0_0 l0_0.length c0_0), (.slice A0_1 l0_1.length c0_1)] 44 (0, 0))) ∧ Aside0 (Below w.heap.size w wc))
    case first =>
     have H := HC8.out
     clear HC8
     by_cases c9 : (l0_0.length : Int) > 3
     ·
      rw [if_pos c9] at H
      have c9b0 : decide (3 < (l0_0.length : Int)) = true := decide_eq_true c9
      have c9b1 : decide (3 < l0_0.length) = true := decide_eq_true (by omega)
      clear c9
      (first | rw [c9b0] | rw [c9b1] | (simp only [i64_w, i32_w]; rw [c9b0]) | skip)
      have H' := zA H
      clear H
      have hcz10_0 : wc.cell? ⟨gb216, 0, none⟩ = some (.slice A0_0 l0_0.length c0_0) := (blk_cell BK216.out 0).trans rfl
      have hcz10_1 : wc.cell? ⟨gb216, 1, none⟩ = some (.slice A0_1 l0_1.length c0_1) := (blk_cell BK216.out 1).trans rfl
      have hfz10_0 := blk_frozen BK216.out 0
      have hfz10_1 := blk_frozen BK216.out 1
      go_wp2
      go_meet
      case rel => exact ⟨_, (true), zqQ, H', ⟨by have := HJ1.out; first | omega | exact Nat.le_refl _⟩, ⟨zqB BK216.out⟩, ⟨zqG HB.out GE216.out⟩⟩
     ·
      rw [if_neg c9] at H
      have c9b0 : decide (3 < (l0_0.length : Int)) = false := decide_eq_false c9
      have c9b1 : decide (3 < l0_0.length) = false := decide_eq_false (by omega)
      clear c9
      (first | rw [c9b0] | rw [c9b1] | (simp only [i64_w, i32_w]; rw [c9b0]) | skip)
      have H' := zA H
      clear H
      have hcz11_0 : wc.cell? ⟨gb216, 0, none⟩ = some (.slice A0_0 l0_0.length c0_0) := (blk_cell BK216.out 0).trans rfl
      have hcz11_1 : wc.cell? ⟨gb216, 1, none⟩ = some (.slice A0_1 l0_1.length c0_1) := (blk_cell BK216.out 1).trans rfl
      have hfz11_0 := blk_frozen BK216.out 0
      have hfz11_1 := blk_frozen BK216.out 1
      go_wp2
      go_meet
      case rel => exact ⟨_, (decide ((l0_1.length : Int) > 3)), zqQ, H', ⟨by have := HJ1.out; first | omega | exact Nat.le_refl _⟩, ⟨zqB BK216.out⟩, ⟨zqG HB.out GE216.out⟩⟩
    case rest =>
     clear HC8
     try clear p2
     try clear c3
     try clear c4
     try clear c4b0
     try clear c4b1
     try clear c4b2
     try clear c7
     try clear c9
     try clear c9b0
     try clear c9b1
     try clear hcz10_0
     try clear hcz10_1
     try clear hcz11_0
     try clear hcz11_1
     try clear hcz5_0
     try clear hcz5_1
     try clear hcz6_0
     try clear hcz6_1
     try clear hfz10_0
     try clear hfz10_1
     try clear hfz11_0
     try clear hfz11_1
     try clear hfz5_0
     try clear hfz5_1
     try clear hfz6_0
     try clear hfz6_1
     try clear p2
     obtain ⟨kq, x26_7, rfl, HA, HJ7, BK216, HB⟩ := hcut
     cases kq with
     | zero => exact absurd HA.out (by simp [pianolaref04_Check.j1])
     | succ kj7 =>
      have H := HA.out
      clear HA
      simp only [pianolaref04_Check.j1] at H
      by_cases c12 : x26_7 = true
      ·
       subst c12
       have H1 : (some 5) = some r := by rw [if_pos rfl] at H; exact H
       clear H; have H := H1; clear H1
       obtain rfl := Option.some.inj H
       go_wp2
       go_ret
       exact ⟨zqR, zqG HB.out GE216.out⟩
      ·
       replace c12 := Bool.eq_false_iff.mpr c12
       subst c12
       have H1 : (pianolaref04_Check.l0 kj7 0 l0_0 l0_1) = some r := by rw [if_neg (show ¬ (false = true) by decide)] at H; exact H
       clear H; have H := H1; clear H1
       have H' := zA H
       clear H
       go_wp2
       go_loopg [3] kj7 (fun kq v3 w' => ∃ (x3_3 : Int), v3 = .int .i64 x3_3 ∧ Aside0 (pianolaref04_Check.l0 kq x3_3 l0_0 l0_1 = some r) ∧ Aside0 (kq ≤ kj7) ∧ Aside0 (w'.heap[gb216]? = some (.cells #[(.slice A0_0 l0_0.length c0_0), (.slice A0_1 l0_1.length c0_1)] 44 (0, 0))) ∧ Aside0 (Below w.heap.size w w'))
       case atStart => exact ⟨(0), zqQ, H', ⟨Nat.le_refl _⟩, ⟨zqB BK216.out⟩, ⟨zqG HB.out GE216.out⟩⟩
       case round =>
        clear H'
        try clear c1
        try clear p2
        try clear c3
        try clear c4
        try clear c4b0
        try clear c4b1
        try clear c4b2
        try clear c7
        try clear c9
        try clear c9b0
        try clear c9b1
        try clear c12
        try clear hcz10_0
        try clear hcz10_1
        try clear hcz11_0
        try clear hcz11_1
        try clear hcz5_0
        try clear hcz5_1
        try clear hcz6_0
        try clear hcz6_1
        try clear hfz10_0
        try clear hfz10_1
        try clear hfz11_0
        try clear hfz11_1
        try clear hfz5_0
        try clear hfz5_1
        try clear hfz6_0
        try clear hfz6_1
        try clear p2
        obtain ⟨x3_3, rfl, HA, HK3, BK216, HB⟩ := hrel
        cases gk with
        | zero => exact absurd HA.out (by simp [pianolaref04_Check.l0])
        | succ k3 =>
         have H := HA.out
         clear HA
         simp only [pianolaref04_Check.l0] at H
         by_cases c13 : x3_3 < (l0_0.length : Int)
         ·
          rw [if_pos c13] at H
          have c13b0 : decide (x3_3 < (l0_0.length : Int)) = true := decide_eq_true c13
          clear c13
          by_cases c14 : 0 ≤ x3_3
          ·
           rw [if_pos c14] at H
           have c14b0 : decide (0 ≤ x3_3) = true := decide_eq_true c14
           clear c14
           replace H := Option.bind_eq_some_iff.mp H
           obtain ⟨t218, A150, H⟩ := H
           replace H : (if t218 = 0 then (pianolaref04_Check.l0 k3 (wrap64 (x3_3 + 1)) l0_0 l0_1) else (some t218)) = some r := H
           have A15 := zA A150
           clear A150
           by_cases c16 : t218 = 0
           ·
            rw [if_pos c16] at H
            have c16b0 : (t218 == 0) = true := beq_iff_eq.mpr c16
            have c16b1 : (t218 != 0) = false := bne_eq_false_iff_eq.mpr c16
            clear c16
            have H' := zA H
            clear H
            have hcz17_0 : wr.cell? ⟨gb216, 0, none⟩ = some (.slice A0_0 l0_0.length c0_0) := (blk_cell BK216.out 0).trans rfl
            have hcz17_1 : wr.cell? ⟨gb216, 1, none⟩ = some (.slice A0_1 l0_1.length c0_1) := (blk_cell BK216.out 1).trans rfl
            have hfz17_0 := blk_frozen BK216.out 0
            have hfz17_1 := blk_frozen BK216.out 1
            have p217 : 0 ≤ (x3_3 : Int) := of_decide_eq_true (zqD)
            have q217 : x3_3 < (l0_0.length : Int) := of_decide_eq_true (zqD)
            obtain ⟨ad217, A217_0, c217_0, e217, hx217_0, hl217_0, hi217_0⟩ := at_L5 HR0_0.out x3_3 p217 q217
            cases e217
            replace hx217_0 := (HB.out.cell (World.block_lt_of_cell? w _ hx217_0)).trans hx217_0
            have HR217_0 := zA hi217_0
            have HC217_0 := zA hl217_0
            clear hi217_0 hl217_0; replace p217 := eq_true p217; replace q217 := eq_true q217
            go_wp2_with (first | ((with_reducible refine gate_callee (f := 24) rfl ?_); refine goesL_ (some 39) rfl rfl Try.func24 (by kernel_rfl) rfl #[.slice A217_0 (rd_L5 l0_0 x3_3).length c217_0] rfl zqE ?_; (with_reducible refine (pianolaref04_CheckBounds.calls k3 _ _ (rd_L5 l0_0 x3_3) t218 _ ?side1 ?side2 A15.out).mono ?_); (case side1 => exact zqK (Kd.C_below HR217_0.out HB.out)); (case side2 => exact HC217_0.out); rintro e w' ⟨rfl, ⟨nd, rfl⟩⟩; refine ⟨_, rfl, ?_⟩))
            go_roundg k3
            case measure => have := HJ1.out; have := HJ7.out; have := HK3.out; omega
            case rel => exact ⟨(wrap64 (x3_3 + 1)), zqQ, H', ⟨by have := HJ1.out; have := HJ7.out; have := HK3.out; omega⟩, ⟨zqB BK216.out⟩, ⟨zqG HB.out GE216.out⟩⟩
           ·
            rw [if_neg c16] at H
            have c16b0 : (t218 == 0) = false := beq_eq_false_iff_ne.mpr c16
            have c16b1 : (t218 != 0) = true := bne_iff_ne.mpr c16
            obtain rfl := Option.some.inj H
            have hcz18_0 : wr.cell? ⟨gb216, 0, none⟩ = some (.slice A0_0 l0_0.length c0_0) := (blk_cell BK216.out 0).trans rfl
            have hcz18_1 : wr.cell? ⟨gb216, 1, none⟩ = some (.slice A0_1 l0_1.length c0_1) := (blk_cell BK216.out 1).trans rfl
            have hfz18_0 := blk_frozen BK216.out 0
            have hfz18_1 := blk_frozen BK216.out 1
            have p217 : 0 ≤ (x3_3 : Int) := of_decide_eq_true (zqD)
            have q217 : x3_3 < (l0_0.length : Int) := of_decide_eq_true (zqD)
            obtain ⟨ad217, A217_0, c217_0, e217, hx217_0, hl217_0, hi217_0⟩ := at_L5 HR0_0.out x3_3 p217 q217
            cases e217
            replace hx217_0 := (HB.out.cell (World.block_lt_of_cell? w _ hx217_0)).trans hx217_0
            have HR217_0 := zA hi217_0
            have HC217_0 := zA hl217_0
            clear hi217_0 hl217_0; replace p217 := eq_true p217; replace q217 := eq_true q217
            go_wp2_with (first | ((with_reducible refine gate_callee (f := 24) rfl ?_); refine goesL_ (some 39) rfl rfl Try.func24 (by kernel_rfl) rfl #[.slice A217_0 (rd_L5 l0_0 x3_3).length c217_0] rfl zqE ?_; (with_reducible refine (pianolaref04_CheckBounds.calls k3 _ _ (rd_L5 l0_0 x3_3) t218 _ ?side1 ?side2 A15.out).mono ?_); (case side1 => exact zqK (Kd.C_below HR217_0.out HB.out)); (case side2 => exact HC217_0.out); rintro e w' ⟨rfl, ⟨nd, rfl⟩⟩; refine ⟨_, rfl, ?_⟩))
            go_ret
            exact ⟨zqR, zqG HB.out GE216.out⟩
          ·
           rw [if_neg c14] at H
           exact absurd H (by simp)
         ·
          rw [if_neg c13] at H
          have c13b0 : decide (x3_3 < (l0_0.length : Int)) = false := decide_eq_false c13
          clear c13
          have H' := zA H
          clear H
          have hcz19_0 : wr.cell? ⟨gb216, 0, none⟩ = some (.slice A0_0 l0_0.length c0_0) := (blk_cell BK216.out 0).trans rfl
          have hcz19_1 : wr.cell? ⟨gb216, 1, none⟩ = some (.slice A0_1 l0_1.length c0_1) := (blk_cell BK216.out 1).trans rfl
          have hfz19_0 := blk_frozen BK216.out 0
          have hfz19_1 := blk_frozen BK216.out 1
          go_wp2
          go_loopg [5] k3 (fun kq v5 w' => ∃ (x5_4 : Int), v5 = .int .i64 x5_4 ∧ Aside0 (pianolaref04_Check.l1 kq x5_4 l0_0 l0_1 = some r) ∧ Aside0 (kq ≤ k3) ∧ Aside0 (w'.heap[gb216]? = some (.cells #[(.slice A0_0 l0_0.length c0_0), (.slice A0_1 l0_1.length c0_1)] 44 (0, 0))) ∧ Aside0 (Below w.heap.size w w'))
          case atStart => exact ⟨(0), zqQ, H', ⟨Nat.le_refl _⟩, ⟨zqB BK216.out⟩, ⟨zqG HB.out GE216.out⟩⟩
          case round =>
           clear H'
           try clear c1
           try clear c2
           try clear p2
           try clear q2
           try clear hx2
           try clear c3
           try clear c4
           try clear c4b0
           try clear c4b1
           try clear c4b2
           try clear p6
           try clear c7
           try clear c9
           try clear c9b0
           try clear c9b1
           try clear c12
           try clear c13
           try clear c13b0
           try clear c14
           try clear c14b0
           try clear c16
           try clear c16b0
           try clear c16b1
           try clear hcz10_0
           try clear hcz10_1
           try clear hcz11_0
           try clear hcz11_1
           try clear hcz17_0
           try clear hcz17_1
           try clear hcz18_0
           try clear hcz18_1
           try clear hcz19_0
           try clear hcz19_1
           try clear hcz5_0
           try clear hcz5_1
           try clear hcz6_0
           try clear hcz6_1
           try clear hfz10_0
           try clear hfz10_1
           try clear hfz11_0
           try clear hfz11_1
           try clear hfz17_0
           try clear hfz17_1
           try clear hfz18_0
           try clear hfz18_1
           try clear hfz19_0
           try clear hfz19_1
           try clear hfz5_0
           try clear hfz5_1
           try clear hfz6_0
           try clear hfz6_1
           try clear hx217_0
           try clear p2
           try clear p217
           try clear q217
           obtain ⟨x5_4, rfl, HA, HK4, BK216, HB⟩ := hrel
           cases gk with
           | zero => exact absurd HA.out (by simp [pianolaref04_Check.l1])
           | succ k4 =>
            have H := HA.out
            clear HA
            simp only [pianolaref04_Check.l1] at H
            by_cases c20 : x5_4 < (l0_1.length : Int)
            ·
             rw [if_pos c20] at H
             have c20b0 : decide (x5_4 < (l0_1.length : Int)) = true := decide_eq_true c20
             clear c20
             by_cases c21 : 0 ≤ x5_4
             ·
              rw [if_pos c21] at H
              have c21b0 : decide (0 ≤ x5_4) = true := decide_eq_true c21
              clear c21
              replace H := Option.bind_eq_some_iff.mp H
              obtain ⟨t220, A220, H⟩ := H
              replace H : (if t220 = 0 then (pianolaref04_Check.l1 k4 (wrap64 (x5_4 + 1)) l0_0 l0_1) else (some t220)) = some r := H
              have A22 := zA A220
              clear A220
              by_cases c23 : t220 = 0
              ·
               rw [if_pos c23] at H
               have c23b0 : (t220 == 0) = true := beq_iff_eq.mpr c23
               have c23b1 : (t220 != 0) = false := bne_eq_false_iff_eq.mpr c23
               clear c23
               have H' := zA H
               clear H
               have hcz24_0 : wr.cell? ⟨gb216, 0, none⟩ = some (.slice A0_0 l0_0.length c0_0) := (blk_cell BK216.out 0).trans rfl
               have hcz24_1 : wr.cell? ⟨gb216, 1, none⟩ = some (.slice A0_1 l0_1.length c0_1) := (blk_cell BK216.out 1).trans rfl
               have hfz24_0 := blk_frozen BK216.out 0
               have hfz24_1 := blk_frozen BK216.out 1
               have p219 : 0 ≤ (x5_4 : Int) := of_decide_eq_true (zqD)
               have q219 : x5_4 < (l0_1.length : Int) := of_decide_eq_true (zqD)
               obtain ⟨ad219, A219_0, c219_0, e219, hx219_0, hl219_0, hi219_0⟩ := at_L5 HR0_1.out x5_4 p219 q219
               cases e219
               replace hx219_0 := (HB.out.cell (World.block_lt_of_cell? w _ hx219_0)).trans hx219_0
               have HR219_0 := zA hi219_0
               have HC219_0 := zA hl219_0
               clear hi219_0 hl219_0; replace p219 := eq_true p219; replace q219 := eq_true q219
               go_wp2_with (first | ((with_reducible refine gate_callee (f := 24) rfl ?_); refine goesL_ (some 55) rfl rfl Try.func24 (by kernel_rfl) rfl #[.slice A219_0 (rd_L5 l0_1 x5_4).length c219_0] rfl zqE ?_; (with_reducible refine (pianolaref04_CheckBounds.calls k4 _ _ (rd_L5 l0_1 x5_4) t220 _ ?side1 ?side2 A22.out).mono ?_); (case side1 => exact zqK (Kd.C_below HR219_0.out HB.out)); (case side2 => exact HC219_0.out); rintro e w' ⟨rfl, ⟨nd, rfl⟩⟩; refine ⟨_, rfl, ?_⟩))
               go_roundg k4
               case measure => have := HJ1.out; have := HJ7.out; have := HK3.out; have := HK4.out; omega
               case rel => exact ⟨(wrap64 (x5_4 + 1)), zqQ, H', ⟨by have := HJ1.out; have := HJ7.out; have := HK3.out; have := HK4.out; omega⟩, ⟨zqB BK216.out⟩, ⟨zqG HB.out GE216.out⟩⟩
              ·
               rw [if_neg c23] at H
               have c23b0 : (t220 == 0) = false := beq_eq_false_iff_ne.mpr c23
               have c23b1 : (t220 != 0) = true := bne_iff_ne.mpr c23
               obtain rfl := Option.some.inj H
               have hcz25_0 : wr.cell? ⟨gb216, 0, none⟩ = some (.slice A0_0 l0_0.length c0_0) := (blk_cell BK216.out 0).trans rfl
               have hcz25_1 : wr.cell? ⟨gb216, 1, none⟩ = some (.slice A0_1 l0_1.length c0_1) := (blk_cell BK216.out 1).trans rfl
               have hfz25_0 := blk_frozen BK216.out 0
               have hfz25_1 := blk_frozen BK216.out 1
               have p219 : 0 ≤ (x5_4 : Int) := of_decide_eq_true (zqD)
               have q219 : x5_4 < (l0_1.length : Int) := of_decide_eq_true (zqD)
               obtain ⟨ad219, A219_0, c219_0, e219, hx219_0, hl219_0, hi219_0⟩ := at_L5 HR0_1.out x5_4 p219 q219
               cases e219
               replace hx219_0 := (HB.out.cell (World.block_lt_of_cell? w _ hx219_0)).trans hx219_0
               have HR219_0 := zA hi219_0
               have HC219_0 := zA hl219_0
               clear hi219_0 hl219_0; replace p219 := eq_true p219; replace q219 := eq_true q219
               go_wp2_with (first | ((with_reducible refine gate_callee (f := 24) rfl ?_); refine goesL_ (some 55) rfl rfl Try.func24 (by kernel_rfl) rfl #[.slice A219_0 (rd_L5 l0_1 x5_4).length c219_0] rfl zqE ?_; (with_reducible refine (pianolaref04_CheckBounds.calls k4 _ _ (rd_L5 l0_1 x5_4) t220 _ ?side1 ?side2 A22.out).mono ?_); (case side1 => exact zqK (Kd.C_below HR219_0.out HB.out)); (case side2 => exact HC219_0.out); rintro e w' ⟨rfl, ⟨nd, rfl⟩⟩; refine ⟨_, rfl, ?_⟩))
               go_ret
               exact ⟨zqR, zqG HB.out GE216.out⟩
             ·
              rw [if_neg c21] at H
              exact absurd H (by simp)
            ·
             rw [if_neg c20] at H
             have c20b0 : decide (x5_4 < (l0_1.length : Int)) = false := decide_eq_false c20
             clear c20
             obtain rfl := Option.some.inj H
             have hcz26_0 : wr.cell? ⟨gb216, 0, none⟩ = some (.slice A0_0 l0_0.length c0_0) := (blk_cell BK216.out 0).trans rfl
             have hcz26_1 : wr.cell? ⟨gb216, 1, none⟩ = some (.slice A0_1 l0_1.length c0_1) := (blk_cell BK216.out 1).trans rfl
             have hfz26_0 := blk_frozen BK216.out 0
             have hfz26_1 := blk_frozen BK216.out 1
             go_wp2
             go_ret
             exact ⟨zqR, zqG HB.out GE216.out⟩
end Go.Proofs.Ythoeindopljmkaa.P
end
section
namespace Go.Proofs.Ythoeindopljmkaa.P
open Go.RowKit Go.Proofs.YthoeindopljmkaaW.PrintWords Go.Proofs.YthoeindopljmkaaW.PrintLast Go.Proofs.YthoeindopljmkaaW.PrintMore
attribute [local go_sem] max2_int min2_int max_two min_two max_three min_three max_four min_four
set_option linter.unusedVariables false
set_option linter.unusedSimpArgs false
mutual
def pianolaref04_shape.j0 : Nat → Bool → List (List Int) → List (List Int) → Option (Int × Int)
  | 0, _, _, _ => none
  | k + 1, x26, x343000, x343001 => if x26 = true then (some (0, 6)) else ((some (([] : List (List Int)) : List (List Int))).bind fun y343 => (if y343.length + x343000.length < 5864062014805 then ((some (y343 ++ x343000 : List (List Int))).bind fun y346 => (if y346.length + x343001.length < 5864062014805 then ((some (y346 ++ x343001 : List (List Int))).bind fun y349 => (if 0 < (y349.length : Int) then (pianolaref04_shape.l0 k y349 ((rd_L6 y349 0).length : Int) 0) else (none))) else (none))) else (none)))
def pianolaref04_shape.l0 : Nat → List (List Int) → Int → Int → Option (Int × Int)
  | 0, _, _, _ => none
  | k + 1, x6, x7, x8 => if x8 < (x6.length : Int) then (if 0 ≤ x8 then (if ((rd_L6 x6 x8).length : Int) = x7 then (pianolaref04_shape.l0 k x6 x7 (wrap64 (x8 + 1))) else (some (0, 6))) else (none)) else (if x7 > 400 then (some (0, 5)) else (pianolaref04_shape.l1 k x6 x7 0))
def pianolaref04_shape.l1 : Nat → List (List Int) → Int → Int → Option (Int × Int)
  | 0, _, _, _ => none
  | k + 1, x6, x7, x9 => if x9 < (x6.length : Int) then (pianolaref04_shape.l2 k x6 x7 x9 0) else (some (x7, 0))
def pianolaref04_shape.l2 : Nat → List (List Int) → Int → Int → Int → Option (Int × Int)
  | 0, _, _, _, _ => none
  | k + 1, x6, x7, x9, x10 => if x10 < x7 then (if 0 ≤ x9 then (if x9 < (x6.length : Int) then (if 0 ≤ x10 then (if x10 < ((rd_L6 x6 x9).length : Int) then ((pianolaref04_is.f (rd (rd_L6 x6 x9) x10) 0 1000000).bind fun t356 => (if t356 = true then (pianolaref04_shape.l2 k x6 x7 x9 (wrap64 (x10 + 1))) else (some (0, 3)))) else (none)) else (none)) else (none)) else (none)) else (pianolaref04_shape.l1 k x6 x7 (wrap64 (x9 + 1)))
end
def pianolaref04_shape.f (k : Nat) (l0_0 : List (List (S90))) (l0_1 : List (List (S90))) (l1_0 : List (List Int)) (l1_1 : List (List Int)) : Option (Int × Int) := if (l1_0.length : Int) = (l0_0.length : Int) then (pianolaref04_shape.j0 k ((l1_1.length : Int) != (l0_1.length : Int)) l1_0 l1_1) else (pianolaref04_shape.j0 k true l1_0 l1_1)
def pianolaref04_shape.T3 : Bool × List (List Nat × List Nat) := (true, [([], []), ([], []), ([1], [1]), ([0, 2], [0, 2]), ([], []), ([4], [4]), ([3, 5, 3], [3, 5]), ([6, 6, 0, 1, 2, 3, 4, 5, 6], [6])])
def pianolaref04_shape.B3 : List Nat := [0, 0, 2, 7, 0, 16, 63, 127]
theorem pianolaref04_shape.tab3 : rtab .any (opsOf Try.f75 3) = pianolaref04_shape.T3 := by kernel_rfl
theorem pianolaref04_shape.bits3 : waitsOk pianolaref04_shape.T3.2 pianolaref04_shape.B3 = true := by kernel_rfl
set_option maxHeartbeats 8000000 in
set_option maxRecDepth 100000 in
theorem pianolaref04_shape.calls (k : Nat) (A0_0 : Option Addr) (c0_0 : Nat) (l0_0 : List (List (S90))) (A0_1 : Option Addr) (c0_1 : Nat) (l0_1 : List (List (S90))) (P1_0_ : Nat → Prop) (A1_0 : Option Addr) (c1_0 : Nat) (l1_0 : List (List Int)) (P1_1_ : Nat → Prop) (A1_1 : Option Addr) (c1_1 : Nat) (l1_1 : List (List Int)) (r1 : Int) (r2 : Int) (w : World) (hr0_0 : Kd.C (Kd.slice 90 k90) w A0_0 l0_0.length l0_0) (hc0_0 : l0_0.length ≤ c0_0) (hr0_1 : Kd.C (Kd.slice 90 k90) w A0_1 l0_1.length l0_1) (hc0_1 : l0_1.length ≤ c0_1) (hs1_0 : Kd.V (Kd.slice 3 (Kd.int .i64)) 30 w w.heap.size (fun k_ => P1_0_ k_) (.slice A1_0 l1_0.length c1_0) l1_0) (hs1_1 : Kd.V (Kd.slice 3 (Kd.int .i64)) 30 w w.heap.size (fun k_ => P1_1_ k_) (.slice A1_1 l1_1.length c1_1) l1_1) (h : pianolaref04_shape.f k l0_0 l0_1 l1_0 l1_1 = some (r1, r2)) :
  Calls Try.prog 75 #[.agg #[.slice A0_0 l0_0.length c0_0, .slice A0_1 l0_1.length c0_1], .agg #[.slice A1_0 l1_0.length c1_0, .slice A1_1 l1_1.length c1_1]] w fun e w' => e = .returned (.tuple #[.int .i64 r1, .int .i64 r2]) ∧ Below w.heap.size w w' := by
 have hu44 := Try.underlying44
 have hu61 := Try.underlying61
 have HR0_0 := zA hr0_0
 have HC0_0 := zA hc0_0
 clear hr0_0 hc0_0
 have HR0_1 := zA hr0_1
 have HC0_1 := zA hc0_1
 clear hr0_1 hc0_1
 have HO1_0 := zA (show Kd.V (Kd.slice 3 (Kd.int .i64)) 30 w w.heap.size (fun k_ => ((P1_0_ k_ ∨ P1_1_ k_) ∨ w.heap.size ≤ k_)) (.slice A1_0 l1_0.length c1_0) l1_0 from Kd.V_mono hs1_0 (fun k_ hk => .inl (.inl hk)))
 have HO1_1 := zA (show Kd.V (Kd.slice 3 (Kd.int .i64)) 30 w w.heap.size (fun k_ => ((P1_0_ k_ ∨ P1_1_ k_) ∨ w.heap.size ≤ k_)) (.slice A1_1 l1_1.length c1_1) l1_1 from Kd.V_mono hs1_1 (fun k_ hk => .inl (.inr hk)))
 have HB := zA (Below.refl w.heap.size w)
 have H : (if (l1_0.length : Int) = (l0_0.length : Int) then (pianolaref04_shape.j0 k ((l1_1.length : Int) != (l0_1.length : Int)) l1_0 l1_1) else (pianolaref04_shape.j0 k true l1_0 l1_1)) = some (r1, r2) := h
 clear h
 have HC3 := zA H
 clear H
 go_enter Try.func75, Try.ntmps75
 go_upto_region 1 with (first | ((with_reducible refine gate_dst (N := 2) rfl ?_); (try (refine gate_guard (by rfl) ?_; dsimp only)); refine box_event ?hg (N := 2) ?hd (cs := #[.slice A0_0 l0_0.length c0_0, .slice A0_1 l0_1.length c0_1]) (t := 44) ?hr ?_; (case hd => rfl); (case hg => rfl); (case hr => first | (go_simp; done) | (go_simp; rfl)); intro gb341 hg w4 hbox hb; have n0_ := zA (Kd.V_below (Kd.V_elderB (by (with_reducible repeat (first | apply Kd.V_alloc | apply Kd.V_drewN | apply Kd.V_drew)); exact HO1_0.out) gb341 (Nat.le_of_eq hg.symm)) hb); have n1_ := zA (Kd.V_below (Kd.V_elderB (by (with_reducible repeat (first | apply Kd.V_alloc | apply Kd.V_drewN | apply Kd.V_drew)); exact HO1_1.out) gb341 (Nat.le_of_eq hg.symm)) hb); have n2_ := zA (below_step (zqA HB.out) hb); have n3_ := zA (hbox); have n4_ := zA ((by rw [hg]; exact (below_size (zqA HB.out)) : w.heap.size ≤ gb341)); have n5_ := zA ((by rw [hg]; exact (below_size (zqA HB.out)) : w.heap.size ≤ gb341)); clear HO1_0; clear HO1_1; clear HB; have HO1_0 := n0_; have HO1_1 := n1_; have HB := n2_; have BK341 := n3_; have GW341 := n4_; have GE341 := n5_; clear n0_ n1_ n2_ n3_ n4_ n5_; clear hb hbox hg) | ((with_reducible refine gate_dst (N := 3) rfl ?_); (try (refine gate_guard (by rfl) ?_; dsimp only)); refine box_event ?hg (N := 3) ?hd (cs := #[.slice A1_0 l1_0.length c1_0, .slice A1_1 l1_1.length c1_1]) (t := 61) ?hr ?_; (case hd => rfl); (case hg => rfl); (case hr => first | (go_simp; done) | (go_simp; rfl)); intro gb342 hg w5 hbox hb; have n0_ := zA (Kd.V_below (Kd.V_elderB (by (with_reducible repeat (first | apply Kd.V_alloc | apply Kd.V_drewN | apply Kd.V_drew)); exact HO1_0.out) gb342 (Nat.le_of_eq hg.symm)) hb); have n1_ := zA (Kd.V_below (Kd.V_elderB (by (with_reducible repeat (first | apply Kd.V_alloc | apply Kd.V_drewN | apply Kd.V_drew)); exact HO1_1.out) gb342 (Nat.le_of_eq hg.symm)) hb); have n2_ := zA (blk_below (g := gb341) (o := .cells #[.slice A0_0 l0_0.length c0_0, .slice A0_1 l0_1.length c0_1] 44 (0, 0)) (zqB BK341.out) hb); have n3_ := zA (below_step (zqG HB.out GE341.out) hb); have n4_ := zA (hbox); have n5_ := zA ((by rw [hg]; exact (below_size (zqG HB.out GE341.out)) : w.heap.size ≤ gb342)); have n6_ := zA ((by rw [hg]; exact (below_size (zqG HB.out GE341.out)) : w.heap.size ≤ gb342)); have n7_ := zA ((by rw [hg]; exact Nat.ne_of_lt (blk_lt (g := gb341) (o := .cells #[.slice A0_0 l0_0.length c0_0, .slice A0_1 l0_1.length c0_1] 44 (0, 0)) (zqB BK341.out)) : gb341 ≠ gb342)); have n8_ := zA ((by rw [hg]; exact Nat.ne_of_gt (blk_lt (g := gb341) (o := .cells #[.slice A0_0 l0_0.length c0_0, .slice A0_1 l0_1.length c0_1] 44 (0, 0)) (zqB BK341.out)) : gb342 ≠ gb341)); clear HO1_0; clear HO1_1; clear BK341; clear HB; have HO1_0 := n0_; have HO1_1 := n1_; have BK341 := n2_; have HB := n3_; have BK342 := n4_; have GW342 := n5_; have GE342 := n6_; have NB341_342 := n7_; have NB342_341 := n8_; clear n0_ n1_ n2_ n3_ n4_ n5_ n6_ n7_ n8_; clear hb hbox hg))
 (try simp only [Act.put, List.setIfInBounds_toArray, List.set_cons_zero, List.set_cons_succ])
 go_cut [26] (fun v26 wc => ∃ (kq : Nat) (x26_2 : Bool), v26 = .bool x26_2 ∧ Aside0 (pianolaref04_shape.j0 kq x26_2 l1_0 l1_1 = some (r1, r2)) ∧ Aside0 (kq ≤ k) ∧ Aside0 (Kd.V (Kd.slice 3 (Kd.int .i64)) 30 wc w.heap.size (fun k_ => ((P1_0_ k_ ∨ P1_1_ k_) ∨ w.heap.size ≤ k_) ∧ k_ ≠ gb341 ∧ k_ ≠ gb342) (.slice A1_0 l1_0.length c1_0) l1_0) ∧ Aside0 (Kd.V (Kd.slice 3 (Kd.int .i64)) 30 wc w.heap.size (fun k_ => ((P1_0_ k_ ∨ P1_1_ k_) ∨ w.heap.size ≤ k_) ∧ k_ ≠ gb341 ∧ k_ ≠ gb342) (.slice A1_1 l1_1.length c1_1) l1_1) ∧ Aside0 (wc.heap[gb341]? = some (.cells #[(.slice A0_0 l0_0.length c0_0), (.slice A0_1 l0_1.length c0_1)] 44 (0, 0))) ∧ Aside0 (wc.heap[gb342]? = some (.cells #[(.slice A1_0 l1_0.length c1_0), (.slice A1_1 l1_1.length c1_1)] 61 (0, 0))) ∧ Aside0 (Below w.heap.size w wc))
 case first =>
  have H := HC3.out
  clear HC3
  by_cases c6 : (l1_0.length : Int) = (l0_0.length : Int)
  ·
   rw [if_pos c6] at H
   have c6b0 : ((l1_0.length : Int) == (l0_0.length : Int)) = true := beq_iff_eq.mpr c6
   have c6b1 : ((l1_0.length : Int) != (l0_0.length : Int)) = false := bne_eq_false_iff_eq.mpr c6
   have c6b2 : (l1_0.length == l0_0.length) = true := by first | simpa using c6 | (simp at c6 ⊢; omega)
   clear c6
   (first | rw [c6b0] | rw [c6b1] | (simp only [i64_w, i32_w]; rw [c6b0]) | skip)
   have H' := zA H
   clear H
   have hnb7 := NB342_341.out
   have hnc7 := NB341_342.out
   have hcz8_0 : w5.cell? ⟨gb342, 0, none⟩ = some (.slice A1_0 l1_0.length c1_0) := (blk_cell BK342.out 0).trans rfl
   have hcz8_1 : w5.cell? ⟨gb342, 1, none⟩ = some (.slice A1_1 l1_1.length c1_1) := (blk_cell BK342.out 1).trans rfl
   have hfz8_0 := blk_frozen BK342.out 0
   have hfz8_1 := blk_frozen BK342.out 1
   have hcz9_0 : w5.cell? ⟨gb341, 0, none⟩ = some (.slice A0_0 l0_0.length c0_0) := (blk_cell BK341.out 0).trans rfl
   have hcz9_1 : w5.cell? ⟨gb341, 1, none⟩ = some (.slice A0_1 l0_1.length c0_1) := (blk_cell BK341.out 1).trans rfl
   have hfz9_0 := blk_frozen BK341.out 0
   have hfz9_1 := blk_frozen BK341.out 1
   go_wp2
   go_meet
   case rel => exact ⟨_, (((l1_1.length : Int) != (l0_1.length : Int))), zqQ, H', ⟨by first | omega | exact Nat.le_refl _⟩, ⟨by (with_reducible repeat (first | apply Kd.V_alloc | apply Kd.V_drewN | apply Kd.V_drew)); exact Kd.V_mono HO1_0.out (fun _ hk => ⟨hk.1.1, ⟨hk.1.2, hk.2⟩⟩)⟩, ⟨by (with_reducible repeat (first | apply Kd.V_alloc | apply Kd.V_drewN | apply Kd.V_drew)); exact Kd.V_mono HO1_1.out (fun _ hk => ⟨hk.1.1, ⟨hk.1.2, hk.2⟩⟩)⟩, ⟨zqB BK341.out⟩, ⟨zqB BK342.out⟩, ⟨zqH HB.out GE341.out GE342.out⟩⟩
  ·
   rw [if_neg c6] at H
   have c6b0 : ((l1_0.length : Int) == (l0_0.length : Int)) = false := beq_eq_false_iff_ne.mpr c6
   have c6b1 : ((l1_0.length : Int) != (l0_0.length : Int)) = true := bne_iff_ne.mpr c6
   have c6b2 : (l1_0.length == l0_0.length) = false := by first | simpa using c6 | (simp at c6 ⊢; omega)
   (first | rw [c6b0] | rw [c6b1] | (simp only [i64_w, i32_w]; rw [c6b0]) | skip)
   have H' := zA H
   clear H
   have hnb10 := NB342_341.out
   have hnc10 := NB341_342.out
   have hcz11_0 : w5.cell? ⟨gb342, 0, none⟩ = some (.slice A1_0 l1_0.length c1_0) := (blk_cell BK342.out 0).trans rfl
   have hcz11_1 : w5.cell? ⟨gb342, 1, none⟩ = some (.slice A1_1 l1_1.length c1_1) := (blk_cell BK342.out 1).trans rfl
   have hfz11_0 := blk_frozen BK342.out 0
   have hfz11_1 := blk_frozen BK342.out 1
   have hcz12_0 : w5.cell? ⟨gb341, 0, none⟩ = some (.slice A0_0 l0_0.length c0_0) := (blk_cell BK341.out 0).trans rfl
   have hcz12_1 : w5.cell? ⟨gb341, 1, none⟩ = some (.slice A0_1 l0_1.length c0_1) := (blk_cell BK341.out 1).trans rfl
   have hfz12_0 := blk_frozen BK341.out 0
   have hfz12_1 := blk_frozen BK341.out 1
   go_wp2
   go_meet
   case rel => exact ⟨_, (true), zqQ, H', ⟨by first | omega | exact Nat.le_refl _⟩, ⟨by (with_reducible repeat (first | apply Kd.V_alloc | apply Kd.V_drewN | apply Kd.V_drew)); exact Kd.V_mono HO1_0.out (fun _ hk => ⟨hk.1.1, ⟨hk.1.2, hk.2⟩⟩)⟩, ⟨by (with_reducible repeat (first | apply Kd.V_alloc | apply Kd.V_drewN | apply Kd.V_drew)); exact Kd.V_mono HO1_1.out (fun _ hk => ⟨hk.1.1, ⟨hk.1.2, hk.2⟩⟩)⟩, ⟨zqB BK341.out⟩, ⟨zqB BK342.out⟩, ⟨zqH HB.out GE341.out GE342.out⟩⟩
 case rest =>
  clear HC3
  try clear c1
  try clear p2
  try clear c6
  try clear c6b0
  try clear c6b1
  try clear c6b2
  try clear c7
  try clear c10
  try clear hcz11_0
  try clear hcz11_1
  try clear hcz12_0
  try clear hcz12_1
  try clear hcz8_0
  try clear hcz8_1
  try clear hcz9_0
  try clear hcz9_1
  try clear hfz11_0
  try clear hfz11_1
  try clear hfz12_0
  try clear hfz12_1
  try clear hfz8_0
  try clear hfz8_1
  try clear hfz9_0
  try clear hfz9_1
  obtain ⟨kq, x26_2, rfl, HA, HJ2, HO_343000, HO_343001, BK341, BK342, HB⟩ := hcut
  cases kq with
  | zero => exact absurd HA.out (by simp [pianolaref04_shape.j0])
  | succ kj2 =>
   have H := HA.out
   clear HA
   simp only [pianolaref04_shape.j0] at H
   by_cases c13 : x26_2 = true
   ·
    subst c13
    have H1 : (some (0, 6)) = some (r1, r2) := by rw [if_pos rfl] at H; exact H
    clear H; have H := H1; clear H1
    simp only [Option.some.injEq, Prod.mk.injEq] at H
    obtain ⟨rfl, rfl⟩ := H
    go_wp2
    go_ret2
    exact ⟨zqR, zqH HB.out GE341.out GE342.out⟩
   ·
    replace c13 := Bool.eq_false_iff.mpr c13
    subst c13
    have H1 : ((some (([] : List (List Int)) : List (List Int))).bind fun y343 => (if y343.length + l1_0.length < 5864062014805 then ((some (y343 ++ l1_0 : List (List Int))).bind fun y346 => (if y346.length + l1_1.length < 5864062014805 then ((some (y346 ++ l1_1 : List (List Int))).bind fun y349 => (if 0 < (y349.length : Int) then (pianolaref04_shape.l0 kj2 y349 ((rd_L6 y349 0).length : Int) 0) else (none))) else (none))) else (none))) = some (r1, r2) := by rw [if_neg (show ¬ (false = true) by decide)] at H; exact H
    clear H; have H := H1; clear H1
    obtain ⟨y343, hy343⟩ : ∃ y_ : List (List Int), y_ = (([] : List (List Int))) := ⟨_, rfl⟩
    replace H : (if y343.length + l1_0.length < 5864062014805 then ((some (y343 ++ l1_0 : List (List Int))).bind fun y346 => (if y346.length + l1_1.length < 5864062014805 then ((some (y346 ++ l1_1 : List (List Int))).bind fun y349 => (if 0 < (y349.length : Int) then (pianolaref04_shape.l0 kj2 y349 ((rd_L6 y349 0).length : Int) 0) else (none))) else (none))) else (none)) = some (r1, r2) := zqF hy343 H
    have Ny343 := zA hy343
    clear hy343
    by_cases c14 : y343.length + l1_0.length < 5864062014805
    ·
     rw [if_pos c14] at H
     have LMc14 := zA c14
     clear c14
     obtain ⟨y346, hy346⟩ : ∃ y_ : List (List Int), y_ = (y343 ++ l1_0) := ⟨_, rfl⟩
     replace H : (if y346.length + l1_1.length < 5864062014805 then ((some (y346 ++ l1_1 : List (List Int))).bind fun y349 => (if 0 < (y349.length : Int) then (pianolaref04_shape.l0 kj2 y349 ((rd_L6 y349 0).length : Int) 0) else (none))) else (none)) = some (r1, r2) := zqF hy346 H
     have Ny346 := zA hy346
     clear hy346
     by_cases c15 : y346.length + l1_1.length < 5864062014805
     ·
      rw [if_pos c15] at H
      have LMc15 := zA c15
      clear c15
      obtain ⟨y349, hy349⟩ : ∃ y_ : List (List Int), y_ = (y346 ++ l1_1) := ⟨_, rfl⟩
      replace H : (if 0 < (y349.length : Int) then (pianolaref04_shape.l0 kj2 y349 ((rd_L6 y349 0).length : Int) 0) else (none)) = some (r1, r2) := zqF hy349 H
      have Ny349 := zA hy349
      clear hy349
      by_cases c16 : 0 < (y349.length : Int)
      ·
       rw [if_pos c16] at H
       have c16b0 : decide (0 < (y349.length : Int)) = true := decide_eq_true c16
       have c16b1 : decide (0 < y349.length) = true := decide_eq_true (by omega)
       clear c16
       have H' := zA H
       clear H
       try go_wp2
       have n0_ := zA (Kd.V_drew HO_343000.out); have n1_ := zA (Kd.V_drew HO_343001.out); have n2_ := zA (blk_drew BK341.out); have n3_ := zA (blk_drew BK342.out); have n4_ := zA (below_drew1 HB.out); clear HO_343000 HO_343001 BK341 BK342 HB; have HO_343000 := n0_; have HO_343001 := n1_; have BK341 := n2_; have BK342 := n3_; have HB := n4_; clear n0_ n1_ n2_ n3_ n4_
       refine start_ (n := 8) (S := fun w' => w'.cell? ⟨gb342, 0, none⟩ = some (.slice A1_0 l1_0.length c1_0) ∧ w'.cell? ⟨gb342, 1, none⟩ = some (.slice A1_1 l1_1.length c1_1)) (ds := []) #[false, false, false, false, false, false, false, false] (by kernel_rfl) rfl rfl ⟨(blk_cell BK342.out 0).trans rfl, (blk_cell BK342.out 1).trans rfl⟩ (fun hHeld => ?_); refine with_tabW pianolaref04_shape.tab3 pianolaref04_shape.bits3 (fun HT_ HW_ => ?_)
       generalize wc.drew = w17 at HO_343000 HO_343001 BK341 BK342 HB hHeld ⊢
       refine pure_ (i := 1) (N := some 28) (v := ?_) (a' := ?_) #[false, true, false, false, false, false, false, false] rfl rfl (any_of HT_.out (by kernel_rfl)) (fun _ _ _ h => h) (Or.inl ⟨by rfl, ?_⟩) ?_ ?_
       rotate_left
       ·
        intro w'
        go_simp
        with_reducible rfl
       rotate_left
       · simp only [Act.put, List.setIfInBounds_toArray, List.set_cons_zero, List.set_cons_succ, i64_w, i32_w]; rfl
       refine pure_ (i := 4) (N := some 31) (v := ?_) (a' := ?_) #[false, true, false, false, true, false, false, false] rfl rfl (any_of HT_.out (by kernel_rfl)) (fun _ _ _ h => h) (Or.inl ⟨by rfl, ?_⟩) ?_ ?_
       rotate_left
       ·
        intro w'
        go_simp
        with_reducible rfl
       rotate_left
       · simp only [Act.put, List.setIfInBounds_toArray, List.set_cons_zero, List.set_cons_succ, i64_w, i32_w]; rfl
       refine take_ (i := 2) (N := some 29) (v := ?_) (a' := ?_) #[false, true, true, false, true, false, false, false] rfl rfl (take_ofW HT_.out HW_.out (by kernel_rfl)) (fun _ _ _ h => h) (Or.inl ⟨by rfl, ?_⟩) hHeld ?_ ?_
       rotate_left
       ·
        rintro w' ⟨s0, s1⟩
        go_simp
        with_reducible rfl
       rotate_left
       · simp only [Act.put, List.setIfInBounds_toArray, List.set_cons_zero, List.set_cons_succ, i64_w, i32_w]; rfl
       refine take_ (i := 5) (N := some 32) (v := ?_) (a' := ?_) #[false, true, true, false, true, true, false, false] rfl rfl (take_ofW HT_.out HW_.out (by kernel_rfl)) (fun _ _ _ h => h) (Or.inl ⟨by rfl, ?_⟩) hHeld ?_ ?_
       rotate_left
       ·
        rintro w' ⟨s0, s1⟩
        go_simp
        with_reducible rfl
       rotate_left
       · simp only [Act.put, List.setIfInBounds_toArray, List.set_cons_zero, List.set_cons_succ, i64_w, i32_w]; rfl
       refine one_ (i := 0) (N := some 27) #[true, true, true, false, true, true, false, false] rfl rfl (one_of HT_.out (by kernel_rfl)) (by decide) (fun K hK => ?_)
       refine Kd.N_lit_step (Kd.slice 3 (Kd.int .i64)) _ 30 ?hg (N' := 27) ?hd (xs := ([] : List (List Int))) (inner := []) (ok := (fun k_ => ((P1_0_ k_ ∨ P1_1_ k_) ∨ w.heap.size ≤ k_) ∧ k_ ≠ gb341 ∧ k_ ≠ gb342)) (okp := (fun k_ => ((P1_0_ k_ ∨ P1_1_ k_) ∨ w.heap.size ≤ k_) ∧ k_ ≠ gb341 ∧ k_ ≠ gb342)) ?hr ?hp (fun _ hk => hk) ((show ∀ k_, w17.heap.size ≤ k_ → (fun k_ => ((P1_0_ k_ ∨ P1_1_ k_) ∨ w.heap.size ≤ k_) ∧ k_ ≠ gb341 ∧ k_ ≠ gb342) k_ from fun k_ hk => ⟨(.inr (Nat.le_trans (below_size (zqH HB.out GE341.out GE342.out)) hk)), Kd.freshB (g := gb341) (o := .cells #[.slice A0_0 l0_0.length c0_0, .slice A0_1 l0_1.length c0_1] 44 (0, 0)) (zqB BK341.out) k_ hk, Kd.freshB (g := gb342) (o := .cells #[.slice A1_0 l1_0.length c1_0, .slice A1_1 l1_1.length c1_1] 61 (0, 0)) (zqB BK342.out) k_ hk⟩) _ (Nat.le_refl _)) (Below.refl _ _) (Nat.le_refl _) (by simp) ?_; (case hd => rfl); (case hg => rfl); (case hr => first | (go_simp; done) | (go_simp; rfl)); (case hp => exact (Reps.none _ _))
       intro v344 w18 ho19 hb hg_ hnew_
       clear hg_ hnew_
       (first | rw [← Ny343.out] at ho19 | (simp only [Int.reduceToNat] at ho19; rw [← Ny343.out] at ho19))
       have n0_ := zA (Kd.V_elder' (by (with_reducible repeat (first | apply Kd.V_alloc | apply Kd.V_drewN | apply Kd.V_drew)); exact HO_343000.out) (Kd.N_base ho19) hb)
       have n1_ := zA (Kd.V_elder' (by (with_reducible repeat (first | apply Kd.V_alloc | apply Kd.V_drewN | apply Kd.V_drew)); exact HO_343001.out) (Kd.N_base ho19) hb)
       have n2_ := zA (Kd.N_lower ho19 (below_size (zqH HB.out GE341.out GE342.out))); have n3_ := zA (blk_below (g := gb341) (zqB BK341.out) hb); have n4_ := zA (blk_below (g := gb342) (zqB BK342.out) hb); have n5_ := zA (below_step (zqH HB.out GE341.out GE342.out) hb); clear HO_343000 HO_343001 BK341 BK342 HB; have HO_343000 := n0_; have HO_343001 := n1_; have HO345 := n2_; have BK341 := n3_; have BK342 := n4_; have HB := n5_; clear n0_ n1_ n2_ n3_ n4_ n5_ hb ho19
       refine hK.out _ _ ⟨(blk_cell BK342.out 0).trans rfl, (blk_cell BK342.out 1).trans rfl⟩ (fun hHeld => ?_)
       clear hK K; refine norm_ (a' := ?_) ?_ ?_; rotate_left
       · show Act.put _ (some 27) _ = _; simp only [Act.put, List.setIfInBounds_toArray, List.set_cons_zero, List.set_cons_succ, i64_w, i32_w]; rfl
       refine one_ (i := 3) (N := some 30) #[true, true, true, true, true, true, false, false] rfl rfl (one_of HT_.out (by kernel_rfl)) (by decide) (fun K hK => ?_)
       refine Kd.N_append_rows_step (Kd.slice 3 (Kd.int .i64)) (w0 := w) w.heap.size (by rfl) (.tmp 27) (.tmp 29) 54 30 (.slice none 0 0) 24 rfl Try.underlying54 info30 rfl (by decide) (by omega) v344 y343 l1_0 _ _ _ (fun k_ => ((P1_0_ k_ ∨ P1_1_ k_) ∨ w.heap.size ≤ k_) ∧ k_ ≠ gb341 ∧ k_ ≠ gb342) (fun k_ => ((fun k_ => ((P1_0_ k_ ∨ P1_1_ k_) ∨ w.heap.size ≤ k_) ∧ k_ ≠ gb341 ∧ k_ ≠ gb342)) k_ ∧ some k_ ≠ (v344 : Value).ownBlock) rfl rfl ?aO ?aR (fun _ hk => hk) ?aF ?aB ?aS ?aL ?_
       (case aR => exact (by skip; exact Kd.V_F (Kd.V_mono (ok' := (fun k_ => ((fun k_ => ((P1_0_ k_ ∨ P1_1_ k_) ∨ w.heap.size ≤ k_) ∧ k_ ≠ gb341 ∧ k_ ≠ gb342)) k_ ∧ some k_ ≠ (v344 : Value).ownBlock)) (HO_343000.out) (fun k_ hk => ⟨⟨hk.1.1, ⟨hk.1.2.1, hk.1.2.2⟩⟩, hk.2⟩))))
       (case aB => exact (zqH HB.out GE341.out GE342.out))
       (case aF => exact (fun k_ hk => ⟨(.inr (Nat.le_trans (below_size (zqH HB.out GE341.out GE342.out)) hk)), Kd.freshB (g := gb341) (o := .cells #[.slice A0_0 l0_0.length c0_0, .slice A0_1 l0_1.length c0_1] 44 (0, 0)) (zqB BK341.out) k_ hk, Kd.freshB (g := gb342) (o := .cells #[.slice A1_0 l1_0.length c1_0, .slice A1_1 l1_1.length c1_1] 61 (0, 0)) (zqB BK342.out) k_ hk⟩))
       (case aO => exact (zqN HO345.out))
       (case aS => exact (below_size (zqH HB.out GE341.out GE342.out)))
       (case aL => have := LMc14.out; omega)
       intro v347 w20 ho hb hg hat
       rw [← Ny346.out] at ho
       have n0_ := zA (Kd.V_afterv (ok := (fun k_ => ((P1_0_ k_ ∨ P1_1_ k_) ∨ w.heap.size ≤ k_) ∧ k_ ≠ gb341 ∧ k_ ≠ gb342)) (by (with_reducible repeat (first | apply Kd.V_alloc | apply Kd.V_drewN | apply Kd.V_drew)); exact HO_343000.out) hg hat)
       have n1_ := zA (Kd.V_afterv (ok := (fun k_ => ((P1_0_ k_ ∨ P1_1_ k_) ∨ w.heap.size ≤ k_) ∧ k_ ≠ gb341 ∧ k_ ≠ gb342)) (by (with_reducible repeat (first | apply Kd.V_alloc | apply Kd.V_drewN | apply Kd.V_drew)); exact HO_343001.out) hg hat)
       have n2_ := zA (blk_grown (g := gb341) (o := .cells #[.slice A0_0 l0_0.length c0_0, .slice A0_1 l0_1.length c0_1] 44 (0, 0)) (zqB BK341.out) hg (Kd.N_ne HO345.out BK341.out (by decide))); have n3_ := zA (blk_grown (g := gb342) (o := .cells #[.slice A1_0 l1_0.length c1_0, .slice A1_1 l1_1.length c1_1] 61 (0, 0)) (zqB BK342.out) hg (Kd.N_ne HO345.out BK342.out (by decide))); have n4_ := zA (hb); have n5_ := zA (ho); clear HO_343000 HO_343001 BK341 BK342 HB HO345; have HO_343000 := n0_; have HO_343001 := n1_; have BK341 := n2_; have BK342 := n3_; have HB := n4_; have HO348 := n5_; clear n0_ n1_ n2_ n3_ n4_ n5_ ho hb hg hat
       refine hK.out _ _ ⟨(blk_cell BK342.out 0).trans rfl, (blk_cell BK342.out 1).trans rfl⟩ (fun hHeld => ?_)
       clear hK K; refine norm_ (a' := ?_) ?_ ?_; rotate_left
       · show Act.put _ (some 30) _ = _; simp only [Act.put, List.setIfInBounds_toArray, List.set_cons_zero, List.set_cons_succ, i64_w, i32_w]; rfl
       refine one_ (i := 6) (N := some 33) #[true, true, true, true, true, true, true, false] rfl rfl (one_of HT_.out (by kernel_rfl)) (by decide) (fun K hK => ?_)
       refine Kd.N_append_rows_step (Kd.slice 3 (Kd.int .i64)) (w0 := w) w.heap.size (by rfl) (.tmp 30) (.tmp 32) 54 30 (.slice none 0 0) 24 rfl Try.underlying54 info30 rfl (by decide) (by omega) v347 y346 l1_1 _ _ _ (fun k_ => ((P1_0_ k_ ∨ P1_1_ k_) ∨ w.heap.size ≤ k_) ∧ k_ ≠ gb341 ∧ k_ ≠ gb342) (fun k_ => ((fun k_ => ((P1_0_ k_ ∨ P1_1_ k_) ∨ w.heap.size ≤ k_) ∧ k_ ≠ gb341 ∧ k_ ≠ gb342)) k_ ∧ some k_ ≠ (v347 : Value).ownBlock) rfl rfl ?aO ?aR (fun _ hk => hk) ?aF ?aB ?aS ?aL ?_
       (case aR => exact (by skip; exact Kd.V_F (Kd.V_mono (ok' := (fun k_ => ((fun k_ => ((P1_0_ k_ ∨ P1_1_ k_) ∨ w.heap.size ≤ k_) ∧ k_ ≠ gb341 ∧ k_ ≠ gb342)) k_ ∧ some k_ ≠ (v347 : Value).ownBlock)) (HO_343001.out) (fun k_ hk => ⟨⟨hk.1.1, ⟨hk.1.2.1, hk.1.2.2⟩⟩, hk.2⟩))))
       (case aB => exact (zqH HB.out GE341.out GE342.out))
       (case aF => exact (fun k_ hk => ⟨(.inr (Nat.le_trans (below_size (zqH HB.out GE341.out GE342.out)) hk)), Kd.freshB (g := gb341) (o := .cells #[.slice A0_0 l0_0.length c0_0, .slice A0_1 l0_1.length c0_1] 44 (0, 0)) (zqB BK341.out) k_ hk, Kd.freshB (g := gb342) (o := .cells #[.slice A1_0 l1_0.length c1_0, .slice A1_1 l1_1.length c1_1] 61 (0, 0)) (zqB BK342.out) k_ hk⟩))
       (case aO => exact (zqN HO348.out))
       (case aS => exact (below_size (zqH HB.out GE341.out GE342.out)))
       (case aL => have := LMc15.out; omega)
       intro v350 w21 ho hb hg hat
       rw [← Ny349.out] at ho
       have n0_ := zA (Kd.V_afterv (ok := (fun k_ => ((P1_0_ k_ ∨ P1_1_ k_) ∨ w.heap.size ≤ k_) ∧ k_ ≠ gb341 ∧ k_ ≠ gb342)) (by (with_reducible repeat (first | apply Kd.V_alloc | apply Kd.V_drewN | apply Kd.V_drew)); exact HO_343000.out) hg hat)
       have n1_ := zA (Kd.V_afterv (ok := (fun k_ => ((P1_0_ k_ ∨ P1_1_ k_) ∨ w.heap.size ≤ k_) ∧ k_ ≠ gb341 ∧ k_ ≠ gb342)) (by (with_reducible repeat (first | apply Kd.V_alloc | apply Kd.V_drewN | apply Kd.V_drew)); exact HO_343001.out) hg hat)
       have n2_ := zA (blk_grown (g := gb341) (o := .cells #[.slice A0_0 l0_0.length c0_0, .slice A0_1 l0_1.length c0_1] 44 (0, 0)) (zqB BK341.out) hg (Kd.N_ne HO348.out BK341.out (by decide))); have n3_ := zA (blk_grown (g := gb342) (o := .cells #[.slice A1_0 l1_0.length c1_0, .slice A1_1 l1_1.length c1_1] 61 (0, 0)) (zqB BK342.out) hg (Kd.N_ne HO348.out BK342.out (by decide))); have n4_ := zA (hb); have n5_ := zA (ho); clear HO_343000 HO_343001 BK341 BK342 HB HO348; have HO_343000 := n0_; have HO_343001 := n1_; have BK341 := n2_; have BK342 := n3_; have HB := n4_; have HO351 := n5_; clear n0_ n1_ n2_ n3_ n4_ n5_ ho hb hg hat
       refine hK.out _ _ ⟨(blk_cell BK342.out 0).trans rfl, (blk_cell BK342.out 1).trans rfl⟩ (fun hHeld => ?_)
       clear hK K; refine norm_ (a' := ?_) ?_ ?_; rotate_left
       · show Act.put _ (some 33) _ = _; simp only [Act.put, List.setIfInBounds_toArray, List.set_cons_zero, List.set_cons_succ, i64_w, i32_w]; rfl
       refine pure_ (i := 7) (N := some 6) (v := ?_) (a' := ?_) #[true, true, true, true, true, true, true, true] rfl rfl (any_of HT_.out (by kernel_rfl)) (fun _ _ _ h => h) (Or.inl ⟨by rfl, ?_⟩) ?_ ?_
       rotate_left
       ·
        intro w'
        go_simp
        with_reducible rfl
       rotate_left
       · simp only [Act.put, List.setIfInBounds_toArray, List.set_cons_zero, List.set_cons_succ, i64_w, i32_w]; rfl
       refine done_ (done_of HT_.out (by kernel_rfl)) ?_
       obtain ⟨Ao22, co22, eo22⟩ := Kd.N_slice HO351.out
       subst eo22
       have p352 : 0 ≤ (0 : Int) := (by omega)
       have q352 : 0 < (y349.length : Int) := of_decide_eq_true (zqD)
       obtain ⟨ad352, A352_0, c352_0, e352, hx352_0, hl352_0, hi352_0⟩ := at_L6 (Kd.N_reads' HO351.out).2.2 0 p352 q352
       cases e352
       obtain ⟨ce352, hce352, hMe352, hcc352⟩ := Kd.N_get HO351.out [] 0 p352 (by first | exact q352 | exact of_decide_eq_true (zqD) | (have e_ := (Kd.N_reads' HO351.out).1; omega))
       obtain ⟨ua352_0, uc352_0, rfl, ul352_0, ge352_0⟩ := Kd.FK_slice_open hMe352
       have hv352_0 := hcc352 0 _ rfl
       rw [Nat.add_zero, show ((Kd.slice 3 (Kd.int .i64))).sz = 1 from rfl, Nat.mul_one] at hv352_0
       replace hv352_0 := Option.some.inj (hv352_0.symm.trans hx352_0)
       injection hv352_0 with hva_ hvn_ hvc_
       rw [hva_] at ge352_0
       rw [hvc_] at ul352_0
       have HL352_0 := zA (show Kd.V (Kd.int .i64) 3 _ w.heap.size _ _ (rd_L6 y349 0) from Kd.V_mk ul352_0 ge352_0)
       clear hva_ hvn_ hvc_ ge352_0 ul352_0 hcc352 hce352
       have qi352 : (0 < y349.length) = True := eq_true (by omega)
       (try rw [show ((0 : Int)).toNat = 0 from rfl] at hx352_0)
       (try rw [Addr.add_zero'] at hx352_0)
       have HR352_0 := zA hi352_0
       have HC352_0 := zA hl352_0
       clear hi352_0 hl352_0; replace p352 := eq_true p352; replace q352 := eq_true q352
       try go_wp2
       go_loopg [8] kj2 (fun kq v8 w' => ∃ (x8_2 : Int), v8 = .int .i64 x8_2 ∧ Aside0 (pianolaref04_shape.l0 kq y349 ((rd_L6 y349 0).length : Int) x8_2 = some (r1, r2)) ∧ Aside0 (kq ≤ kj2) ∧ Aside0 (Kd.N (Kd.slice 3 (Kd.int .i64)) 30 w' w.heap.size (fun k_ => ((P1_0_ k_ ∨ P1_1_ k_) ∨ w.heap.size ≤ k_) ∧ k_ ≠ gb341 ∧ k_ ≠ gb342) (.slice (some ad352) y349.length co22) y349) ∧ Aside0 (Kd.V (Kd.slice 3 (Kd.int .i64)) 30 w' w.heap.size (fun k_ => ((P1_0_ k_ ∨ P1_1_ k_) ∨ w.heap.size ≤ k_) ∧ some k_ ≠ ((.slice (some ad352) y349.length co22) : Value).ownBlock ∧ k_ ≠ gb341 ∧ k_ ≠ gb342) (.slice A1_0 l1_0.length c1_0) l1_0) ∧ Aside0 (Kd.V (Kd.slice 3 (Kd.int .i64)) 30 w' w.heap.size (fun k_ => ((P1_0_ k_ ∨ P1_1_ k_) ∨ w.heap.size ≤ k_) ∧ some k_ ≠ ((.slice (some ad352) y349.length co22) : Value).ownBlock ∧ k_ ≠ gb341 ∧ k_ ≠ gb342) (.slice A1_1 l1_1.length c1_1) l1_1) ∧ Aside0 (w'.heap[gb341]? = some (.cells #[(.slice A0_0 l0_0.length c0_0), (.slice A0_1 l0_1.length c0_1)] 44 (0, 0))) ∧ Aside0 (w'.heap[gb342]? = some (.cells #[(.slice A1_0 l1_0.length c1_0), (.slice A1_1 l1_1.length c1_1)] 61 (0, 0))) ∧ Aside0 (Kd.C (Kd.int .i64) w' A352_0 (rd_L6 y349 0).length (rd_L6 y349 0)) ∧ Aside0 (Below w.heap.size w w'))
       case atStart => exact ⟨(0), zqQ, H', ⟨Nat.le_refl _⟩, ⟨zqN HO351.out⟩, ⟨by (with_reducible repeat (first | apply Kd.V_alloc | apply Kd.V_drewN | apply Kd.V_drew)); exact Kd.V_mono HO_343000.out (fun _ hk => ⟨hk.1.1, ⟨hk.2, ⟨hk.1.2.1, hk.1.2.2⟩⟩⟩)⟩, ⟨by (with_reducible repeat (first | apply Kd.V_alloc | apply Kd.V_drewN | apply Kd.V_drew)); exact Kd.V_mono HO_343001.out (fun _ hk => ⟨hk.1.1, ⟨hk.2, ⟨hk.1.2.1, hk.1.2.2⟩⟩⟩)⟩, ⟨zqB BK341.out⟩, ⟨zqB BK342.out⟩, ⟨by repeat (first | (with_reducible exact HR352_0.out) | (with_reducible refine Kd.C_alloc ?_ _) | (with_reducible refine Kd.C_drewN ?_ _) | (with_reducible refine Kd.C_drew ?_) | exact HR352_0.out)⟩, ⟨zqH HB.out GE341.out GE342.out⟩⟩
       case round =>
        clear H'
        try clear c1
        try clear p2
        try clear c3
        try clear p3
        try clear q3
        try clear hx3
        try clear qi3
        try clear c6
        try clear c6b0
        try clear c6b1
        try clear c6b2
        try clear c7
        try clear c10
        try clear c13
        try clear c14
        try clear c15
        try clear c16
        try clear c16b0
        try clear c16b1
        try clear hcz11_0
        try clear hcz11_1
        try clear hcz12_0
        try clear hcz12_1
        try clear hcz8_0
        try clear hcz8_1
        try clear hcz9_0
        try clear hcz9_1
        try clear hfz11_0
        try clear hfz11_1
        try clear hfz12_0
        try clear hfz12_1
        try clear hfz8_0
        try clear hfz8_1
        try clear hfz9_0
        try clear hfz9_1
        try clear hx352_0
        try clear p2
        try clear p352
        try clear q352
        obtain ⟨x8_2, rfl, HA, HK2, HO_6, HO_343000, HO_343001, BK341, BK342, HR352_0, HB⟩ := hrel
        cases gk with
        | zero => exact absurd HA.out (by simp [pianolaref04_shape.l0])
        | succ k2 =>
         have H := HA.out
         clear HA
         simp only [pianolaref04_shape.l0] at H
         by_cases c23 : x8_2 < (y349.length : Int)
         ·
          rw [if_pos c23] at H
          have c23b0 : decide (x8_2 < (y349.length : Int)) = true := decide_eq_true c23
          clear c23
          by_cases c24 : 0 ≤ x8_2
          ·
           rw [if_pos c24] at H
           have c24b0 : decide (0 ≤ x8_2) = true := decide_eq_true c24
           clear c24
           by_cases c25 : ((rd_L6 y349 x8_2).length : Int) = ((rd_L6 y349 0).length : Int)
           ·
            rw [if_pos c25] at H
            have c25b0 : (((rd_L6 y349 x8_2).length : Int) == ((rd_L6 y349 0).length : Int)) = true := beq_iff_eq.mpr c25
            have c25b1 : (((rd_L6 y349 x8_2).length : Int) != ((rd_L6 y349 0).length : Int)) = false := bne_eq_false_iff_eq.mpr c25
            have c25b2 : ((rd_L6 y349 x8_2).length == (rd_L6 y349 0).length) = true := by first | simpa using c25 | (simp at c25 ⊢; omega)
            clear c25
            have H' := zA H
            clear H
            have p353 : 0 ≤ (x8_2 : Int) := of_decide_eq_true (zqD)
            have q353 : x8_2 < (y349.length : Int) := of_decide_eq_true (zqD)
            obtain ⟨ad353, A353_0, c353_0, e353, hx353_0, hl353_0, hi353_0⟩ := at_L6 (Kd.N_reads' HO_6.out).2.2 x8_2 p353 q353
            obtain rfl : ad352 = ad353 := (by injection e353)
            obtain ⟨ce353, hce353, hMe353, hcc353⟩ := Kd.N_get HO_6.out [] x8_2 p353 (by first | exact q353 | exact of_decide_eq_true (zqD) | (have e_ := (Kd.N_reads' HO_6.out).1; omega))
            obtain ⟨ua353_0, uc353_0, rfl, ul353_0, ge353_0⟩ := Kd.FK_slice_open hMe353
            have hv353_0 := hcc353 0 _ rfl
            rw [Nat.add_zero, show ((Kd.slice 3 (Kd.int .i64))).sz = 1 from rfl, Nat.mul_one] at hv353_0
            replace hv353_0 := Option.some.inj (hv353_0.symm.trans hx353_0)
            injection hv353_0 with hva_ hvn_ hvc_
            rw [hva_] at ge353_0
            rw [hvc_] at ul353_0
            have HL353_0 := zA (show Kd.V (Kd.int .i64) 3 _ w.heap.size _ _ (rd_L6 y349 x8_2) from Kd.V_mk ul353_0 ge353_0)
            clear hva_ hvn_ hvc_ ge353_0 ul353_0 hcc353 hce353
            have HR353_0 := zA hi353_0
            have HC353_0 := zA hl353_0
            clear hi353_0 hl353_0; replace p353 := eq_true p353; replace q353 := eq_true q353
            go_wp2
            go_roundg k2
            case measure => have := HJ2.out; have := HK2.out; omega
            case rel => exact ⟨(wrap64 (x8_2 + 1)), zqQ, H', ⟨by have := HJ2.out; have := HK2.out; omega⟩, ⟨zqN HO_6.out⟩, ⟨by (with_reducible repeat (first | apply Kd.V_alloc | apply Kd.V_drewN | apply Kd.V_drew)); exact HO_343000.out⟩, ⟨by (with_reducible repeat (first | apply Kd.V_alloc | apply Kd.V_drewN | apply Kd.V_drew)); exact HO_343001.out⟩, ⟨zqB BK341.out⟩, ⟨zqB BK342.out⟩, ⟨by repeat (first | (with_reducible exact HR352_0.out) | (with_reducible refine Kd.C_alloc ?_ _) | (with_reducible refine Kd.C_drewN ?_ _) | (with_reducible refine Kd.C_drew ?_) | exact HR352_0.out)⟩, ⟨zqH HB.out GE341.out GE342.out⟩⟩
           ·
            rw [if_neg c25] at H
            have c25b0 : (((rd_L6 y349 x8_2).length : Int) == ((rd_L6 y349 0).length : Int)) = false := beq_eq_false_iff_ne.mpr c25
            have c25b1 : (((rd_L6 y349 x8_2).length : Int) != ((rd_L6 y349 0).length : Int)) = true := bne_iff_ne.mpr c25
            have c25b2 : ((rd_L6 y349 x8_2).length == (rd_L6 y349 0).length) = false := by first | simpa using c25 | (simp at c25 ⊢; omega)
            simp only [Option.some.injEq, Prod.mk.injEq] at H
            obtain ⟨rfl, rfl⟩ := H
            have p353 : 0 ≤ (x8_2 : Int) := of_decide_eq_true (zqD)
            have q353 : x8_2 < (y349.length : Int) := of_decide_eq_true (zqD)
            obtain ⟨ad353, A353_0, c353_0, e353, hx353_0, hl353_0, hi353_0⟩ := at_L6 (Kd.N_reads' HO_6.out).2.2 x8_2 p353 q353
            obtain rfl : ad352 = ad353 := (by injection e353)
            obtain ⟨ce353, hce353, hMe353, hcc353⟩ := Kd.N_get HO_6.out [] x8_2 p353 (by first | exact q353 | exact of_decide_eq_true (zqD) | (have e_ := (Kd.N_reads' HO_6.out).1; omega))
            obtain ⟨ua353_0, uc353_0, rfl, ul353_0, ge353_0⟩ := Kd.FK_slice_open hMe353
            have hv353_0 := hcc353 0 _ rfl
            rw [Nat.add_zero, show ((Kd.slice 3 (Kd.int .i64))).sz = 1 from rfl, Nat.mul_one] at hv353_0
            replace hv353_0 := Option.some.inj (hv353_0.symm.trans hx353_0)
            injection hv353_0 with hva_ hvn_ hvc_
            rw [hva_] at ge353_0
            rw [hvc_] at ul353_0
            have HL353_0 := zA (show Kd.V (Kd.int .i64) 3 _ w.heap.size _ _ (rd_L6 y349 x8_2) from Kd.V_mk ul353_0 ge353_0)
            clear hva_ hvn_ hvc_ ge353_0 ul353_0 hcc353 hce353
            have HR353_0 := zA hi353_0
            have HC353_0 := zA hl353_0
            clear hi353_0 hl353_0; replace p353 := eq_true p353; replace q353 := eq_true q353
            go_wp2
            go_ret2
            exact ⟨zqR, zqH HB.out GE341.out GE342.out⟩
          ·
           rw [if_neg c24] at H
           exact absurd H (by simp)
         ·
          rw [if_neg c23] at H
          have c23b0 : decide (x8_2 < (y349.length : Int)) = false := decide_eq_false c23
          clear c23
          by_cases c26 : ((rd_L6 y349 0).length : Int) > 400
          ·
           rw [if_pos c26] at H
           have c26b0 : decide (400 < ((rd_L6 y349 0).length : Int)) = true := decide_eq_true c26
           have c26b1 : decide (400 < (rd_L6 y349 0).length) = true := decide_eq_true (by omega)
           clear c26
           simp only [Option.some.injEq, Prod.mk.injEq] at H
           obtain ⟨rfl, rfl⟩ := H
           go_wp2
           go_ret2
           exact ⟨zqR, zqH HB.out GE341.out GE342.out⟩
          ·
           rw [if_neg c26] at H
           have c26b0 : decide (400 < ((rd_L6 y349 0).length : Int)) = false := decide_eq_false c26
           have c26b1 : decide (400 < (rd_L6 y349 0).length) = false := decide_eq_false (by omega)
           clear c26
           have H' := zA H
           clear H
           go_wp2
           go_loopg [9] k2 (fun kq v9 w' => ∃ (x9_3 : Int), v9 = .int .i64 x9_3 ∧ Aside0 (pianolaref04_shape.l1 kq y349 ((rd_L6 y349 0).length : Int) x9_3 = some (r1, r2)) ∧ Aside0 (kq ≤ k2) ∧ Aside0 (Kd.N (Kd.slice 3 (Kd.int .i64)) 30 w' w.heap.size (fun k_ => ((P1_0_ k_ ∨ P1_1_ k_) ∨ w.heap.size ≤ k_) ∧ k_ ≠ gb341 ∧ k_ ≠ gb342) (.slice (some ad352) y349.length co22) y349) ∧ Aside0 (Kd.V (Kd.slice 3 (Kd.int .i64)) 30 w' w.heap.size (fun k_ => ((P1_0_ k_ ∨ P1_1_ k_) ∨ w.heap.size ≤ k_) ∧ some k_ ≠ ((.slice (some ad352) y349.length co22) : Value).ownBlock ∧ k_ ≠ gb341 ∧ k_ ≠ gb342) (.slice A1_0 l1_0.length c1_0) l1_0) ∧ Aside0 (Kd.V (Kd.slice 3 (Kd.int .i64)) 30 w' w.heap.size (fun k_ => ((P1_0_ k_ ∨ P1_1_ k_) ∨ w.heap.size ≤ k_) ∧ some k_ ≠ ((.slice (some ad352) y349.length co22) : Value).ownBlock ∧ k_ ≠ gb341 ∧ k_ ≠ gb342) (.slice A1_1 l1_1.length c1_1) l1_1) ∧ Aside0 (w'.heap[gb341]? = some (.cells #[(.slice A0_0 l0_0.length c0_0), (.slice A0_1 l0_1.length c0_1)] 44 (0, 0))) ∧ Aside0 (w'.heap[gb342]? = some (.cells #[(.slice A1_0 l1_0.length c1_0), (.slice A1_1 l1_1.length c1_1)] 61 (0, 0))) ∧ Aside0 (Kd.C (Kd.int .i64) w' A352_0 (rd_L6 y349 0).length (rd_L6 y349 0)) ∧ Aside0 (Below w.heap.size w w'))
           case atStart => exact ⟨(0), zqQ, H', ⟨Nat.le_refl _⟩, ⟨zqN HO_6.out⟩, ⟨by (with_reducible repeat (first | apply Kd.V_alloc | apply Kd.V_drewN | apply Kd.V_drew)); exact HO_343000.out⟩, ⟨by (with_reducible repeat (first | apply Kd.V_alloc | apply Kd.V_drewN | apply Kd.V_drew)); exact HO_343001.out⟩, ⟨zqB BK341.out⟩, ⟨zqB BK342.out⟩, ⟨by repeat (first | (with_reducible exact HR352_0.out) | (with_reducible refine Kd.C_alloc ?_ _) | (with_reducible refine Kd.C_drewN ?_ _) | (with_reducible refine Kd.C_drew ?_) | exact HR352_0.out)⟩, ⟨zqH HB.out GE341.out GE342.out⟩⟩
           case round =>
            clear H'
            try clear c1
            try clear c2
            try clear p2
            try clear c3
            try clear p3
            try clear q3
            try clear hx3
            try clear qi3
            try clear c6
            try clear c6b0
            try clear c6b1
            try clear c6b2
            try clear p6
            try clear c7
            try clear c10
            try clear c13
            try clear c14
            try clear c15
            try clear c16
            try clear c16b0
            try clear c16b1
            try clear c23
            try clear c23b0
            try clear c24
            try clear c24b0
            try clear c25
            try clear c25b0
            try clear c25b1
            try clear c25b2
            try clear c26
            try clear c26b0
            try clear c26b1
            try clear hcz11_0
            try clear hcz11_1
            try clear hcz12_0
            try clear hcz12_1
            try clear hcz8_0
            try clear hcz8_1
            try clear hcz9_0
            try clear hcz9_1
            try clear hfz11_0
            try clear hfz11_1
            try clear hfz12_0
            try clear hfz12_1
            try clear hfz8_0
            try clear hfz8_1
            try clear hfz9_0
            try clear hfz9_1
            try clear hx352_0
            try clear hx353_0
            try clear p2
            try clear p3
            try clear p352
            try clear p353
            try clear q3
            try clear q352
            try clear q353
            obtain ⟨x9_3, rfl, HA, HK3, HO_6, HO_343000, HO_343001, BK341, BK342, HR352_0, HB⟩ := hrel
            cases gk with
            | zero => exact absurd HA.out (by simp [pianolaref04_shape.l1])
            | succ k3 =>
             have H := HA.out
             clear HA
             simp only [pianolaref04_shape.l1] at H
             by_cases c27 : x9_3 < (y349.length : Int)
             ·
              rw [if_pos c27] at H
              have c27b0 : decide (x9_3 < (y349.length : Int)) = true := decide_eq_true c27
              clear c27
              have H' := zA H
              clear H
              go_wp2
              go_loopg [10] k3 (fun kq v10 w' => ∃ (x10_4 : Int), v10 = .int .i64 x10_4 ∧ Aside0 (pianolaref04_shape.l2 kq y349 ((rd_L6 y349 0).length : Int) x9_3 x10_4 = some (r1, r2)) ∧ Aside0 (kq ≤ k3) ∧ Aside0 (Kd.N (Kd.slice 3 (Kd.int .i64)) 30 w' w.heap.size (fun k_ => ((P1_0_ k_ ∨ P1_1_ k_) ∨ w.heap.size ≤ k_) ∧ k_ ≠ gb341 ∧ k_ ≠ gb342) (.slice (some ad352) y349.length co22) y349) ∧ Aside0 (Kd.V (Kd.slice 3 (Kd.int .i64)) 30 w' w.heap.size (fun k_ => ((P1_0_ k_ ∨ P1_1_ k_) ∨ w.heap.size ≤ k_) ∧ some k_ ≠ ((.slice (some ad352) y349.length co22) : Value).ownBlock ∧ k_ ≠ gb341 ∧ k_ ≠ gb342) (.slice A1_0 l1_0.length c1_0) l1_0) ∧ Aside0 (Kd.V (Kd.slice 3 (Kd.int .i64)) 30 w' w.heap.size (fun k_ => ((P1_0_ k_ ∨ P1_1_ k_) ∨ w.heap.size ≤ k_) ∧ some k_ ≠ ((.slice (some ad352) y349.length co22) : Value).ownBlock ∧ k_ ≠ gb341 ∧ k_ ≠ gb342) (.slice A1_1 l1_1.length c1_1) l1_1) ∧ Aside0 (w'.heap[gb341]? = some (.cells #[(.slice A0_0 l0_0.length c0_0), (.slice A0_1 l0_1.length c0_1)] 44 (0, 0))) ∧ Aside0 (w'.heap[gb342]? = some (.cells #[(.slice A1_0 l1_0.length c1_0), (.slice A1_1 l1_1.length c1_1)] 61 (0, 0))) ∧ Aside0 (Kd.C (Kd.int .i64) w' A352_0 (rd_L6 y349 0).length (rd_L6 y349 0)) ∧ Aside0 (Below w.heap.size w w'))
              case atStart => exact ⟨(0), zqQ, H', ⟨Nat.le_refl _⟩, ⟨zqN HO_6.out⟩, ⟨by (with_reducible repeat (first | apply Kd.V_alloc | apply Kd.V_drewN | apply Kd.V_drew)); exact HO_343000.out⟩, ⟨by (with_reducible repeat (first | apply Kd.V_alloc | apply Kd.V_drewN | apply Kd.V_drew)); exact HO_343001.out⟩, ⟨zqB BK341.out⟩, ⟨zqB BK342.out⟩, ⟨by repeat (first | (with_reducible exact HR352_0.out) | (with_reducible refine Kd.C_alloc ?_ _) | (with_reducible refine Kd.C_drewN ?_ _) | (with_reducible refine Kd.C_drew ?_) | exact HR352_0.out)⟩, ⟨zqH HB.out GE341.out GE342.out⟩⟩
              case round =>
               clear H'
               try clear c1
               try clear c2
               try clear p2
               try clear c3
               try clear p3
               try clear q3
               try clear hx3
               try clear qi3
               try clear c6
               try clear c6b0
               try clear c6b1
               try clear c6b2
               try clear p6
               try clear c7
               try clear c10
               try clear c13
               try clear c14
               try clear c15
               try clear c16
               try clear c16b0
               try clear c16b1
               try clear c23
               try clear c23b0
               try clear c24
               try clear c24b0
               try clear c25
               try clear c25b0
               try clear c25b1
               try clear c25b2
               try clear c26
               try clear c26b0
               try clear c26b1
               try clear c27
               try clear c27b0
               try clear hcz11_0
               try clear hcz11_1
               try clear hcz12_0
               try clear hcz12_1
               try clear hcz8_0
               try clear hcz8_1
               try clear hcz9_0
               try clear hcz9_1
               try clear hfz11_0
               try clear hfz11_1
               try clear hfz12_0
               try clear hfz12_1
               try clear hfz8_0
               try clear hfz8_1
               try clear hfz9_0
               try clear hfz9_1
               try clear hx352_0
               try clear hx353_0
               try clear p2
               try clear p3
               try clear p352
               try clear p353
               try clear p6
               try clear q3
               try clear q352
               try clear q353
               obtain ⟨x10_4, rfl, HA, HK4, HO_6, HO_343000, HO_343001, BK341, BK342, HR352_0, HB⟩ := hrel
               cases gk with
               | zero => exact absurd HA.out (by simp [pianolaref04_shape.l2])
               | succ k4 =>
                have H := HA.out
                clear HA
                simp only [pianolaref04_shape.l2] at H
                by_cases c28 : x10_4 < ((rd_L6 y349 0).length : Int)
                ·
                 rw [if_pos c28] at H
                 have c28b0 : decide (x10_4 < ((rd_L6 y349 0).length : Int)) = true := decide_eq_true c28
                 clear c28
                 by_cases c29 : 0 ≤ x9_3
                 ·
                  rw [if_pos c29] at H
                  have c29b0 : decide (0 ≤ x9_3) = true := decide_eq_true c29
                  clear c29
                  by_cases c30 : x9_3 < (y349.length : Int)
                  ·
                   rw [if_pos c30] at H
                   have c30b0 : decide (x9_3 < (y349.length : Int)) = true := decide_eq_true c30
                   clear c30
                   by_cases c31 : 0 ≤ x10_4
                   ·
                    rw [if_pos c31] at H
                    have c31b0 : decide (0 ≤ x10_4) = true := decide_eq_true c31
                    clear c31
                    by_cases c32 : x10_4 < ((rd_L6 y349 x9_3).length : Int)
                    ·
                     rw [if_pos c32] at H
                     have c32b0 : decide (x10_4 < ((rd_L6 y349 x9_3).length : Int)) = true := decide_eq_true c32
                     clear c32
                     replace H := Option.bind_eq_some_iff.mp H
                     obtain ⟨t356, A330, H⟩ := H
                     replace H : (if t356 = true then (pianolaref04_shape.l2 k4 y349 ((rd_L6 y349 0).length : Int) x9_3 (wrap64 (x10_4 + 1))) else (some (0, 3))) = some (r1, r2) := H
                     have A33 := zA A330
                     clear A330
                     by_cases c34 : t356 = true
                     ·
                      subst c34
                      have H1 : (pianolaref04_shape.l2 k4 y349 ((rd_L6 y349 0).length : Int) x9_3 (wrap64 (x10_4 + 1))) = some (r1, r2) := by rw [if_pos rfl] at H; exact H
                      clear H; have H := H1; clear H1
                      have H' := zA H
                      clear H
                      have p354 : 0 ≤ (x9_3 : Int) := of_decide_eq_true (zqD)
                      have q354 : x9_3 < (y349.length : Int) := of_decide_eq_true (zqD)
                      obtain ⟨ad354, A354_0, c354_0, e354, hx354_0, hl354_0, hi354_0⟩ := at_L6 (Kd.N_reads' HO_6.out).2.2 x9_3 p354 q354
                      obtain rfl : ad352 = ad354 := (by injection e354)
                      obtain ⟨ce354, hce354, hMe354, hcc354⟩ := Kd.N_get HO_6.out [] x9_3 p354 (by first | exact q354 | exact of_decide_eq_true (zqD) | (have e_ := (Kd.N_reads' HO_6.out).1; omega))
                      obtain ⟨ua354_0, uc354_0, rfl, ul354_0, ge354_0⟩ := Kd.FK_slice_open hMe354
                      have hv354_0 := hcc354 0 _ rfl
                      rw [Nat.add_zero, show ((Kd.slice 3 (Kd.int .i64))).sz = 1 from rfl, Nat.mul_one] at hv354_0
                      replace hv354_0 := Option.some.inj (hv354_0.symm.trans hx354_0)
                      injection hv354_0 with hva_ hvn_ hvc_
                      rw [hva_] at ge354_0
                      rw [hvc_] at ul354_0
                      have HL354_0 := zA (show Kd.V (Kd.int .i64) 3 _ w.heap.size _ _ (rd_L6 y349 x9_3) from Kd.V_mk ul354_0 ge354_0)
                      clear hva_ hvn_ hvc_ ge354_0 ul354_0 hcc354 hce354
                      have HR354_0 := zA hi354_0
                      have HC354_0 := zA hl354_0
                      clear hi354_0 hl354_0; replace p354 := eq_true p354; replace q354 := eq_true q354
                      have p355 : 0 ≤ (x10_4 : Int) := of_decide_eq_true (zqD)
                      have q355 : x10_4 < ((rd_L6 y349 x9_3).length : Int) := of_decide_eq_true (zqD)
                      obtain ⟨ad355, e355, hx355_0⟩ := Kd.at_int (by repeat (first | (with_reducible exact HR354_0.out) | (with_reducible refine Kd.C_alloc ?_ _) | (with_reducible refine Kd.C_drewN ?_ _) | (with_reducible refine Kd.C_drew ?_) | exact HR354_0.out)) x10_4 p355 q355
                      cases e355; replace p355 := eq_true p355; replace q355 := eq_true q355
                      go_wp2_with (first | ((with_reducible refine gate_callee (f := 61) rfl ?_); refine goesL_ (some 71) rfl rfl Try.func61 (by kernel_rfl) rfl #[.int .i64 (rd (rd_L6 y349 x9_3) x10_4), .int .i64 0, .int .i64 1000000] rfl zqE ?_; (with_reducible refine (pianolaref04_is.calls (rd (rd_L6 y349 x9_3) x10_4) 0 1000000 true _ A33.out).mono ?_); rintro e w' ⟨rfl, ⟨nd, rfl⟩⟩; refine ⟨_, rfl, ?_⟩))
                      go_roundg k4
                      case measure => have := HJ2.out; have := HK2.out; have := HK3.out; have := HK4.out; omega
                      case rel => exact ⟨(wrap64 (x10_4 + 1)), zqQ, H', ⟨by have := HJ2.out; have := HK2.out; have := HK3.out; have := HK4.out; omega⟩, ⟨zqN HO_6.out⟩, ⟨by (with_reducible repeat (first | apply Kd.V_alloc | apply Kd.V_drewN | apply Kd.V_drew)); exact HO_343000.out⟩, ⟨by (with_reducible repeat (first | apply Kd.V_alloc | apply Kd.V_drewN | apply Kd.V_drew)); exact HO_343001.out⟩, ⟨zqB BK341.out⟩, ⟨zqB BK342.out⟩, ⟨by repeat (first | (with_reducible exact HR352_0.out) | (with_reducible refine Kd.C_alloc ?_ _) | (with_reducible refine Kd.C_drewN ?_ _) | (with_reducible refine Kd.C_drew ?_) | exact HR352_0.out)⟩, ⟨zqH HB.out GE341.out GE342.out⟩⟩
                     ·
                      replace c34 := Bool.eq_false_iff.mpr c34
                      subst c34
                      have H1 : (some (0, 3)) = some (r1, r2) := by rw [if_neg (show ¬ (false = true) by decide)] at H; exact H
                      clear H; have H := H1; clear H1
                      simp only [Option.some.injEq, Prod.mk.injEq] at H
                      obtain ⟨rfl, rfl⟩ := H
                      have p354 : 0 ≤ (x9_3 : Int) := of_decide_eq_true (zqD)
                      have q354 : x9_3 < (y349.length : Int) := of_decide_eq_true (zqD)
                      obtain ⟨ad354, A354_0, c354_0, e354, hx354_0, hl354_0, hi354_0⟩ := at_L6 (Kd.N_reads' HO_6.out).2.2 x9_3 p354 q354
                      obtain rfl : ad352 = ad354 := (by injection e354)
                      obtain ⟨ce354, hce354, hMe354, hcc354⟩ := Kd.N_get HO_6.out [] x9_3 p354 (by first | exact q354 | exact of_decide_eq_true (zqD) | (have e_ := (Kd.N_reads' HO_6.out).1; omega))
                      obtain ⟨ua354_0, uc354_0, rfl, ul354_0, ge354_0⟩ := Kd.FK_slice_open hMe354
                      have hv354_0 := hcc354 0 _ rfl
                      rw [Nat.add_zero, show ((Kd.slice 3 (Kd.int .i64))).sz = 1 from rfl, Nat.mul_one] at hv354_0
                      replace hv354_0 := Option.some.inj (hv354_0.symm.trans hx354_0)
                      injection hv354_0 with hva_ hvn_ hvc_
                      rw [hva_] at ge354_0
                      rw [hvc_] at ul354_0
                      have HL354_0 := zA (show Kd.V (Kd.int .i64) 3 _ w.heap.size _ _ (rd_L6 y349 x9_3) from Kd.V_mk ul354_0 ge354_0)
                      clear hva_ hvn_ hvc_ ge354_0 ul354_0 hcc354 hce354
                      have HR354_0 := zA hi354_0
                      have HC354_0 := zA hl354_0
                      clear hi354_0 hl354_0; replace p354 := eq_true p354; replace q354 := eq_true q354
                      have p355 : 0 ≤ (x10_4 : Int) := of_decide_eq_true (zqD)
                      have q355 : x10_4 < ((rd_L6 y349 x9_3).length : Int) := of_decide_eq_true (zqD)
                      obtain ⟨ad355, e355, hx355_0⟩ := Kd.at_int (by repeat (first | (with_reducible exact HR354_0.out) | (with_reducible refine Kd.C_alloc ?_ _) | (with_reducible refine Kd.C_drewN ?_ _) | (with_reducible refine Kd.C_drew ?_) | exact HR354_0.out)) x10_4 p355 q355
                      cases e355; replace p355 := eq_true p355; replace q355 := eq_true q355
                      go_wp2_with (first | ((with_reducible refine gate_callee (f := 61) rfl ?_); refine goesL_ (some 71) rfl rfl Try.func61 (by kernel_rfl) rfl #[.int .i64 (rd (rd_L6 y349 x9_3) x10_4), .int .i64 0, .int .i64 1000000] rfl zqE ?_; (with_reducible refine (pianolaref04_is.calls (rd (rd_L6 y349 x9_3) x10_4) 0 1000000 false _ A33.out).mono ?_); rintro e w' ⟨rfl, ⟨nd, rfl⟩⟩; refine ⟨_, rfl, ?_⟩))
                      go_ret2
                      exact ⟨zqR, zqH HB.out GE341.out GE342.out⟩
                    ·
                     rw [if_neg c32] at H
                     exact absurd H (by simp)
                   ·
                    rw [if_neg c31] at H
                    exact absurd H (by simp)
                  ·
                   rw [if_neg c30] at H
                   exact absurd H (by simp)
                 ·
                  rw [if_neg c29] at H
                  exact absurd H (by simp)
                ·
                 rw [if_neg c28] at H
                 have c28b0 : decide (x10_4 < ((rd_L6 y349 0).length : Int)) = false := decide_eq_false c28
                 clear c28
                 have H' := zA H
                 clear H
                 go_wp2
                 go_roundg k4
                 case measure => have := HJ2.out; have := HK2.out; have := HK3.out; have := HK4.out; omega
                 case rel => exact ⟨(wrap64 (x9_3 + 1)), zqQ, H', ⟨by have := HJ2.out; have := HK2.out; have := HK3.out; have := HK4.out; omega⟩, ⟨zqN HO_6.out⟩, ⟨by (with_reducible repeat (first | apply Kd.V_alloc | apply Kd.V_drewN | apply Kd.V_drew)); exact HO_343000.out⟩, ⟨by (with_reducible repeat (first | apply Kd.V_alloc | apply Kd.V_drewN | apply Kd.V_drew)); exact HO_343001.out⟩, ⟨zqB BK341.out⟩, ⟨zqB BK342.out⟩, ⟨by repeat (first | (with_reducible exact HR352_0.out) | (with_reducible refine Kd.C_alloc ?_ _) | (with_reducible refine Kd.C_drewN ?_ _) | (with_reducible refine Kd.C_drew ?_) | exact HR352_0.out)⟩, ⟨zqH HB.out GE341.out GE342.out⟩⟩
             ·
              rw [if_neg c27] at H
              have c27b0 : decide (x9_3 < (y349.length : Int)) = false := decide_eq_false c27
              clear c27
              simp only [Option.some.injEq, Prod.mk.injEq] at H
              obtain ⟨rfl, rfl⟩ := H
              go_wp2
              go_ret2
              exact ⟨zqR, zqH HB.out GE341.out GE342.out⟩
      ·
       rw [if_neg c16] at H
       exact absurd H (by simp)
     ·
      rw [if_neg c15] at H
      exact absurd H (by simp)
    ·
     rw [if_neg c14] at H
     exact absurd H (by simp)
mutual
def pianolaref04_keeps.l0 : Nat → List (S90) → List Int → Int → Option (Bool)
  | 0, _, _, _ => none
  | k + 1, x0, x1, x5 => if x5 < (x0.length : Int) then (pianolaref04_keeps.l1 k x0 x1 x5 0) else (some true)
def pianolaref04_keeps.l1 : Nat → List (S90) → List Int → Int → Int → Option (Bool)
  | 0, _, _, _, _ => none
  | k + 1, x0, x1, x5, x6 => if x6 < (x1.length : Int) then (pianolaref04_keeps.l2 k x0 x1 x5 x6 0 x6) else (pianolaref04_keeps.l0 k x0 x1 (wrap64 (x5 + 1)))
def pianolaref04_keeps.l2 : Nat → List (S90) → List Int → Int → Int → Int → Int → Option (Bool)
  | 0, _, _, _, _, _, _ => none
  | k + 1, x0, x1, x5, x6, x7, x8 => if x8 < (x1.length : Int) then (if 0 ≤ x5 then (if x5 < (x0.length : Int) then (if x8 < (wrap64 (x6 + ((rd_T90 x0 x5).f0))) then (if 0 ≤ x8 then (pianolaref04_keeps.l2 k x0 x1 x5 x6 (wrap64 (x7 + (rd x1 x8))) (wrap64 (x8 + 1))) else (none)) else (if x7 > ((rd_T90 x0 x5).f1) then (some false) else (pianolaref04_keeps.l1 k x0 x1 x5 (wrap64 (x6 + 1))))) else (none)) else (none)) else (if 0 ≤ x5 then (if x5 < (x0.length : Int) then (if x7 > ((rd_T90 x0 x5).f1) then (some false) else (pianolaref04_keeps.l1 k x0 x1 x5 (wrap64 (x6 + 1)))) else (none)) else (none))
end
def pianolaref04_keeps.f (k : Nat) (l0 : List (S90)) (l1 : List Int) : Option (Bool) := pianolaref04_keeps.l0 k l0 l1 0
set_option maxHeartbeats 8000000 in
set_option maxRecDepth 100000 in
theorem pianolaref04_keeps.calls (k : Nat) (A0 : Option Addr) (c0 : Nat) (l0 : List (S90)) (A1 : Option Addr) (c1 : Nat) (l1 : List Int) (r : Bool) (w : World) (hr0 : Kd.C k90 w A0 l0.length l0) (hc0 : l0.length ≤ c0) (hr1 : Kd.C (Kd.int .i64) w A1 l1.length l1) (hc1 : l1.length ≤ c1) (h : pianolaref04_keeps.f k l0 l1 = some r) :
  Calls Try.prog 76 #[.slice A0 l0.length c0, .slice A1 l1.length c1] w fun e w' => e = .returned (.bool r) ∧ Drawn0 w w' := by
 have HR0 := zA hr0
 have HC0 := zA hc0
 clear hr0 hc0
 have HR1 := zA hr1
 have HC1 := zA hc1
 clear hr1 hc1
 have H : (pianolaref04_keeps.l0 k l0 l1 0) = some r := h
 clear h
 have H' := zA H
 clear H
 go_enter Try.func76, Try.ntmps76
 go_wp2
 go_loopg [5] k (fun kq v5 w' => ∃ (x5_1 : Int), v5 = .int .i64 x5_1 ∧ Aside0 (pianolaref04_keeps.l0 kq l0 l1 x5_1 = some r) ∧ Aside0 (kq ≤ k) ∧ Drawn0 w w')
 case atStart => exact ⟨(0), zqQ, H', ⟨Nat.le_refl _⟩, by repeat (first | exact Drawn0.refl _ | apply Drawn0.step)⟩
 case round =>
  clear H'
  try clear c1
  try clear p2
  obtain ⟨x5_1, rfl, HA, HK1, ⟨m1, rfl⟩⟩ := hrel
  cases gk with
  | zero => exact absurd HA.out (by simp [pianolaref04_keeps.l0])
  | succ k1 =>
   have H := HA.out
   clear HA
   simp only [pianolaref04_keeps.l0] at H
   by_cases c3 : x5_1 < (l0.length : Int)
   ·
    rw [if_pos c3] at H
    have c3b0 : decide (x5_1 < (l0.length : Int)) = true := decide_eq_true c3
    clear c3
    have H' := zA H
    clear H
    go_wp2
    go_loopg [6] k1 (fun kq v6 w' => ∃ (x6_2 : Int), v6 = .int .i64 x6_2 ∧ Aside0 (pianolaref04_keeps.l1 kq l0 l1 x5_1 x6_2 = some r) ∧ Aside0 (kq ≤ k1) ∧ Drawn0 w w')
    case atStart => exact ⟨(0), zqQ, H', ⟨Nat.le_refl _⟩, by repeat (first | exact Drawn0.refl _ | apply Drawn0.step)⟩
    case round =>
     clear H'
     try clear c1
     try clear p2
     try clear c3
     try clear c3b0
     try clear p2
     obtain ⟨x6_2, rfl, HA, HK2, ⟨m2, rfl⟩⟩ := hrel
     cases gk with
     | zero => exact absurd HA.out (by simp [pianolaref04_keeps.l1])
     | succ k2 =>
      have H := HA.out
      clear HA
      simp only [pianolaref04_keeps.l1] at H
      by_cases c4 : x6_2 < (l1.length : Int)
      ·
       rw [if_pos c4] at H
       have c4b0 : decide (x6_2 < (l1.length : Int)) = true := decide_eq_true c4
       clear c4
       have H' := zA H
       clear H
       go_wp2
       go_loopg [7, 8] k2 (fun kq v7 v8 w' => ∃ (x7_3 : Int) (x8_3 : Int), v7 = .int .i64 x7_3 ∧ v8 = .int .i64 x8_3 ∧ Aside0 (pianolaref04_keeps.l2 kq l0 l1 x5_1 x6_2 x7_3 x8_3 = some r) ∧ Aside0 (kq ≤ k2) ∧ Drawn0 w w')
       case atStart => exact ⟨(0), (x6_2), zqQ, zqQ, H', ⟨Nat.le_refl _⟩, by repeat (first | exact Drawn0.refl _ | apply Drawn0.step)⟩
       case round =>
        clear H'
        try clear c1
        try clear p2
        try clear c3
        try clear c3b0
        try clear c4
        try clear c4b0
        try clear p2
        obtain ⟨x7_3, x8_3, rfl, rfl, HA, HK3, ⟨m3, rfl⟩⟩ := hrel
        cases gk with
        | zero => exact absurd HA.out (by simp [pianolaref04_keeps.l2])
        | succ k3 =>
         have H := HA.out
         clear HA
         simp only [pianolaref04_keeps.l2] at H
         by_cases c5 : x8_3 < (l1.length : Int)
         ·
          rw [if_pos c5] at H
          have c5b0 : decide (x8_3 < (l1.length : Int)) = true := decide_eq_true c5
          clear c5
          by_cases c6 : 0 ≤ x5_1
          ·
           rw [if_pos c6] at H
           have c6b0 : decide (0 ≤ x5_1) = true := decide_eq_true c6
           clear c6
           by_cases c7 : x5_1 < (l0.length : Int)
           ·
            rw [if_pos c7] at H
            have c7b0 : decide (x5_1 < (l0.length : Int)) = true := decide_eq_true c7
            clear c7
            by_cases c8 : x8_3 < (wrap64 (x6_2 + ((rd_T90 l0 x5_1).f0)))
            ·
             rw [if_pos c8] at H
             have c8b0 : decide (x8_3 < (wrap64 (x6_2 + ((rd_T90 l0 x5_1).f0)))) = true := decide_eq_true c8
             clear c8
             by_cases c9 : 0 ≤ x8_3
             ·
              rw [if_pos c9] at H
              have c9b0 : decide (0 ≤ x8_3) = true := decide_eq_true c9
              clear c9
              have H' := zA H
              clear H
              have p357 : 0 ≤ (x5_1 : Int) := of_decide_eq_true (zqD)
              have q357 : x5_1 < (l0.length : Int) := of_decide_eq_true (zqD)
              obtain ⟨ad357, e357, hx357_0, hx357_1⟩ := at_T90 HR0.out x5_1 p357 q357
              cases e357; replace p357 := eq_true p357; replace q357 := eq_true q357
              have p358 : 0 ≤ (x8_3 : Int) := of_decide_eq_true (zqD)
              have q358 : x8_3 < (l1.length : Int) := of_decide_eq_true (zqD)
              obtain ⟨ad358, e358, hx358_0⟩ := Kd.at_int HR1.out x8_3 p358 q358
              cases e358; replace p358 := eq_true p358; replace q358 := eq_true q358
              go_wp2
              go_roundg k3
              case measure => have := HK1.out; have := HK2.out; have := HK3.out; omega
              case rel => exact ⟨(wrap64 (x7_3 + (rd l1 x8_3))), (wrap64 (x8_3 + 1)), zqQ, zqQ, H', ⟨by have := HK1.out; have := HK2.out; have := HK3.out; omega⟩, by repeat (first | exact Drawn0.refl _ | apply Drawn0.step)⟩
             ·
              rw [if_neg c9] at H
              exact absurd H (by simp)
            ·
             rw [if_neg c8] at H
             have c8b0 : decide (x8_3 < (wrap64 (x6_2 + ((rd_T90 l0 x5_1).f0)))) = false := decide_eq_false c8
             clear c8
             by_cases c10 : x7_3 > ((rd_T90 l0 x5_1).f1)
             ·
              rw [if_pos c10] at H
              have c10b0 : decide (((rd_T90 l0 x5_1).f1) < x7_3) = true := decide_eq_true c10
              clear c10
              obtain rfl := Option.some.inj H
              have p357 : 0 ≤ (x5_1 : Int) := of_decide_eq_true (zqD)
              have q357 : x5_1 < (l0.length : Int) := of_decide_eq_true (zqD)
              obtain ⟨ad357, e357, hx357_0, hx357_1⟩ := at_T90 HR0.out x5_1 p357 q357
              cases e357; replace p357 := eq_true p357; replace q357 := eq_true q357
              have p359 : 0 ≤ (x5_1 : Int) := of_decide_eq_true (zqD)
              have q359 : x5_1 < (l0.length : Int) := of_decide_eq_true (zqD)
              obtain ⟨ad359, e359, hx359_0, hx359_1⟩ := at_T90 HR0.out x5_1 p359 q359
              obtain rfl : ad357 = ad359 := (by injection e359)
              replace p359 := eq_true p359; replace q359 := eq_true q359
              go_wp2
              go_ret
              exact ⟨by first | rfl | (simp; done) | (simp [*]; done), by repeat (first | exact Drawn0.refl _ | apply Drawn0.step)⟩
             ·
              rw [if_neg c10] at H
              have c10b0 : decide (((rd_T90 l0 x5_1).f1) < x7_3) = false := decide_eq_false c10
              clear c10
              have H' := zA H
              clear H
              have p357 : 0 ≤ (x5_1 : Int) := of_decide_eq_true (zqD)
              have q357 : x5_1 < (l0.length : Int) := of_decide_eq_true (zqD)
              obtain ⟨ad357, e357, hx357_0, hx357_1⟩ := at_T90 HR0.out x5_1 p357 q357
              cases e357; replace p357 := eq_true p357; replace q357 := eq_true q357
              have p359 : 0 ≤ (x5_1 : Int) := of_decide_eq_true (zqD)
              have q359 : x5_1 < (l0.length : Int) := of_decide_eq_true (zqD)
              obtain ⟨ad359, e359, hx359_0, hx359_1⟩ := at_T90 HR0.out x5_1 p359 q359
              obtain rfl : ad357 = ad359 := (by injection e359)
              replace p359 := eq_true p359; replace q359 := eq_true q359
              go_wp2
              go_roundg k3
              case measure => have := HK1.out; have := HK2.out; have := HK3.out; omega
              case rel => exact ⟨(wrap64 (x6_2 + 1)), zqQ, H', ⟨by have := HK1.out; have := HK2.out; have := HK3.out; omega⟩, by repeat (first | exact Drawn0.refl _ | apply Drawn0.step)⟩
           ·
            rw [if_neg c7] at H
            exact absurd H (by simp)
          ·
           rw [if_neg c6] at H
           exact absurd H (by simp)
         ·
          rw [if_neg c5] at H
          have c5b0 : decide (x8_3 < (l1.length : Int)) = false := decide_eq_false c5
          clear c5
          by_cases c11 : 0 ≤ x5_1
          ·
           rw [if_pos c11] at H
           have c11b0 : decide (0 ≤ x5_1) = true := decide_eq_true c11
           clear c11
           by_cases c12 : x5_1 < (l0.length : Int)
           ·
            rw [if_pos c12] at H
            have c12b0 : decide (x5_1 < (l0.length : Int)) = true := decide_eq_true c12
            clear c12
            by_cases c13 : x7_3 > ((rd_T90 l0 x5_1).f1)
            ·
             rw [if_pos c13] at H
             have c13b0 : decide (((rd_T90 l0 x5_1).f1) < x7_3) = true := decide_eq_true c13
             clear c13
             obtain rfl := Option.some.inj H
             have p360 : 0 ≤ (x5_1 : Int) := of_decide_eq_true (zqD)
             have q360 : x5_1 < (l0.length : Int) := of_decide_eq_true (zqD)
             obtain ⟨ad360, e360, hx360_0, hx360_1⟩ := at_T90 HR0.out x5_1 p360 q360
             cases e360; replace p360 := eq_true p360; replace q360 := eq_true q360
             go_wp2
             go_ret
             exact ⟨by first | rfl | (simp; done) | (simp [*]; done), by repeat (first | exact Drawn0.refl _ | apply Drawn0.step)⟩
            ·
             rw [if_neg c13] at H
             have c13b0 : decide (((rd_T90 l0 x5_1).f1) < x7_3) = false := decide_eq_false c13
             clear c13
             have H' := zA H
             clear H
             have p360 : 0 ≤ (x5_1 : Int) := of_decide_eq_true (zqD)
             have q360 : x5_1 < (l0.length : Int) := of_decide_eq_true (zqD)
             obtain ⟨ad360, e360, hx360_0, hx360_1⟩ := at_T90 HR0.out x5_1 p360 q360
             cases e360; replace p360 := eq_true p360; replace q360 := eq_true q360
             go_wp2
             go_roundg k3
             case measure => have := HK1.out; have := HK2.out; have := HK3.out; omega
             case rel => exact ⟨(wrap64 (x6_2 + 1)), zqQ, H', ⟨by have := HK1.out; have := HK2.out; have := HK3.out; omega⟩, by repeat (first | exact Drawn0.refl _ | apply Drawn0.step)⟩
           ·
            rw [if_neg c12] at H
            exact absurd H (by simp)
          ·
           rw [if_neg c11] at H
           exact absurd H (by simp)
      ·
       rw [if_neg c4] at H
       have c4b0 : decide (x6_2 < (l1.length : Int)) = false := decide_eq_false c4
       clear c4
       have H' := zA H
       clear H
       go_wp2
       go_roundg k2
       case measure => have := HK1.out; have := HK2.out; omega
       case rel => exact ⟨(wrap64 (x5_1 + 1)), zqQ, H', ⟨by have := HK1.out; have := HK2.out; omega⟩, by repeat (first | exact Drawn0.refl _ | apply Drawn0.step)⟩
   ·
    rw [if_neg c3] at H
    have c3b0 : decide (x5_1 < (l0.length : Int)) = false := decide_eq_false c3
    clear c3
    obtain rfl := Option.some.inj H
    go_wp2
    go_ret
    exact ⟨by first | rfl | (simp; done) | (simp [*]; done), by repeat (first | exact Drawn0.refl _ | apply Drawn0.step)⟩
mutual
def pianolaref04_has.l0 : Nat → List (S90) → List Int → Int → Option (Bool)
  | 0, _, _, _ => none
  | k + 1, x0, x1, x5 => if x5 < (x0.length : Int) then (pianolaref04_has.l1 k x0 x1 x5 0) else (some true)
def pianolaref04_has.l1 : Nat → List (S90) → List Int → Int → Int → Option (Bool)
  | 0, _, _, _, _ => none
  | k + 1, x0, x1, x5, x6 => if 0 ≤ x5 then (if x5 < (x0.length : Int) then (if (wrap64 (x6 + ((rd_T90 x0 x5).f0))) ≤ (x1.length : Int) then (pianolaref04_has.l2 k x0 x1 x5 x6 0 x6) else (pianolaref04_has.l0 k x0 x1 (wrap64 (x5 + 1)))) else (none)) else (none)
def pianolaref04_has.l2 : Nat → List (S90) → List Int → Int → Int → Int → Int → Option (Bool)
  | 0, _, _, _, _, _, _ => none
  | k + 1, x0, x1, x5, x6, x7, x8 => if 0 ≤ x5 then (if x5 < (x0.length : Int) then (if x8 < (wrap64 (x6 + ((rd_T90 x0 x5).f0))) then (if 0 ≤ x8 then (if x8 < (x1.length : Int) then (pianolaref04_has.l2 k x0 x1 x5 x6 (wrap64 (x7 + (rd x1 x8))) (wrap64 (x8 + 1))) else (none)) else (none)) else (if x7 < ((rd_T90 x0 x5).f1) then (some false) else (pianolaref04_has.l1 k x0 x1 x5 (wrap64 (x6 + 1))))) else (none)) else (none)
end
def pianolaref04_has.f (k : Nat) (l0 : List (S90)) (l1 : List Int) : Option (Bool) := pianolaref04_has.l0 k l0 l1 0
set_option maxHeartbeats 8000000 in
set_option maxRecDepth 100000 in
theorem pianolaref04_has.calls (k : Nat) (A0 : Option Addr) (c0 : Nat) (l0 : List (S90)) (A1 : Option Addr) (c1 : Nat) (l1 : List Int) (r : Bool) (w : World) (hr0 : Kd.C k90 w A0 l0.length l0) (hc0 : l0.length ≤ c0) (hr1 : Kd.C (Kd.int .i64) w A1 l1.length l1) (hc1 : l1.length ≤ c1) (h : pianolaref04_has.f k l0 l1 = some r) :
  Calls Try.prog 77 #[.slice A0 l0.length c0, .slice A1 l1.length c1] w fun e w' => e = .returned (.bool r) ∧ Drawn0 w w' := by
 have HR0 := zA hr0
 have HC0 := zA hc0
 clear hr0 hc0
 have HR1 := zA hr1
 have HC1 := zA hc1
 clear hr1 hc1
 have H : (pianolaref04_has.l0 k l0 l1 0) = some r := h
 clear h
 have H' := zA H
 clear H
 go_enter Try.func77, Try.ntmps77
 go_wp2
 go_loopg [5] k (fun kq v5 w' => ∃ (x5_1 : Int), v5 = .int .i64 x5_1 ∧ Aside0 (pianolaref04_has.l0 kq l0 l1 x5_1 = some r) ∧ Aside0 (kq ≤ k) ∧ Drawn0 w w')
 case atStart => exact ⟨(0), zqQ, H', ⟨Nat.le_refl _⟩, by repeat (first | exact Drawn0.refl _ | apply Drawn0.step)⟩
 case round =>
  clear H'
  try clear c1
  try clear p2
  obtain ⟨x5_1, rfl, HA, HK1, ⟨m1, rfl⟩⟩ := hrel
  cases gk with
  | zero => exact absurd HA.out (by simp [pianolaref04_has.l0])
  | succ k1 =>
   have H := HA.out
   clear HA
   simp only [pianolaref04_has.l0] at H
   by_cases c3 : x5_1 < (l0.length : Int)
   ·
    rw [if_pos c3] at H
    have c3b0 : decide (x5_1 < (l0.length : Int)) = true := decide_eq_true c3
    clear c3
    have H' := zA H
    clear H
    go_wp2
    go_loopg [6] k1 (fun kq v6 w' => ∃ (x6_2 : Int), v6 = .int .i64 x6_2 ∧ Aside0 (pianolaref04_has.l1 kq l0 l1 x5_1 x6_2 = some r) ∧ Aside0 (kq ≤ k1) ∧ Drawn0 w w')
    case atStart => exact ⟨(0), zqQ, H', ⟨Nat.le_refl _⟩, by repeat (first | exact Drawn0.refl _ | apply Drawn0.step)⟩
    case round =>
     clear H'
     try clear c1
     try clear p2
     try clear c3
     try clear c3b0
     try clear p2
     obtain ⟨x6_2, rfl, HA, HK2, ⟨m2, rfl⟩⟩ := hrel
     cases gk with
     | zero => exact absurd HA.out (by simp [pianolaref04_has.l1])
     | succ k2 =>
      have H := HA.out
      clear HA
      simp only [pianolaref04_has.l1] at H
      by_cases c4 : 0 ≤ x5_1
      ·
       rw [if_pos c4] at H
       have c4b0 : decide (0 ≤ x5_1) = true := decide_eq_true c4
       clear c4
       by_cases c5 : x5_1 < (l0.length : Int)
       ·
        rw [if_pos c5] at H
        have c5b0 : decide (x5_1 < (l0.length : Int)) = true := decide_eq_true c5
        clear c5
        by_cases c6 : (wrap64 (x6_2 + ((rd_T90 l0 x5_1).f0))) ≤ (l1.length : Int)
        ·
         rw [if_pos c6] at H
         have c6b0 : decide ((wrap64 (x6_2 + ((rd_T90 l0 x5_1).f0))) ≤ (l1.length : Int)) = true := decide_eq_true c6
         clear c6
         have H' := zA H
         clear H
         have p361 : 0 ≤ (x5_1 : Int) := of_decide_eq_true (zqD)
         have q361 : x5_1 < (l0.length : Int) := of_decide_eq_true (zqD)
         obtain ⟨ad361, e361, hx361_0, hx361_1⟩ := at_T90 HR0.out x5_1 p361 q361
         cases e361; replace p361 := eq_true p361; replace q361 := eq_true q361
         go_wp2
         go_loopg [7, 8] k2 (fun kq v7 v8 w' => ∃ (x7_3 : Int) (x8_3 : Int), v7 = .int .i64 x7_3 ∧ v8 = .int .i64 x8_3 ∧ Aside0 (pianolaref04_has.l2 kq l0 l1 x5_1 x6_2 x7_3 x8_3 = some r) ∧ Aside0 (kq ≤ k2) ∧ Drawn0 w w')
         case atStart => exact ⟨(0), (x6_2), zqQ, zqQ, H', ⟨Nat.le_refl _⟩, by repeat (first | exact Drawn0.refl _ | apply Drawn0.step)⟩
         case round =>
          clear H'
          try clear c1
          try clear p2
          try clear c3
          try clear c3b0
          try clear p3
          try clear q3
          try clear hx3
          try clear c4
          try clear c4b0
          try clear c5
          try clear c5b0
          try clear c6
          try clear c6b0
          try clear p6
          try clear hx361_0
          try clear hx361_1
          try clear p2
          try clear p361
          try clear q361
          obtain ⟨x7_3, x8_3, rfl, rfl, HA, HK3, ⟨m3, rfl⟩⟩ := hrel
          cases gk with
          | zero => exact absurd HA.out (by simp [pianolaref04_has.l2])
          | succ k3 =>
           have H := HA.out
           clear HA
           simp only [pianolaref04_has.l2] at H
           by_cases c7 : 0 ≤ x5_1
           ·
            rw [if_pos c7] at H
            have c7b0 : decide (0 ≤ x5_1) = true := decide_eq_true c7
            clear c7
            by_cases c8 : x5_1 < (l0.length : Int)
            ·
             rw [if_pos c8] at H
             have c8b0 : decide (x5_1 < (l0.length : Int)) = true := decide_eq_true c8
             clear c8
             by_cases c9 : x8_3 < (wrap64 (x6_2 + ((rd_T90 l0 x5_1).f0)))
             ·
              rw [if_pos c9] at H
              have c9b0 : decide (x8_3 < (wrap64 (x6_2 + ((rd_T90 l0 x5_1).f0)))) = true := decide_eq_true c9
              clear c9
              by_cases c10 : 0 ≤ x8_3
              ·
               rw [if_pos c10] at H
               have c10b0 : decide (0 ≤ x8_3) = true := decide_eq_true c10
               clear c10
               by_cases c11 : x8_3 < (l1.length : Int)
               ·
                rw [if_pos c11] at H
                have c11b0 : decide (x8_3 < (l1.length : Int)) = true := decide_eq_true c11
                clear c11
                have H' := zA H
                clear H
                have p362 : 0 ≤ (x5_1 : Int) := of_decide_eq_true (zqD)
                have q362 : x5_1 < (l0.length : Int) := of_decide_eq_true (zqD)
                obtain ⟨ad362, e362, hx362_0, hx362_1⟩ := at_T90 HR0.out x5_1 p362 q362
                obtain rfl : ad361 = ad362 := (by injection e362)
                replace p362 := eq_true p362; replace q362 := eq_true q362
                have p363 : 0 ≤ (x8_3 : Int) := of_decide_eq_true (zqD)
                have q363 : x8_3 < (l1.length : Int) := of_decide_eq_true (zqD)
                obtain ⟨ad363, e363, hx363_0⟩ := Kd.at_int HR1.out x8_3 p363 q363
                cases e363; replace p363 := eq_true p363; replace q363 := eq_true q363
                go_wp2
                go_roundg k3
                case measure => have := HK1.out; have := HK2.out; have := HK3.out; omega
                case rel => exact ⟨(wrap64 (x7_3 + (rd l1 x8_3))), (wrap64 (x8_3 + 1)), zqQ, zqQ, H', ⟨by have := HK1.out; have := HK2.out; have := HK3.out; omega⟩, by repeat (first | exact Drawn0.refl _ | apply Drawn0.step)⟩
               ·
                rw [if_neg c11] at H
                exact absurd H (by simp)
              ·
               rw [if_neg c10] at H
               exact absurd H (by simp)
             ·
              rw [if_neg c9] at H
              have c9b0 : decide (x8_3 < (wrap64 (x6_2 + ((rd_T90 l0 x5_1).f0)))) = false := decide_eq_false c9
              clear c9
              by_cases c12 : x7_3 < ((rd_T90 l0 x5_1).f1)
              ·
               rw [if_pos c12] at H
               have c12b0 : decide (x7_3 < ((rd_T90 l0 x5_1).f1)) = true := decide_eq_true c12
               clear c12
               obtain rfl := Option.some.inj H
               have p362 : 0 ≤ (x5_1 : Int) := of_decide_eq_true (zqD)
               have q362 : x5_1 < (l0.length : Int) := of_decide_eq_true (zqD)
               obtain ⟨ad362, e362, hx362_0, hx362_1⟩ := at_T90 HR0.out x5_1 p362 q362
               obtain rfl : ad361 = ad362 := (by injection e362)
               replace p362 := eq_true p362; replace q362 := eq_true q362
               have p364 : 0 ≤ (x5_1 : Int) := of_decide_eq_true (zqD)
               have q364 : x5_1 < (l0.length : Int) := of_decide_eq_true (zqD)
               obtain ⟨ad364, e364, hx364_0, hx364_1⟩ := at_T90 HR0.out x5_1 p364 q364
               obtain rfl : ad361 = ad364 := (by injection e364)
               replace p364 := eq_true p364; replace q364 := eq_true q364
               go_wp2
               go_ret
               exact ⟨by first | rfl | (simp; done) | (simp [*]; done), by repeat (first | exact Drawn0.refl _ | apply Drawn0.step)⟩
              ·
               rw [if_neg c12] at H
               have c12b0 : decide (x7_3 < ((rd_T90 l0 x5_1).f1)) = false := decide_eq_false c12
               clear c12
               have H' := zA H
               clear H
               have p362 : 0 ≤ (x5_1 : Int) := of_decide_eq_true (zqD)
               have q362 : x5_1 < (l0.length : Int) := of_decide_eq_true (zqD)
               obtain ⟨ad362, e362, hx362_0, hx362_1⟩ := at_T90 HR0.out x5_1 p362 q362
               obtain rfl : ad361 = ad362 := (by injection e362)
               replace p362 := eq_true p362; replace q362 := eq_true q362
               have p364 : 0 ≤ (x5_1 : Int) := of_decide_eq_true (zqD)
               have q364 : x5_1 < (l0.length : Int) := of_decide_eq_true (zqD)
               obtain ⟨ad364, e364, hx364_0, hx364_1⟩ := at_T90 HR0.out x5_1 p364 q364
               obtain rfl : ad361 = ad364 := (by injection e364)
               replace p364 := eq_true p364; replace q364 := eq_true q364
               go_wp2
               go_roundg k3
               case measure => have := HK1.out; have := HK2.out; have := HK3.out; omega
               case rel => exact ⟨(wrap64 (x6_2 + 1)), zqQ, H', ⟨by have := HK1.out; have := HK2.out; have := HK3.out; omega⟩, by repeat (first | exact Drawn0.refl _ | apply Drawn0.step)⟩
            ·
             rw [if_neg c8] at H
             exact absurd H (by simp)
           ·
            rw [if_neg c7] at H
            exact absurd H (by simp)
        ·
         rw [if_neg c6] at H
         have c6b0 : decide ((wrap64 (x6_2 + ((rd_T90 l0 x5_1).f0))) ≤ (l1.length : Int)) = false := decide_eq_false c6
         clear c6
         have H' := zA H
         clear H
         have p361 : 0 ≤ (x5_1 : Int) := of_decide_eq_true (zqD)
         have q361 : x5_1 < (l0.length : Int) := of_decide_eq_true (zqD)
         obtain ⟨ad361, e361, hx361_0, hx361_1⟩ := at_T90 HR0.out x5_1 p361 q361
         cases e361; replace p361 := eq_true p361; replace q361 := eq_true q361
         go_wp2
         go_roundg k2
         case measure => have := HK1.out; have := HK2.out; omega
         case rel => exact ⟨(wrap64 (x5_1 + 1)), zqQ, H', ⟨by have := HK1.out; have := HK2.out; omega⟩, by repeat (first | exact Drawn0.refl _ | apply Drawn0.step)⟩
       ·
        rw [if_neg c5] at H
        exact absurd H (by simp)
      ·
       rw [if_neg c4] at H
       exact absurd H (by simp)
   ·
    rw [if_neg c3] at H
    have c3b0 : decide (x5_1 < (l0.length : Int)) = false := decide_eq_false c3
    clear c3
    obtain rfl := Option.some.inj H
    go_wp2
    go_ret
    exact ⟨by first | rfl | (simp; done) | (simp [*]; done), by repeat (first | exact Drawn0.refl _ | apply Drawn0.step)⟩
end Go.Proofs.Ythoeindopljmkaa.P
end
section
namespace Pm
abbrev B2 := Int × Int
structure Bds (L : List B2) : Prop where
  ne : L ≠ []
  t : ∀ b ∈ L, 1 ≤ b.1 ∧ b.1 ≤ 100
  a : ∀ b ∈ L, 0 ≤ b.2 ∧ b.2 ≤ 1000000
end Pm
end
section
namespace Go.Proofs.Ythoeindopljmkaa.P
open Go.RowKit Go.Proofs.YthoeindopljmkaaW.PrintWords Go.Proofs.YthoeindopljmkaaW.PrintLast Go.Proofs.YthoeindopljmkaaW.PrintMore
open Pm
def bs (l : List S71) : List B2 := l.map fun b => (b.f0, b.f1)
theorem bs_drop (l : List S71) {i : Nat} (h : i < l.length) : (bs l).drop i = ((rd_T71 l i).f0, (rd_T71 l i).f1) :: (bs l).drop (i + 1) := by
  have hl : i < (bs l).length := by simpa [bs] using h
  rw [List.drop_eq_getElem_cons hl]
  congr 1
  unfold rd_T71
  rw [List.getD_eq_getElem?_getD, Int.toNat_natCast, List.getElem?_eq_getElem h]
  simp [bs]
end Go.Proofs.Ythoeindopljmkaa.P
end
section
namespace Go.Proofs.Ythoeindopljmkaa.P
open Go.RowKit Go.Proofs.YthoeindopljmkaaW.PrintWords Go.Proofs.YthoeindopljmkaaW.PrintLast Go.Proofs.YthoeindopljmkaaW.PrintMore
open Pm
def cb (l : List S71) : Int := if l.length = 0 then 4 else if 5 < l.length then 5 else if (l.any fun x => !good x) = true then 3 else 0
theorem cb_f (l : List S71) : pump_CheckBounds.f l = some (cb l) := by
  unfold pump_CheckBounds.f cb
  by_cases c : l.length = 0
  · rw [if_pos (by omega), if_pos c]
  · rw [if_neg (by omega), if_neg c]
    by_cases c5 : 5 < l.length
    · rw [if_pos (by omega), if_pos c5]
    · rw [if_neg (by omega), if_neg c5]
      unfold any_bad.f
      rw [if_pos (by omega), Option.bind_some]
      split <;> rfl
theorem cb_zero {l : List S71} : cb l = 0 ↔ l.length ≠ 0 ∧ l.length ≤ 5 ∧ ∀ b ∈ l, good b = true := by
  unfold cb
  by_cases c : l.length = 0
  · rw [if_pos c]; constructor
    · intro h; cases h
    · rintro ⟨h, _⟩; exact absurd c h
  rw [if_neg c]
  by_cases c5 : 5 < l.length
  · rw [if_pos c5]; constructor
    · intro h; cases h
    · rintro ⟨_, h, _⟩; omega
  rw [if_neg c5]
  by_cases ca : (l.any fun x => !good x) = true
  · rw [if_pos ca]; constructor
    · intro h; cases h
    · rintro ⟨_, _, h⟩
      obtain ⟨x, hx, hg⟩ := List.any_eq_true.1 ca
      rw [h x hx] at hg; cases hg
  · rw [if_neg ca]
    refine ⟨fun _ => ⟨c, by omega, fun b hb => ?_⟩, fun _ => rfl⟩
    cases hg : good b
    · exact absurd (List.any_eq_true.2 ⟨b, hb, by rw [hg]; rfl⟩) ca
    · rfl
theorem good_iff {x : S71} : good x = true ↔ (1 ≤ x.f0 ∧ x.f0 ≤ 100) ∧ 0 ≤ x.f1 ∧ x.f1 ≤ 1000000 := by
  unfold good
  rw [Bool.and_eq_true, btw_iff, btw_iff]
theorem bds_of {l : List S71} (h : cb l = 0) : Bds (bs l) ∧ l.length ≤ 5 := by
  obtain ⟨h0, h5, hg⟩ := cb_zero.1 h
  refine ⟨⟨?_, ?_, ?_⟩, h5⟩
  · intro e
    have : (bs l).length = 0 := by rw [e]; rfl
    simp [bs] at this
    exact h0 (by rw [this]; rfl)
  · intro b hb
    obtain ⟨x, hx, rfl⟩ := List.mem_map.1 hb
    exact (good_iff.1 (hg x hx)).1
  · intro b hb
    obtain ⟨x, hx, rfl⟩ := List.mem_map.1 hb
    exact (good_iff.1 (hg x hx)).2
end Go.Proofs.Ythoeindopljmkaa.P
end
