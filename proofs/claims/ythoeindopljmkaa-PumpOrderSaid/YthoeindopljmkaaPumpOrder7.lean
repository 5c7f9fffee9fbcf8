/- Words and contracts for a claim. -/
import Derived.Test.YthoeindopljmkaaPumpOrder6

section
namespace Go.Proofs.Ythoeindopljmkaa.P
open Go.RowKit Go.Proofs.YthoeindopljmkaaW.PrintWords Go.Proofs.YthoeindopljmkaaW.PrintLast Go.Proofs.YthoeindopljmkaaW.PrintMore
attribute [local go_sem] max2_int min2_int max_two min_two max_three min_three max_four min_four
set_option linter.unusedVariables false
set_option linter.unusedSimpArgs false
def pianolalaw04_PumpOrder.j0 : Nat → Int → Int → Bool → List (List (S71)) → List (List (S71)) → List (List (S71)) → List (List (S71)) → Option (Bool)
  | 0, _, _, _, _, _, _, _ => none
  | k + 1, x6, x12, x97, x734000, x734001, x740000, x740001 => if x97 = true then (some false) else ((pump_Delay.f k x734000 x734001 x6).bind fun bt750 => ((pump_Delay.f k x740000 x740001 x6).bind fun bt752 => (if 1 ≤ (x734001.length : Int) then ((pump_Drop.f k x734000 (x734001.take 1) x6).bind fun bt759 => ((pump_Drop.f k x734000 (x734001.drop 1) x6).bind fun bt767 => (if bt750.1 = bt752.1 then (if bt750.2 = bt752.2 then (if bt759.2.2 = 0 then (if bt767.2.2 = 0 then (if x12 ≥ (mx bt759.1 bt767.1) then (if x12 ≤ (wrap64 (bt759.1 + bt767.1)) then ((pianolalaw04_works.f).bind fun t770 => (some t770)) else (some false)) else (some false)) else (some false)) else (some false)) else (some false)) else (some false)))) else (none))))
def pianolalaw04_PumpOrder.f (k : Nat) (l0_0 : List (S86)) (l0_1 : List (S86)) (l0_2 : List (S86)) (l0_3 : List (S86)) (a0_4 : Bool) (a0_5 : Bool) (a1 : Int) : Option (Bool) := (pianolalaw04_Engine_made.f k l0_0 l0_1 l0_2 l0_3 a0_4 true).bind fun bt727 => (if 1 < (bt727.2.length : Int) then (if 0 < (bt727.2.length : Int) then ((some (([rd_L4 bt727.2 1, rd_L4 bt727.2 0] : List (List (S71))) : List (List (S71)))).bind fun y736 => ((pump_Row.f bt727.1 bt727.2 (Int.tmod (wrap64 (a1)) 40)).bind fun bt740 => ((pump_Row.f bt727.1 y736 (Int.tmod (wrap64 (a1)) 40)).bind fun bt742 => ((pump_Drop.f k bt727.1 bt727.2 (Int.tmod (wrap64 (a1)) 40)).bind fun bt744 => ((pump_Drop.f k bt727.1 y736 (Int.tmod (wrap64 (a1)) 40)).bind fun bt747 => (if bt740.1 = bt742.1 then (if bt740.2 = 0 then (if bt742.2 = 0 then (if bt744.1 = bt747.1 then (if bt744.2.1 = bt747.2.1 then (if bt744.2.2 = 0 then (pianolalaw04_PumpOrder.j0 k (Int.tmod (wrap64 (a1)) 40) bt744.1 (bt747.2.2 != 0) bt727.1 bt727.2 bt727.1 y736) else (pianolalaw04_PumpOrder.j0 k (Int.tmod (wrap64 (a1)) 40) bt744.1 true bt727.1 bt727.2 bt727.1 y736)) else (pianolalaw04_PumpOrder.j0 k (Int.tmod (wrap64 (a1)) 40) bt744.1 true bt727.1 bt727.2 bt727.1 y736)) else (pianolalaw04_PumpOrder.j0 k (Int.tmod (wrap64 (a1)) 40) bt744.1 true bt727.1 bt727.2 bt727.1 y736)) else (pianolalaw04_PumpOrder.j0 k (Int.tmod (wrap64 (a1)) 40) bt744.1 true bt727.1 bt727.2 bt727.1 y736)) else (pianolalaw04_PumpOrder.j0 k (Int.tmod (wrap64 (a1)) 40) bt744.1 true bt727.1 bt727.2 bt727.1 y736)) else (pianolalaw04_PumpOrder.j0 k (Int.tmod (wrap64 (a1)) 40) bt744.1 true bt727.1 bt727.2 bt727.1 y736))))))) else (none)) else (none))
def pianolalaw04_PumpOrder.T4 : Bool × List (List Nat × List Nat) := (true, [([], []), ([0], [0]), ([], []), ([2], [2]), ([3], [3]), ([4], [4]), ([], []), ([6], [6]), ([7], [7]), ([8], [8]), ([5, 9], [5, 9]), ([1, 10], [1, 10]), ([], []), ([12, 11, 0, 1, 2, 3, 4, 5, 6, 7, 8, 9, 10, 11, 12], [11, 12])])
def pianolalaw04_PumpOrder.B4 : List Nat := [0, 1, 0, 4, 12, 28, 0, 64, 192, 448, 1020, 2047, 0, 8191]
theorem pianolalaw04_PumpOrder.tab4 : rtab .any (opsOf Try.f12 4) = pianolalaw04_PumpOrder.T4 := by kernel_rfl
theorem pianolalaw04_PumpOrder.bits4 : waitsOk pianolalaw04_PumpOrder.T4.2 pianolalaw04_PumpOrder.B4 = true := by kernel_rfl
def pianolalaw04_PumpOrder.T13 : Bool × List (List Nat × List Nat) := (true, [([], []), ([0], [0]), ([], []), ([2], [2]), ([3], [3]), ([1, 4], [1, 4]), ([], []), ([5, 6], [5, 6]), ([7], [7]), ([8], [8]), ([8], [8]), ([8], [8]), ([9, 7, 0, 1, 2, 3, 4, 5, 6, 7, 8, 9], [9]), ([10, 12, 0, 1, 2, 3, 4, 5, 6, 7, 8, 9, 10, 12], [10]), ([11, 13, 0, 1, 2, 3, 4, 5, 6, 7, 8, 9, 10, 11, 12, 13], [11])])
def pianolalaw04_PumpOrder.B13 : List Nat := [0, 1, 0, 4, 12, 31, 0, 127, 255, 511, 511, 511, 1023, 6143, 16383]
theorem pianolalaw04_PumpOrder.tab13 : rtab .any (opsOf Try.f12 13) = pianolalaw04_PumpOrder.T13 := by kernel_rfl
theorem pianolalaw04_PumpOrder.bits13 : waitsOk pianolalaw04_PumpOrder.T13.2 pianolalaw04_PumpOrder.B13 = true := by kernel_rfl
def pianolalaw04_PumpOrder.T14 : Bool × List (List Nat × List Nat) := (true, [([], []), ([0], [0]), ([], []), ([2], [2]), ([3], [3]), ([1, 4], [1, 4]), ([], []), ([5, 6], [5, 6]), ([7], [7]), ([8], [8]), ([8], [8]), ([8], [8]), ([9, 7, 0, 1, 2, 3, 4, 5, 6, 7, 8, 9], [9]), ([10, 12, 0, 1, 2, 3, 4, 5, 6, 7, 8, 9, 10, 12], [10]), ([11, 13, 0, 1, 2, 3, 4, 5, 6, 7, 8, 9, 10, 11, 12, 13], [11])])
def pianolalaw04_PumpOrder.B14 : List Nat := [0, 1, 0, 4, 12, 31, 0, 127, 255, 511, 511, 511, 1023, 6143, 16383]
theorem pianolalaw04_PumpOrder.tab14 : rtab .any (opsOf Try.f12 14) = pianolalaw04_PumpOrder.T14 := by kernel_rfl
theorem pianolalaw04_PumpOrder.bits14 : waitsOk pianolalaw04_PumpOrder.T14.2 pianolalaw04_PumpOrder.B14 = true := by kernel_rfl
theorem pianolalaw04_PumpOrder.j0_no {r : Bool} : ∀ {k : Nat} {x6 : Int} {x12 : Int} {x734000 : List (List (S71))} {x734001 : List (List (S71))} {x740000 : List (List (S71))} {x740001 : List (List (S71))}, pianolalaw04_PumpOrder.j0 k x6 x12 true x734000 x734001 x740000 x740001 = some r → r = true → False
  | 0, _, _, _, _, _, _ => by
    intro h
    simp [pianolalaw04_PumpOrder.j0] at h
  | k + 1, _, _, _, _, _, _ => by
    intro h hr
    rw [pianolalaw04_PumpOrder.j0, if_pos rfl] at h
    subst hr
    exact absurd (Option.some.inj h) (by decide)
set_option maxHeartbeats 8000000 in
set_option maxRecDepth 100000 in
theorem pianolalaw04_PumpOrder.calls (k : Nat) (A0_0 : Option Addr) (c0_0 : Nat) (l0_0 : List (S86)) (A0_1 : Option Addr) (c0_1 : Nat) (l0_1 : List (S86)) (A0_2 : Option Addr) (c0_2 : Nat) (l0_2 : List (S86)) (A0_3 : Option Addr) (c0_3 : Nat) (l0_3 : List (S86)) (a0_4 : Bool) (a0_5 : Bool) (a1 : Int) (r : Bool) (hrt : r = true) (w : World) (hr0_0 : Kd.C k86 w A0_0 l0_0.length l0_0) (hc0_0 : l0_0.length ≤ c0_0) (hr0_1 : Kd.C k86 w A0_1 l0_1.length l0_1) (hc0_1 : l0_1.length ≤ c0_1) (hr0_2 : Kd.C k86 w A0_2 l0_2.length l0_2) (hc0_2 : l0_2.length ≤ c0_2) (hr0_3 : Kd.C k86 w A0_3 l0_3.length l0_3) (hc0_3 : l0_3.length ≤ c0_3) (h : pianolalaw04_PumpOrder.f k l0_0 l0_1 l0_2 l0_3 a0_4 a0_5 a1 = some r) :
  Calls Try.prog 12 #[.agg #[.slice A0_0 l0_0.length c0_0, .slice A0_1 l0_1.length c0_1, .slice A0_2 l0_2.length c0_2, .slice A0_3 l0_3.length c0_3, .bool a0_4, .bool a0_5], .int .u8 a1] w fun e w' => e = .returned (.bool r) ∧ Below w.heap.size w w' := by
 have HRT := zA hrt
 clear hrt
 have hu79 := Try.underlying79
 have hu40 := Try.underlying40
 have HR0_0 := zA hr0_0
 have HC0_0 := zA hc0_0
 clear hr0_0 hc0_0
 have HR0_1 := zA hr0_1
 have HC0_1 := zA hc0_1
 clear hr0_1 hc0_1
 have HR0_2 := zA hr0_2
 have HC0_2 := zA hc0_2
 clear hr0_2 hc0_2
 have HR0_3 := zA hr0_3
 have HC0_3 := zA hc0_3
 clear hr0_3 hc0_3
 have HB := zA (Below.refl w.heap.size w)
 have H : ((pianolalaw04_Engine_made.f k l0_0 l0_1 l0_2 l0_3 a0_4 true).bind fun bt727 => (if 1 < (bt727.2.length : Int) then (if 0 < (bt727.2.length : Int) then ((some (([rd_L4 bt727.2 1, rd_L4 bt727.2 0] : List (List (S71))) : List (List (S71)))).bind fun y736 => ((pump_Row.f bt727.1 bt727.2 (Int.tmod (wrap64 (a1)) 40)).bind fun bt740 => ((pump_Row.f bt727.1 y736 (Int.tmod (wrap64 (a1)) 40)).bind fun bt742 => ((pump_Drop.f k bt727.1 bt727.2 (Int.tmod (wrap64 (a1)) 40)).bind fun bt744 => ((pump_Drop.f k bt727.1 y736 (Int.tmod (wrap64 (a1)) 40)).bind fun bt747 => (if bt740.1 = bt742.1 then (if bt740.2 = 0 then (if bt742.2 = 0 then (if bt744.1 = bt747.1 then (if bt744.2.1 = bt747.2.1 then (if bt744.2.2 = 0 then (pianolalaw04_PumpOrder.j0 k (Int.tmod (wrap64 (a1)) 40) bt744.1 (bt747.2.2 != 0) bt727.1 bt727.2 bt727.1 y736) else (pianolalaw04_PumpOrder.j0 k (Int.tmod (wrap64 (a1)) 40) bt744.1 true bt727.1 bt727.2 bt727.1 y736)) else (pianolalaw04_PumpOrder.j0 k (Int.tmod (wrap64 (a1)) 40) bt744.1 true bt727.1 bt727.2 bt727.1 y736)) else (pianolalaw04_PumpOrder.j0 k (Int.tmod (wrap64 (a1)) 40) bt744.1 true bt727.1 bt727.2 bt727.1 y736)) else (pianolalaw04_PumpOrder.j0 k (Int.tmod (wrap64 (a1)) 40) bt744.1 true bt727.1 bt727.2 bt727.1 y736)) else (pianolalaw04_PumpOrder.j0 k (Int.tmod (wrap64 (a1)) 40) bt744.1 true bt727.1 bt727.2 bt727.1 y736)) else (pianolalaw04_PumpOrder.j0 k (Int.tmod (wrap64 (a1)) 40) bt744.1 true bt727.1 bt727.2 bt727.1 y736))))))) else (none)) else (none))) = some r := h
 clear h
 replace H := Option.bind_eq_some_iff.mp H
 obtain ⟨⟨t727, t730⟩, A30, H⟩ := H
 replace H : (if 1 < (t730.length : Int) then (if 0 < (t730.length : Int) then ((some (([rd_L4 t730 1, rd_L4 t730 0] : List (List (S71))) : List (List (S71)))).bind fun y736 => ((pump_Row.f t727 t730 (Int.tmod (wrap64 (a1)) 40)).bind fun bt740 => ((pump_Row.f t727 y736 (Int.tmod (wrap64 (a1)) 40)).bind fun bt742 => ((pump_Drop.f k t727 t730 (Int.tmod (wrap64 (a1)) 40)).bind fun bt744 => ((pump_Drop.f k t727 y736 (Int.tmod (wrap64 (a1)) 40)).bind fun bt747 => (if bt740.1 = bt742.1 then (if bt740.2 = 0 then (if bt742.2 = 0 then (if bt744.1 = bt747.1 then (if bt744.2.1 = bt747.2.1 then (if bt744.2.2 = 0 then (pianolalaw04_PumpOrder.j0 k (Int.tmod (wrap64 (a1)) 40) bt744.1 (bt747.2.2 != 0) t727 t730 t727 y736) else (pianolalaw04_PumpOrder.j0 k (Int.tmod (wrap64 (a1)) 40) bt744.1 true t727 t730 t727 y736)) else (pianolalaw04_PumpOrder.j0 k (Int.tmod (wrap64 (a1)) 40) bt744.1 true t727 t730 t727 y736)) else (pianolalaw04_PumpOrder.j0 k (Int.tmod (wrap64 (a1)) 40) bt744.1 true t727 t730 t727 y736)) else (pianolalaw04_PumpOrder.j0 k (Int.tmod (wrap64 (a1)) 40) bt744.1 true t727 t730 t727 y736)) else (pianolalaw04_PumpOrder.j0 k (Int.tmod (wrap64 (a1)) 40) bt744.1 true t727 t730 t727 y736)) else (pianolalaw04_PumpOrder.j0 k (Int.tmod (wrap64 (a1)) 40) bt744.1 true t727 t730 t727 y736))))))) else (none)) else (none)) = some r := H
 have A3 := zA A30
 clear A30
 by_cases c4 : 1 < (t730.length : Int)
 ·
  rw [if_pos c4] at H
  have c4b0 : decide (1 < (t730.length : Int)) = true := decide_eq_true c4
  have c4b1 : decide (1 < t730.length) = true := decide_eq_true (by omega)
  clear c4
  by_cases c5 : 0 < (t730.length : Int)
  ·
   rw [if_pos c5] at H
   have c5b0 : decide (0 < (t730.length : Int)) = true := decide_eq_true c5
   have c5b1 : decide (0 < t730.length) = true := decide_eq_true (by omega)
   clear c5
   obtain ⟨y736, hy736⟩ : ∃ y_ : List (List (S71)), y_ = (([rd_L4 t730 1, rd_L4 t730 0] : List (List (S71)))) := ⟨_, rfl⟩
   replace H : ((pump_Row.f t727 t730 (Int.tmod (wrap64 (a1)) 40)).bind fun bt740 => ((pump_Row.f t727 y736 (Int.tmod (wrap64 (a1)) 40)).bind fun bt742 => ((pump_Drop.f k t727 t730 (Int.tmod (wrap64 (a1)) 40)).bind fun bt744 => ((pump_Drop.f k t727 y736 (Int.tmod (wrap64 (a1)) 40)).bind fun bt747 => (if bt740.1 = bt742.1 then (if bt740.2 = 0 then (if bt742.2 = 0 then (if bt744.1 = bt747.1 then (if bt744.2.1 = bt747.2.1 then (if bt744.2.2 = 0 then (pianolalaw04_PumpOrder.j0 k (Int.tmod (wrap64 (a1)) 40) bt744.1 (bt747.2.2 != 0) t727 t730 t727 y736) else (pianolalaw04_PumpOrder.j0 k (Int.tmod (wrap64 (a1)) 40) bt744.1 true t727 t730 t727 y736)) else (pianolalaw04_PumpOrder.j0 k (Int.tmod (wrap64 (a1)) 40) bt744.1 true t727 t730 t727 y736)) else (pianolalaw04_PumpOrder.j0 k (Int.tmod (wrap64 (a1)) 40) bt744.1 true t727 t730 t727 y736)) else (pianolalaw04_PumpOrder.j0 k (Int.tmod (wrap64 (a1)) 40) bt744.1 true t727 t730 t727 y736)) else (pianolalaw04_PumpOrder.j0 k (Int.tmod (wrap64 (a1)) 40) bt744.1 true t727 t730 t727 y736)) else (pianolalaw04_PumpOrder.j0 k (Int.tmod (wrap64 (a1)) 40) bt744.1 true t727 t730 t727 y736)))))) = some r := zqF hy736 H
   have Ny736 := zA hy736
   clear hy736
   replace H := Option.bind_eq_some_iff.mp H
   obtain ⟨⟨t740, t741⟩, A60, H⟩ := H
   replace H : ((pump_Row.f t727 y736 (Int.tmod (wrap64 (a1)) 40)).bind fun bt742 => ((pump_Drop.f k t727 t730 (Int.tmod (wrap64 (a1)) 40)).bind fun bt744 => ((pump_Drop.f k t727 y736 (Int.tmod (wrap64 (a1)) 40)).bind fun bt747 => (if t740 = bt742.1 then (if t741 = 0 then (if bt742.2 = 0 then (if bt744.1 = bt747.1 then (if bt744.2.1 = bt747.2.1 then (if bt744.2.2 = 0 then (pianolalaw04_PumpOrder.j0 k (Int.tmod (wrap64 (a1)) 40) bt744.1 (bt747.2.2 != 0) t727 t730 t727 y736) else (pianolalaw04_PumpOrder.j0 k (Int.tmod (wrap64 (a1)) 40) bt744.1 true t727 t730 t727 y736)) else (pianolalaw04_PumpOrder.j0 k (Int.tmod (wrap64 (a1)) 40) bt744.1 true t727 t730 t727 y736)) else (pianolalaw04_PumpOrder.j0 k (Int.tmod (wrap64 (a1)) 40) bt744.1 true t727 t730 t727 y736)) else (pianolalaw04_PumpOrder.j0 k (Int.tmod (wrap64 (a1)) 40) bt744.1 true t727 t730 t727 y736)) else (pianolalaw04_PumpOrder.j0 k (Int.tmod (wrap64 (a1)) 40) bt744.1 true t727 t730 t727 y736)) else (pianolalaw04_PumpOrder.j0 k (Int.tmod (wrap64 (a1)) 40) bt744.1 true t727 t730 t727 y736))))) = some r := H
   have A6 := zA A60
   clear A60
   replace H := Option.bind_eq_some_iff.mp H
   obtain ⟨⟨t742, t743⟩, A70, H⟩ := H
   replace H : ((pump_Drop.f k t727 t730 (Int.tmod (wrap64 (a1)) 40)).bind fun bt744 => ((pump_Drop.f k t727 y736 (Int.tmod (wrap64 (a1)) 40)).bind fun bt747 => (if t740 = t742 then (if t741 = 0 then (if t743 = 0 then (if bt744.1 = bt747.1 then (if bt744.2.1 = bt747.2.1 then (if bt744.2.2 = 0 then (pianolalaw04_PumpOrder.j0 k (Int.tmod (wrap64 (a1)) 40) bt744.1 (bt747.2.2 != 0) t727 t730 t727 y736) else (pianolalaw04_PumpOrder.j0 k (Int.tmod (wrap64 (a1)) 40) bt744.1 true t727 t730 t727 y736)) else (pianolalaw04_PumpOrder.j0 k (Int.tmod (wrap64 (a1)) 40) bt744.1 true t727 t730 t727 y736)) else (pianolalaw04_PumpOrder.j0 k (Int.tmod (wrap64 (a1)) 40) bt744.1 true t727 t730 t727 y736)) else (pianolalaw04_PumpOrder.j0 k (Int.tmod (wrap64 (a1)) 40) bt744.1 true t727 t730 t727 y736)) else (pianolalaw04_PumpOrder.j0 k (Int.tmod (wrap64 (a1)) 40) bt744.1 true t727 t730 t727 y736)) else (pianolalaw04_PumpOrder.j0 k (Int.tmod (wrap64 (a1)) 40) bt744.1 true t727 t730 t727 y736)))) = some r := H
   have A7 := zA A70
   clear A70
   replace H := Option.bind_eq_some_iff.mp H
   obtain ⟨⟨t744, t745, t746⟩, A80, H⟩ := H
   replace H : ((pump_Drop.f k t727 y736 (Int.tmod (wrap64 (a1)) 40)).bind fun bt747 => (if t740 = t742 then (if t741 = 0 then (if t743 = 0 then (if t744 = bt747.1 then (if t745 = bt747.2.1 then (if t746 = 0 then (pianolalaw04_PumpOrder.j0 k (Int.tmod (wrap64 (a1)) 40) t744 (bt747.2.2 != 0) t727 t730 t727 y736) else (pianolalaw04_PumpOrder.j0 k (Int.tmod (wrap64 (a1)) 40) t744 true t727 t730 t727 y736)) else (pianolalaw04_PumpOrder.j0 k (Int.tmod (wrap64 (a1)) 40) t744 true t727 t730 t727 y736)) else (pianolalaw04_PumpOrder.j0 k (Int.tmod (wrap64 (a1)) 40) t744 true t727 t730 t727 y736)) else (pianolalaw04_PumpOrder.j0 k (Int.tmod (wrap64 (a1)) 40) t744 true t727 t730 t727 y736)) else (pianolalaw04_PumpOrder.j0 k (Int.tmod (wrap64 (a1)) 40) t744 true t727 t730 t727 y736)) else (pianolalaw04_PumpOrder.j0 k (Int.tmod (wrap64 (a1)) 40) t744 true t727 t730 t727 y736))) = some r := H
   have A8 := zA A80
   clear A80
   replace H := Option.bind_eq_some_iff.mp H
   obtain ⟨⟨t747, t748, t749⟩, A90, H⟩ := H
   replace H : (if t740 = t742 then (if t741 = 0 then (if t743 = 0 then (if t744 = t747 then (if t745 = t748 then (if t746 = 0 then (pianolalaw04_PumpOrder.j0 k (Int.tmod (wrap64 (a1)) 40) t744 (t749 != 0) t727 t730 t727 y736) else (pianolalaw04_PumpOrder.j0 k (Int.tmod (wrap64 (a1)) 40) t744 true t727 t730 t727 y736)) else (pianolalaw04_PumpOrder.j0 k (Int.tmod (wrap64 (a1)) 40) t744 true t727 t730 t727 y736)) else (pianolalaw04_PumpOrder.j0 k (Int.tmod (wrap64 (a1)) 40) t744 true t727 t730 t727 y736)) else (pianolalaw04_PumpOrder.j0 k (Int.tmod (wrap64 (a1)) 40) t744 true t727 t730 t727 y736)) else (pianolalaw04_PumpOrder.j0 k (Int.tmod (wrap64 (a1)) 40) t744 true t727 t730 t727 y736)) else (pianolalaw04_PumpOrder.j0 k (Int.tmod (wrap64 (a1)) 40) t744 true t727 t730 t727 y736)) = some r := H
   have A9 := zA A90
   clear A90
   have HC10 := zA H
   clear H
   go_enter Try.func12, Try.ntmps12
   try go_wp2_with (first | ((with_reducible refine gate_dst (N := 2) rfl ?_); (try (refine gate_guard (by rfl) ?_; dsimp only)); refine box_event ?hg (N := 2) ?hd (cs := #[.slice A0_0 l0_0.length c0_0, .slice A0_1 l0_1.length c0_1, .slice A0_2 l0_2.length c0_2, .slice A0_3 l0_3.length c0_3, .bool a0_4, .bool a0_5]) (t := 79) ?hr ?_; (case hd => rfl); (case hg => rfl); (case hr => first | (go_simp; done) | (go_simp; rfl)); intro gb726 hg w11 hbox hb; have n0_ := zA (below_step (zqA HB.out) hb); have n1_ := zA (hbox); have n2_ := zA ((by rw [hg]; exact (below_size (zqA HB.out)) : w.heap.size ≤ gb726)); have n3_ := zA ((by rw [hg]; exact (below_size (zqA HB.out)) : w.heap.size ≤ gb726)); clear HB; have HB := n0_; have BK726 := n1_; have GW726 := n2_; have GE726 := n3_; clear n0_ n1_ n2_ n3_; clear hb hbox hg; have hcz12_0 : w11.cell? ⟨gb726, 0, none⟩ = some (.slice A0_0 l0_0.length c0_0) := (blk_cell BK726.out 0).trans rfl; have hcz12_1 : w11.cell? ⟨gb726, 1, none⟩ = some (.slice A0_1 l0_1.length c0_1) := (blk_cell BK726.out 1).trans rfl; have hcz12_2 : w11.cell? ⟨gb726, 2, none⟩ = some (.slice A0_2 l0_2.length c0_2) := (blk_cell BK726.out 2).trans rfl; have hcz12_3 : w11.cell? ⟨gb726, 3, none⟩ = some (.slice A0_3 l0_3.length c0_3) := (blk_cell BK726.out 3).trans rfl; have hcz12_4 : w11.cell? ⟨gb726, 4, none⟩ = some (.bool a0_4) := (blk_cell BK726.out 4).trans rfl; have hcz12_5 : w11.cell? ⟨gb726, 5, none⟩ = some (.bool a0_5) := (blk_cell BK726.out 5).trans rfl; have hfz12_0 := blk_frozen BK726.out 0; have hfz12_1 := blk_frozen BK726.out 1; have hfz12_2 := blk_frozen BK726.out 2; have hfz12_3 := blk_frozen BK726.out 3; have hfz12_4 := blk_frozen BK726.out 4; have hfz12_5 := blk_frozen BK726.out 5) | ((with_reducible refine gate_callee (f := 44) rfl ?_); refine goesL_ (some 27) rfl rfl Try.func44 (by kernel_rfl) rfl #[.agg #[.slice A0_0 l0_0.length c0_0, .slice A0_1 l0_1.length c0_1, .slice A0_2 l0_2.length c0_2, .slice A0_3 l0_3.length c0_3, .bool a0_4, .bool true]] rfl zqE ?_; (with_reducible refine (pianolalaw04_Engine_made.calls k _ _ l0_0 _ _ l0_1 _ _ l0_2 _ _ l0_3 a0_4 true t727 t730 _ ?side1 ?side2 ?side3 ?side4 ?side5 ?side6 ?side7 ?side8 A3.out).mono ?_); (case side1 => exact Kd.C_below HR0_0.out (zqG HB.out GE726.out)); (case side2 => exact HC0_0.out); (case side3 => exact Kd.C_below HR0_1.out (zqG HB.out GE726.out)); (case side4 => exact HC0_1.out); (case side5 => exact Kd.C_below HR0_2.out (zqG HB.out GE726.out)); (case side6 => exact HC0_2.out); (case side7 => exact Kd.C_below HR0_3.out (zqG HB.out GE726.out)); (case side8 => exact HC0_3.out); rintro e w13 ⟨v728, v731, rfl, ho0, ho1, hb⟩; refine ⟨_, rfl, ?_⟩; have n0_ := zA (Kd.N_lower (Kd.N_mono (ok' := fun k_ => some k_ ≠ (v731 : Value).ownBlock ∧ k_ ≠ gb726) ho0 (fun k_ hk_ => ⟨hk_.2, (Kd.freshB (g := gb726) (o := .cells #[.slice A0_0 l0_0.length c0_0, .slice A0_1 l0_1.length c0_1, .slice A0_2 l0_2.length c0_2, .slice A0_3 l0_3.length c0_3, .bool a0_4, .bool true] 79 (0, 0)) (by (with_reducible repeat (first | refine blk_drewN ?_ _ | refine blk_drew ?_ | refine blk_alloc ?_ _)); refine blk_put (cs := #[.slice A0_0 l0_0.length c0_0, .slice A0_1 l0_1.length c0_1, .slice A0_2 l0_2.length c0_2, .slice A0_3 l0_3.length c0_3, .bool a0_4, .bool a0_5]) ?_ 5 _ rfl; (with_reducible repeat (first | refine blk_drewN ?_ _ | refine blk_drew ?_ | refine blk_alloc ?_ _)); exact BK726.out) k_ hk_.1)⟩)) (below_size (zqG HB.out GE726.out))); have n1_ := zA (Kd.N_lower (Kd.N_mono (ok' := fun k_ => some k_ ≠ (v728 : Value).ownBlock ∧ k_ ≠ gb726) ho1 (fun k_ hk_ => ⟨hk_.2, (Kd.freshB (g := gb726) (o := .cells #[.slice A0_0 l0_0.length c0_0, .slice A0_1 l0_1.length c0_1, .slice A0_2 l0_2.length c0_2, .slice A0_3 l0_3.length c0_3, .bool a0_4, .bool true] 79 (0, 0)) (by (with_reducible repeat (first | refine blk_drewN ?_ _ | refine blk_drew ?_ | refine blk_alloc ?_ _)); refine blk_put (cs := #[.slice A0_0 l0_0.length c0_0, .slice A0_1 l0_1.length c0_1, .slice A0_2 l0_2.length c0_2, .slice A0_3 l0_3.length c0_3, .bool a0_4, .bool a0_5]) ?_ 5 _ rfl; (with_reducible repeat (first | refine blk_drewN ?_ _ | refine blk_drew ?_ | refine blk_alloc ?_ _)); exact BK726.out) k_ hk_.1)⟩)) (below_size (zqG HB.out GE726.out))); have n2_ := zA (blk_below (g := gb726) (o := .cells #[.slice A0_0 l0_0.length c0_0, .slice A0_1 l0_1.length c0_1, .slice A0_2 l0_2.length c0_2, .slice A0_3 l0_3.length c0_3, .bool a0_4, .bool true] 79 (0, 0)) (by (with_reducible repeat (first | refine blk_drewN ?_ _ | refine blk_drew ?_ | refine blk_alloc ?_ _)); refine blk_put (cs := #[.slice A0_0 l0_0.length c0_0, .slice A0_1 l0_1.length c0_1, .slice A0_2 l0_2.length c0_2, .slice A0_3 l0_3.length c0_3, .bool a0_4, .bool a0_5]) ?_ 5 _ rfl; (with_reducible repeat (first | refine blk_drewN ?_ _ | refine blk_drew ?_ | refine blk_alloc ?_ _)); exact BK726.out) hb); have n3_ := zA (below_step (zqG HB.out GE726.out) hb); clear BK726; clear HB; have HO729 := n0_; have HO732 := n1_; have BK726 := n2_; have HB := n3_; clear n0_ n1_ n2_ n3_; (try clear hb); (try clear hb2); (try clear hk); (try clear hi); (try clear ho0); (try clear ho1)) | ((with_reducible refine gate_dst (N := 5) rfl ?_); (try (refine gate_guard (by rfl) ?_; dsimp only)); refine box_event ?hg (N := 5) ?hd (cs := #[.slice none 0 0, .slice none 0 0]) (t := 40) ?hr ?_; (case hd => rfl); (case hg => rfl); (case hr => first | (go_simp; done) | (go_simp; rfl)); intro gb733 hg w14 hbox hb; have n0_ := zA (Kd.N_below (Kd.N_elderB (zqN HO729.out) gb733 (Nat.le_of_eq hg.symm)) hb); have n1_ := zA (Kd.N_below (Kd.N_elderB (zqN HO732.out) gb733 (Nat.le_of_eq hg.symm)) hb); have n2_ := zA (blk_below (g := gb726) (o := .cells #[.slice A0_0 l0_0.length c0_0, .slice A0_1 l0_1.length c0_1, .slice A0_2 l0_2.length c0_2, .slice A0_3 l0_3.length c0_3, .bool a0_4, .bool true] 79 (0, 0)) (zqB BK726.out) hb); have n3_ := zA (below_step (zqG HB.out GE726.out) hb); have n4_ := zA (hbox); have n5_ := zA ((by rw [hg]; exact (below_size (zqG HB.out GE726.out)) : w.heap.size ≤ gb733)); have n6_ := zA ((by rw [hg]; exact (below_size (zqG HB.out GE726.out)) : w.heap.size ≤ gb733)); have n7_ := zA ((by rw [hg]; exact Nat.ne_of_lt (blk_lt (g := gb726) (o := .cells #[.slice A0_0 l0_0.length c0_0, .slice A0_1 l0_1.length c0_1, .slice A0_2 l0_2.length c0_2, .slice A0_3 l0_3.length c0_3, .bool a0_4, .bool true] 79 (0, 0)) (zqB BK726.out)) : gb726 ≠ gb733)); have n8_ := zA ((by rw [hg]; exact Nat.ne_of_gt (blk_lt (g := gb726) (o := .cells #[.slice A0_0 l0_0.length c0_0, .slice A0_1 l0_1.length c0_1, .slice A0_2 l0_2.length c0_2, .slice A0_3 l0_3.length c0_3, .bool a0_4, .bool true] 79 (0, 0)) (zqB BK726.out)) : gb733 ≠ gb726)); clear HO729; clear HO732; clear BK726; clear HB; have HO729 := n0_; have HO732 := n1_; have BK726 := n2_; have HB := n3_; have BK733 := n4_; have GW733 := n5_; have GE733 := n6_; have NB726_733 := n7_; have NB733_726 := n8_; clear n0_ n1_ n2_ n3_ n4_ n5_ n6_ n7_ n8_; clear hb hbox hg; obtain ⟨Ao15, co15, eo15⟩ := Kd.N_slice HO729.out; subst eo15; have hnb16 := NB733_726.out; have hnc16 := NB726_733.out; have hcz17_0 : w14.cell? ⟨gb733, 0, none⟩ = some (.slice none 0 0) := (blk_cell BK733.out 0).trans rfl; have hcz17_1 : w14.cell? ⟨gb733, 1, none⟩ = some (.slice none 0 0) := (blk_cell BK733.out 1).trans rfl; have hfz17_0 := blk_frozen BK733.out 0; have hfz17_1 := blk_frozen BK733.out 1; obtain ⟨Ao18, co18, eo18⟩ := Kd.N_slice HO732.out; subst eo18))
   have n0_ : Aside0 (Kd.N (Kd.slice 71 k71) 22 ((w14.setCell ⟨gb733, 0, none⟩ (.slice Ao15 t727.length co15)).setCell ⟨gb733, 1, none⟩ (.slice Ao18 t730.length co18)) w.heap.size (fun k_ => some k_ ≠ (.slice Ao18 t730.length co18 : Value).ownBlock ∧ k_ ≠ gb726 ∧ k_ ≠ gb733) (.slice Ao15 t727.length co15) t727) := ⟨by (with_reducible repeat (first | apply Kd.N_alloc | apply Kd.N_drewN | apply Kd.N_drew)); exact Kd.N_mono (Kd.N_far (p := ⟨gb733, 1, none⟩) (Kd.N_far (p := ⟨gb733, 0, none⟩) (Kd.N_mono HO729.out (fun k_ hk => (⟨hk, hk.2⟩ : _ ∧ k_ ≠ gb733))) (fun _ hk => hk.2) (.slice Ao15 t727.length co15)) (fun _ hk => hk.2) (.slice Ao18 t730.length co18)) (fun _ hk => ⟨hk.1.1.1, ⟨hk.1.1.2, hk.1.2⟩⟩)⟩
   have n1_ : Aside0 (Kd.N (Kd.slice 71 k71) 22 ((w14.setCell ⟨gb733, 0, none⟩ (.slice Ao15 t727.length co15)).setCell ⟨gb733, 1, none⟩ (.slice Ao18 t730.length co18)) w.heap.size (fun k_ => some k_ ≠ (.slice Ao15 t727.length co15 : Value).ownBlock ∧ k_ ≠ gb726 ∧ k_ ≠ gb733) (.slice Ao18 t730.length co18) t730) := ⟨by (with_reducible repeat (first | apply Kd.N_alloc | apply Kd.N_drewN | apply Kd.N_drew)); exact Kd.N_mono (Kd.N_far (p := ⟨gb733, 1, none⟩) (Kd.N_far (p := ⟨gb733, 0, none⟩) (Kd.N_mono HO732.out (fun k_ hk => (⟨hk, hk.2⟩ : _ ∧ k_ ≠ gb733))) (fun _ hk => hk.2) (.slice Ao15 t727.length co15)) (fun _ hk => hk.2) (.slice Ao18 t730.length co18)) (fun _ hk => ⟨hk.1.1.1, ⟨hk.1.1.2, hk.1.2⟩⟩)⟩
   have n2_ : Aside0 (((w14.setCell ⟨gb733, 0, none⟩ (.slice Ao15 t727.length co15)).setCell ⟨gb733, 1, none⟩ (.slice Ao18 t730.length co18)).heap[gb726]? = some (.cells #[.slice A0_0 l0_0.length c0_0, .slice A0_1 l0_1.length c0_1, .slice A0_2 l0_2.length c0_2, .slice A0_3 l0_3.length c0_3, .bool a0_4, .bool true] 79 (0, 0))) := ⟨by (with_reducible repeat (first | refine blk_drewN ?_ _ | refine blk_drew ?_ | refine blk_alloc ?_ _)); refine blk_far ?_ NB726_733.out _; (with_reducible repeat (first | refine blk_drewN ?_ _ | refine blk_drew ?_ | refine blk_alloc ?_ _)); refine blk_far ?_ NB726_733.out _; (with_reducible repeat (first | refine blk_drewN ?_ _ | refine blk_drew ?_ | refine blk_alloc ?_ _)); exact BK726.out⟩
   have n3_ : Aside0 (((w14.setCell ⟨gb733, 0, none⟩ (.slice Ao15 t727.length co15)).setCell ⟨gb733, 1, none⟩ (.slice Ao18 t730.length co18)).heap[gb733]? = some (.cells #[.slice Ao15 t727.length co15, .slice Ao18 t730.length co18] 40 (0, 0))) := ⟨by (with_reducible repeat (first | refine blk_drewN ?_ _ | refine blk_drew ?_ | refine blk_alloc ?_ _)); refine blk_put (cs := #[.slice Ao15 t727.length co15, .slice none 0 0]) ?_ 1 _ rfl; (with_reducible repeat (first | refine blk_drewN ?_ _ | refine blk_drew ?_ | refine blk_alloc ?_ _)); refine blk_put (cs := #[.slice none 0 0, .slice none 0 0]) ?_ 0 _ rfl; (with_reducible repeat (first | refine blk_drewN ?_ _ | refine blk_drew ?_ | refine blk_alloc ?_ _)); exact BK733.out⟩
   have n4_ : Aside0 (Below w.heap.size w ((w14.setCell ⟨gb733, 0, none⟩ (.slice Ao15 t727.length co15)).setCell ⟨gb733, 1, none⟩ (.slice Ao18 t730.length co18))) := ⟨zqH HB.out GE726.out GE733.out⟩
   (try clear HO729)
   (try clear HO732)
   (try clear BK726)
   (try clear BK733)
   (try clear HB)
   generalize ((w14.setCell ⟨gb733, 0, none⟩ (.slice Ao15 t727.length co15)).setCell ⟨gb733, 1, none⟩ (.slice Ao18 t730.length co18)) = w19 at n0_ n1_ n2_ n3_ n4_ ⊢
   have HO729 := n0_
   have HO732 := n1_
   have BK726 := n2_
   have BK733 := n3_
   have HB := n4_
   clear n0_ n1_ n2_ n3_ n4_
   have n0_ := zA (Kd.N_drew HO729.out)
   have n1_ := zA (Kd.N_drew HO732.out)
   have n2_ := zA (blk_drew BK726.out)
   have n3_ := zA (blk_drew BK733.out)
   have n4_ := zA (below_drew1 HB.out)
   clear HO729
   clear HO732
   clear BK726
   clear BK733
   clear HB
   have HO729 := n0_
   have HO732 := n1_
   have BK726 := n2_
   have BK733 := n3_
   have HB := n4_
   clear n0_ n1_ n2_ n3_ n4_
   have p734 : 0 ≤ (1 : Int) := (by omega)
   have q734 : 1 < (t730.length : Int) := of_decide_eq_true (zqD)
   obtain ⟨ad734, A734_0, c734_0, e734, hx734_0, hl734_0, hi734_0⟩ := at_L4 (Kd.N_reads' HO732.out).2.2 1 p734 q734
   cases e734
   obtain ⟨ce734, hce734, hMe734, hcc734⟩ := Kd.N_get HO732.out [] 1 p734 (by first | exact q734 | exact of_decide_eq_true (zqD) | (have e_ := (Kd.N_reads' HO732.out).1; omega))
   obtain ⟨ua734_0, uc734_0, rfl, ul734_0, ge734_0⟩ := Kd.FK_slice_open hMe734
   have hv734_0 := hcc734 0 _ rfl
   rw [Nat.add_zero, show ((Kd.slice 71 k71)).sz = 1 from rfl, Nat.mul_one] at hv734_0
   replace hv734_0 := Option.some.inj (hv734_0.symm.trans hx734_0)
   injection hv734_0 with hva_ hvn_ hvc_
   rw [hva_] at ge734_0
   rw [hvc_] at ul734_0
   have HL734_0 := zA (show Kd.V k71 71 _ w.heap.size _ _ (rd_L4 t730 1) from Kd.V_mk ul734_0 ge734_0)
   clear hva_ hvn_ hvc_ ge734_0 ul734_0
   clear hcc734 hce734
   (try simp only [show (1 : Int).toNat = 1 from rfl, Nat.reduceMul, Nat.reduceEqDiff, Go.Addr.add, ↓reduceIte] at hx734_0)
   have qi734 : (1 < t730.length) = True := eq_true (by omega)
   (try rw [show ((1 : Int)).toNat = 1 from rfl] at hx734_0)
   have HR734_0 := zA hi734_0
   have HC734_0 := zA hl734_0
   clear hi734_0 hl734_0
   replace p734 := eq_true p734
   replace q734 := eq_true q734
   have p735 : 0 ≤ (0 : Int) := (by omega)
   have q735 : 0 < (t730.length : Int) := of_decide_eq_true (zqD)
   obtain ⟨ad735, A735_0, c735_0, e735, hx735_0, hl735_0, hi735_0⟩ := at_L4 (Kd.N_reads' HO732.out).2.2 0 p735 q735
   obtain rfl : ad734 = ad735 := (by injection e735)
   obtain ⟨ce735, hce735, hMe735, hcc735⟩ := Kd.N_get HO732.out [] 0 p735 (by first | exact q735 | exact of_decide_eq_true (zqD) | (have e_ := (Kd.N_reads' HO732.out).1; omega))
   obtain ⟨ua735_0, uc735_0, rfl, ul735_0, ge735_0⟩ := Kd.FK_slice_open hMe735
   have hv735_0 := hcc735 0 _ rfl
   rw [Nat.add_zero, show ((Kd.slice 71 k71)).sz = 1 from rfl, Nat.mul_one] at hv735_0
   replace hv735_0 := Option.some.inj (hv735_0.symm.trans hx735_0)
   injection hv735_0 with hva_ hvn_ hvc_
   rw [hva_] at ge735_0
   rw [hvc_] at ul735_0
   have HL735_0 := zA (show Kd.V k71 71 _ w.heap.size _ _ (rd_L4 t730 0) from Kd.V_mk ul735_0 ge735_0)
   clear hva_ hvn_ hvc_ ge735_0 ul735_0
   clear hcc735 hce735
   have qi735 : (0 < t730.length) = True := eq_true (by omega)
   (try rw [show ((0 : Int)).toNat = 0 from rfl] at hx735_0)
   (try rw [Addr.add_zero'] at hx735_0)
   have HR735_0 := zA hi735_0
   have HC735_0 := zA hl735_0
   clear hi735_0 hl735_0
   replace p735 := eq_true p735
   replace q735 := eq_true q735
   refine start_ (n := 14) (S := fun w' => w'.cell? ⟨gb733, 0, none⟩ = some (.slice Ao15 t727.length co15) ∧ w'.cell? ⟨gb733, 1, none⟩ = some (.slice (some ad734) t730.length co18) ∧ w'.cell? ⟨ad734.block, ad734.off + 1, none⟩ = some (.slice A734_0 (rd_L4 t730 1).length c734_0) ∧ w'.cell? ad734 = some (.slice A735_0 (rd_L4 t730 0).length c735_0)) (ds := []) #[false, false, false, false, false, false, false, false, false, false, false, false, false, false] (by kernel_rfl) rfl rfl ⟨(blk_cell BK733.out 0).trans rfl, (blk_cell BK733.out 1).trans rfl, hx734_0, hx735_0⟩ (fun hHeld => ?_); refine with_tabW pianolalaw04_PumpOrder.tab4 pianolalaw04_PumpOrder.bits4 (fun HT_ HW_ => ?_)
   generalize w19.drew = w20 at HO729 HO732 BK726 BK733 HB HL734_0 HL735_0 HR734_0 HR735_0 hx734_0 hx735_0 hHeld ⊢
   refine pure_ (i := 0) (N := some 31) (v := ?_) (a' := ?_) #[true, false, false, false, false, false, false, false, false, false, false, false, false, false] rfl rfl (any_of HT_.out (by kernel_rfl)) (fun _ _ _ h => h) (Or.inl ⟨by rfl, ?_⟩) ?_ ?_
   rotate_left
   ·
    intro w'
    go_simp
    with_reducible rfl
   rotate_left
   ·
    simp only [Act.put, List.setIfInBounds_toArray, List.set_cons_zero, List.set_cons_succ, i64_w, i32_w]
    rfl
   refine pure_ (i := 2) (N := some 33) (v := ?_) (a' := ?_) #[true, false, true, false, false, false, false, false, false, false, false, false, false, false] rfl rfl (any_of HT_.out (by kernel_rfl)) (fun _ _ _ h => h) (Or.inl ⟨by rfl, ?_⟩) ?_ ?_
   rotate_left
   ·
    intro w'
    go_simp
    with_reducible rfl
   rotate_left
   ·
    simp only [Act.put, List.setIfInBounds_toArray, List.set_cons_zero, List.set_cons_succ, i64_w, i32_w]
    rfl
   refine pure_ (i := 6) (N := some 37) (v := ?_) (a' := ?_) #[true, false, true, false, false, false, true, false, false, false, false, false, false, false] rfl rfl (any_of HT_.out (by kernel_rfl)) (fun _ _ _ h => h) (Or.inl ⟨by rfl, ?_⟩) ?_ ?_
   rotate_left
   ·
    intro w'
    go_simp
    with_reducible rfl
   rotate_left
   ·
    simp only [Act.put, List.setIfInBounds_toArray, List.set_cons_zero, List.set_cons_succ, i64_w, i32_w]
    rfl
   refine take_ (i := 1) (N := some 32) (v := ?_) (a' := ?_) #[true, true, true, false, false, false, true, false, false, false, false, false, false, false] rfl rfl (take_ofW HT_.out HW_.out (by kernel_rfl)) (fun _ _ _ h => h) (Or.inl ⟨by rfl, ?_⟩) hHeld ?_ ?_
   rotate_left
   ·
    rintro w' ⟨s0, s1, s2, s3⟩
    go_simp
    with_reducible rfl
   rotate_left
   ·
    simp only [Act.put, List.setIfInBounds_toArray, List.set_cons_zero, List.set_cons_succ, i64_w, i32_w]
    rfl
   refine take_ (i := 3) (N := some 34) (v := ?_) (a' := ?_) #[true, true, true, true, false, false, true, false, false, false, false, false, false, false] rfl rfl (take_ofW HT_.out HW_.out (by kernel_rfl)) (fun _ _ _ h => h) (Or.inl ⟨by rfl, ?_⟩) hHeld ?_ ?_
   rotate_left
   ·
    rintro w' ⟨s0, s1, s2, s3⟩
    go_simp
    with_reducible rfl
   rotate_left
   ·
    simp only [Act.put, List.setIfInBounds_toArray, List.set_cons_zero, List.set_cons_succ, i64_w, i32_w]
    rfl
   refine pure_ (i := 4) (N := some 35) (v := ?_) (a' := ?_) #[true, true, true, true, true, false, true, false, false, false, false, false, false, false] rfl rfl (any_of HT_.out (by kernel_rfl)) (fun _ _ _ h => h) (Or.inl ⟨by rfl, ?_⟩) ?_ ?_
   rotate_left
   ·
    intro w'
    go_simp
    with_reducible rfl
   rotate_left
   ·
    simp only [Act.put, List.setIfInBounds_toArray, List.set_cons_zero, List.set_cons_succ, i64_w, i32_w]
    rfl
   refine take_ (i := 5) (N := some 36) (v := ?_) (a' := ?_) #[true, true, true, true, true, true, true, false, false, false, false, false, false, false] rfl rfl (take_ofW HT_.out HW_.out (by kernel_rfl)) (fun _ _ _ h => h) (Or.inl ⟨by rfl, ?_⟩) hHeld ?_ ?_
   rotate_left
   ·
    rintro w' ⟨s0, s1, s2, s3⟩
    go_simp
    with_reducible rfl
   rotate_left
   ·
    simp only [Act.put, List.setIfInBounds_toArray, List.set_cons_zero, List.set_cons_succ, i64_w, i32_w]
    rfl
   refine take_ (i := 7) (N := some 38) (v := ?_) (a' := ?_) #[true, true, true, true, true, true, true, true, false, false, false, false, false, false] rfl rfl (take_ofW HT_.out HW_.out (by kernel_rfl)) (fun _ _ _ h => h) (Or.inl ⟨by rfl, ?_⟩) hHeld ?_ ?_
   rotate_left
   ·
    rintro w' ⟨s0, s1, s2, s3⟩
    go_simp
    with_reducible rfl
   rotate_left
   ·
    simp only [Act.put, List.setIfInBounds_toArray, List.set_cons_zero, List.set_cons_succ, i64_w, i32_w]
    rfl
   refine pure_ (i := 8) (N := some 39) (v := ?_) (a' := ?_) #[true, true, true, true, true, true, true, true, true, false, false, false, false, false] rfl rfl (any_of HT_.out (by kernel_rfl)) (fun _ _ _ h => h) (Or.inl ⟨by rfl, ?_⟩) ?_ ?_
   rotate_left
   ·
    intro w'
    go_simp
    with_reducible rfl
   rotate_left
   ·
    simp only [Act.put, List.setIfInBounds_toArray, List.set_cons_zero, List.set_cons_succ, i64_w, i32_w]
    rfl
   refine take_ (i := 9) (N := some 40) (v := ?_) (a' := ?_) #[true, true, true, true, true, true, true, true, true, true, false, false, false, false] rfl rfl (take_ofW HT_.out HW_.out (by kernel_rfl)) (fun _ _ _ h => h) (Or.inl ⟨by rfl, ?_⟩) hHeld ?_ ?_
   rotate_left
   ·
    rintro w' ⟨s0, s1, s2, s3⟩
    go_simp
    with_reducible rfl
   rotate_left
   ·
    simp only [Act.put, List.setIfInBounds_toArray, List.set_cons_zero, List.set_cons_succ, i64_w, i32_w]
    rfl
   refine join_ (σ := Value × Nat) 1 #[true, true, true, true, true, true, true, true, true, true, true, true, true, false] (fun s_ => [(41, s_.1), (7, .pointer (some ⟨s_.2, 0, none⟩)), (42, .agg #[.slice Ao15 t727.length co15, s_.1])]) (fun s_ w' => (w'.cell? ⟨gb733, 0, none⟩ = some (.slice Ao15 t727.length co15) ∧ w'.cell? ⟨gb733, 1, none⟩ = some (.slice (some ad734) t730.length co18) ∧ w'.cell? ⟨ad734.block, ad734.off + 1, none⟩ = some (.slice A734_0 (rd_L4 t730 1).length c734_0) ∧ w'.cell? ad734 = some (.slice A735_0 (rd_L4 t730 0).length c735_0)) ∧ (Kd.V k71 71 w' w.heap.size (fun k_ => some k_ ≠ (.slice Ao15 t727.length co15 : Value).ownBlock ∧ some k_ ≠ (.slice (some ad734) t730.length co18 : Value).ownBlock ∧ some k_ ≠ (s_.1 : Value).ownBlock ∧ k_ ≠ gb726 ∧ k_ ≠ gb733 ∧ k_ ≠ s_.2) (.slice A734_0 (rd_L4 t730 1).length c734_0) (rd_L4 t730 1)) ∧ (Kd.V k71 71 w' w.heap.size (fun k_ => some k_ ≠ (.slice Ao15 t727.length co15 : Value).ownBlock ∧ some k_ ≠ (.slice (some ad734) t730.length co18 : Value).ownBlock ∧ some k_ ≠ (s_.1 : Value).ownBlock ∧ k_ ≠ gb726 ∧ k_ ≠ gb733 ∧ k_ ≠ s_.2) (.slice A735_0 (rd_L4 t730 0).length c735_0) (rd_L4 t730 0)) ∧ (Kd.N (Kd.slice 71 k71) 22 w' w.heap.size (fun k_ => some k_ ≠ (.slice (some ad734) t730.length co18 : Value).ownBlock ∧ some k_ ≠ (s_.1 : Value).ownBlock ∧ k_ ≠ gb726 ∧ k_ ≠ gb733 ∧ k_ ≠ s_.2) (.slice Ao15 t727.length co15) t727) ∧ (Kd.N (Kd.slice 71 k71) 22 w' w.heap.size (fun k_ => some k_ ≠ (.slice Ao15 t727.length co15 : Value).ownBlock ∧ some k_ ≠ (s_.1 : Value).ownBlock ∧ k_ ≠ gb726 ∧ k_ ≠ gb733 ∧ k_ ≠ s_.2) (.slice (some ad734) t730.length co18) t730) ∧ (Kd.N (Kd.slice 71 k71) 22 w' w.heap.size (fun k_ => some k_ ≠ (.slice Ao15 t727.length co15 : Value).ownBlock ∧ some k_ ≠ (.slice (some ad734) t730.length co18 : Value).ownBlock ∧ k_ ≠ gb726 ∧ k_ ≠ gb733 ∧ k_ ≠ s_.2) s_.1 y736) ∧ (w'.heap[gb726]? = some (.cells #[.slice A0_0 l0_0.length c0_0, .slice A0_1 l0_1.length c0_1, .slice A0_2 l0_2.length c0_2, .slice A0_3 l0_3.length c0_3, .bool a0_4, .bool true] 79 (0, 0))) ∧ (w'.heap[gb733]? = some (.cells #[.slice Ao15 t727.length co15, .slice (some ad734) t730.length co18] 40 (0, 0))) ∧ (w'.heap[s_.2]? = some (.cells #[.slice none 0 0, .slice none 0 0] 40 (0, 0))) ∧ (w.heap.size ≤ s_.2) ∧ (w.heap.size ≤ s_.2) ∧ (gb726 ≠ s_.2) ∧ (s_.2 ≠ gb726) ∧ (gb733 ≠ s_.2) ∧ (s_.2 ≠ gb733) ∧ (Below w.heap.size w w')) ?_ ?_
   rotate_left
   ·
    intro hCont
    refine two_ (i := 10) (j := 12) (Ni := some 41) (Nj := some 7) #[true, true, true, true, true, true, true, true, true, true, true, false, false, false] #[true, true, true, true, true, true, true, true, true, true, false, false, true, false] rfl rfl rfl rfl (two_of HT_.out (by kernel_rfl)) (by decide) (by decide) (fun K hK => ?_) (fun K hK => ?_)
    ·
     skip
     refine Kd.N_lit_step (Kd.slice 71 k71) _ 22 ?hg (N' := 41) ?hd (xs := ([rd_L4 t730 1, rd_L4 t730 0] : List (List (S71)))) (inner := [.slice A734_0 (rd_L4 t730 1).length c734_0, .slice A735_0 (rd_L4 t730 0).length c735_0]) (ok := (fun k_ => some k_ ≠ (.slice Ao15 t727.length co15 : Value).ownBlock ∧ some k_ ≠ (.slice (some ad734) t730.length co18 : Value).ownBlock ∧ k_ ≠ gb726 ∧ k_ ≠ gb733)) (okp := (fun k_ => some k_ ≠ (.slice Ao15 t727.length co15 : Value).ownBlock ∧ some k_ ≠ (.slice (some ad734) t730.length co18 : Value).ownBlock ∧ k_ ≠ gb726 ∧ k_ ≠ gb733)) ?hr ?hp (fun _ hk => hk) ((show ∀ k_, w20.heap.size ≤ k_ → (fun k_ => some k_ ≠ (.slice Ao15 t727.length co15 : Value).ownBlock ∧ some k_ ≠ (.slice (some ad734) t730.length co18 : Value).ownBlock ∧ k_ ≠ gb726 ∧ k_ ≠ gb733) k_ from fun k_ hk => ⟨Kd.fresh' (Kd.N_lt (zqN HO729.out)) k_ hk, Kd.fresh' (Kd.N_lt (zqN HO732.out)) k_ hk, Kd.freshB (g := gb726) (o := .cells #[.slice A0_0 l0_0.length c0_0, .slice A0_1 l0_1.length c0_1, .slice A0_2 l0_2.length c0_2, .slice A0_3 l0_3.length c0_3, .bool a0_4, .bool true] 79 (0, 0)) (zqB BK726.out) k_ hk, Kd.freshB (g := gb733) (o := .cells #[.slice Ao15 t727.length co15, .slice (some ad734) t730.length co18] 40 (0, 0)) (zqB BK733.out) k_ hk⟩) _ (Nat.le_refl _)) (Below.refl _ _) (Nat.le_refl _) (by simp) ?_; (case hd => rfl); (case hg => rfl); (case hr => first | (go_simp; done) | (go_simp; rfl)); (case hp => exact (Reps.one (show Kd.FK (Kd.slice 71 k71) _ _ (rd_L4 t730 1) [.slice A734_0 (rd_L4 t730 1).length c734_0] from (Kd.FK_slice_mk (Kd.V_reads' (Kd.V_mono (ok' := (fun k_ => some k_ ≠ (.slice Ao15 t727.length co15 : Value).ownBlock ∧ some k_ ≠ (.slice (some ad734) t730.length co18 : Value).ownBlock ∧ k_ ≠ gb726 ∧ k_ ≠ gb733)) (HL734_0.out) (fun k_ hk => ⟨hk.1.1, ⟨hk.2, ⟨hk.1.2.1, hk.1.2.2⟩⟩⟩))).2.1 (Kd.V_F (Kd.V_mono (ok' := (fun k_ => some k_ ≠ (.slice Ao15 t727.length co15 : Value).ownBlock ∧ some k_ ≠ (.slice (some ad734) t730.length co18 : Value).ownBlock ∧ k_ ≠ gb726 ∧ k_ ≠ gb733)) (HL734_0.out) (fun k_ hk => ⟨hk.1.1, ⟨hk.2, ⟨hk.1.2.1, hk.1.2.2⟩⟩⟩))))) (Reps.one (show Kd.FK (Kd.slice 71 k71) _ _ (rd_L4 t730 0) [.slice A735_0 (rd_L4 t730 0).length c735_0] from (Kd.FK_slice_mk (Kd.V_reads' (Kd.V_mono (ok' := (fun k_ => some k_ ≠ (.slice Ao15 t727.length co15 : Value).ownBlock ∧ some k_ ≠ (.slice (some ad734) t730.length co18 : Value).ownBlock ∧ k_ ≠ gb726 ∧ k_ ≠ gb733)) (HL735_0.out) (fun k_ hk => ⟨hk.1.1, ⟨hk.2, ⟨hk.1.2.1, hk.1.2.2⟩⟩⟩))).2.1 (Kd.V_F (Kd.V_mono (ok' := (fun k_ => some k_ ≠ (.slice Ao15 t727.length co15 : Value).ownBlock ∧ some k_ ≠ (.slice (some ad734) t730.length co18 : Value).ownBlock ∧ k_ ≠ gb726 ∧ k_ ≠ gb733)) (HL735_0.out) (fun k_ hk => ⟨hk.1.1, ⟨hk.2, ⟨hk.1.2.1, hk.1.2.2⟩⟩⟩))))) (Reps.none _ _))))
     intro v737 w21 ho22 hb hg_ hnew_
     have HS2_ := (hb.cell (World.block_lt_of_cell? _ _ (hHeld.2.2.1))).trans (hHeld.2.2.1)
     have HS3_ := (hb.cell (World.block_lt_of_cell? _ _ (hHeld.2.2.2))).trans (hHeld.2.2.2)
     clear hg_ hnew_
     (first | rw [← Ny736.out] at ho22 | (simp only [Int.reduceToNat] at ho22; rw [← Ny736.out] at ho22))
     have n0_ := zA (Kd.N_elder' (zqN HO729.out) (Kd.N_base ho22) hb)
     have n1_ := zA (Kd.N_elder' (zqN HO732.out) (Kd.N_base ho22) hb)
     have n2_ := zA (Kd.V_elder' (by (with_reducible repeat (first | apply Kd.V_alloc | apply Kd.V_drewN | apply Kd.V_drew)); exact HL734_0.out) (Kd.N_base ho22) hb)
     have n3_ := zA (Kd.V_elder' (by (with_reducible repeat (first | apply Kd.V_alloc | apply Kd.V_drewN | apply Kd.V_drew)); exact HL735_0.out) (Kd.N_base ho22) hb)
     have n4_ := zA (Kd.N_lower ho22 (below_size (zqH HB.out GE726.out GE733.out)))
     have n5_ := zA (blk_below (g := gb726) (o := .cells #[.slice A0_0 l0_0.length c0_0, .slice A0_1 l0_1.length c0_1, .slice A0_2 l0_2.length c0_2, .slice A0_3 l0_3.length c0_3, .bool a0_4, .bool true] 79 (0, 0)) (zqB BK726.out) hb)
     have n6_ := zA (blk_below (g := gb733) (o := .cells #[.slice Ao15 t727.length co15, .slice (some ad734) t730.length co18] 40 (0, 0)) (zqB BK733.out) hb)
     have n7_ := zA (Kd.C_below (by repeat (first | (with_reducible exact HR734_0.out) | (with_reducible refine Kd.C_alloc ?_ _) | (with_reducible refine Kd.C_drewN ?_ _) | (with_reducible refine Kd.C_drew ?_) | exact HR734_0.out)) hb)
     have n8_ := zA (Kd.C_below (by repeat (first | (with_reducible exact HR735_0.out) | (with_reducible refine Kd.C_alloc ?_ _) | (with_reducible refine Kd.C_drewN ?_ _) | (with_reducible refine Kd.C_drew ?_) | exact HR735_0.out)) hb)
     have n9_ := zA (below_step (zqH HB.out GE726.out GE733.out) hb)
     clear HO729
     clear HO732
     clear HL734_0
     clear HL735_0
     clear BK726
     clear BK733
     clear HR734_0
     clear HR735_0
     clear HB
     have HO729 := n0_
     have HO732 := n1_
     have HL734_0 := n2_
     have HL735_0 := n3_
     have HO738 := n4_
     have BK726 := n5_
     have BK733 := n6_
     have HR734_0 := n7_
     have HR735_0 := n8_
     have HB := n9_
     clear n0_ n1_ n2_ n3_ n4_ n5_ n6_ n7_ n8_ n9_
     clear hb ho22
     obtain ⟨Ao23, co23, eo23⟩ := Kd.N_slice HO738.out
     (first | subst eo23 | (injection eo23 with f1_ f2_ f3_; have f4_ := f1_.symm; have f5_ := f3_.symm; clear f1_ f2_ f3_; subst f4_; subst f5_))
     refine hK.out _ _ ⟨(blk_cell BK733.out 0).trans rfl, (blk_cell BK733.out 1).trans rfl, HS2_, HS3_⟩ (fun hHeld => ?_)
     clear hK K
     refine norm_ (a' := ?_) ?_ ?_
     rotate_left
     ·
      show Act.put _ (some 41) _ = _
      simp only [Act.put, List.setIfInBounds_toArray, List.set_cons_zero, List.set_cons_succ, i64_w, i32_w]
      rfl
     refine pure_ (i := 11) (N := some 42) (v := ?_) (a' := ?_) #[true, true, true, true, true, true, true, true, true, true, true, true, false, false] rfl rfl (any_of HT_.out (by kernel_rfl)) (fun _ _ _ h => h) (Or.inl ⟨by rfl, ?_⟩) ?_ ?_
     rotate_left
     ·
      intro w'
      go_simp
      with_reducible rfl
     rotate_left
     ·
      simp only [Act.put, List.setIfInBounds_toArray, List.set_cons_zero, List.set_cons_succ, i64_w, i32_w]
      rfl
     refine one_ (i := 12) (N := some 7) #[true, true, true, true, true, true, true, true, true, true, true, true, true, false] rfl rfl (one_of HT_.out (by kernel_rfl)) (by decide) (fun K hK => ?_)
     refine box_step ?hg (N := 7) ?hd (cs := #[.slice none 0 0, .slice none 0 0]) (t := 40) ?hr ?_; (case hd => rfl); (case hg => rfl); (case hr => first | (go_simp; done) | (go_simp; rfl))
     intro gb739 hg w24 hbox hb
     have HS2_ := (hb.cell (World.block_lt_of_cell? _ _ (hHeld.2.2.1))).trans (hHeld.2.2.1)
     have HS3_ := (hb.cell (World.block_lt_of_cell? _ _ (hHeld.2.2.2))).trans (hHeld.2.2.2)
     have n0_ := zA (Kd.N_below (Kd.N_elderB (zqN HO729.out) gb739 (Nat.le_of_eq hg.symm)) hb)
     have n1_ := zA (Kd.N_below (Kd.N_elderB (zqN HO732.out) gb739 (Nat.le_of_eq hg.symm)) hb)
     have n2_ := zA (Kd.V_below (Kd.V_elderB (by (with_reducible repeat (first | apply Kd.V_alloc | apply Kd.V_drewN | apply Kd.V_drew)); exact HL734_0.out) gb739 (Nat.le_of_eq hg.symm)) hb)
     have n3_ := zA (Kd.V_below (Kd.V_elderB (by (with_reducible repeat (first | apply Kd.V_alloc | apply Kd.V_drewN | apply Kd.V_drew)); exact HL735_0.out) gb739 (Nat.le_of_eq hg.symm)) hb)
     have n4_ := zA (Kd.N_below (Kd.N_elderB (zqN HO738.out) gb739 (Nat.le_of_eq hg.symm)) hb)
     have n5_ := zA (blk_below (g := gb726) (o := .cells #[.slice A0_0 l0_0.length c0_0, .slice A0_1 l0_1.length c0_1, .slice A0_2 l0_2.length c0_2, .slice A0_3 l0_3.length c0_3, .bool a0_4, .bool true] 79 (0, 0)) (zqB BK726.out) hb)
     have n6_ := zA (blk_below (g := gb733) (o := .cells #[.slice Ao15 t727.length co15, .slice (some ad734) t730.length co18] 40 (0, 0)) (zqB BK733.out) hb)
     have n7_ := zA (Kd.C_below (by repeat (first | (with_reducible exact HR734_0.out) | (with_reducible refine Kd.C_alloc ?_ _) | (with_reducible refine Kd.C_drewN ?_ _) | (with_reducible refine Kd.C_drew ?_) | exact HR734_0.out)) hb)
     have n8_ := zA (Kd.C_below (by repeat (first | (with_reducible exact HR735_0.out) | (with_reducible refine Kd.C_alloc ?_ _) | (with_reducible refine Kd.C_drewN ?_ _) | (with_reducible refine Kd.C_drew ?_) | exact HR735_0.out)) hb)
     have n9_ := zA (below_step (zqH HB.out GE726.out GE733.out) hb)
     have n10_ := zA (hbox)
     have n11_ := zA ((by rw [hg]; exact (below_size (zqH HB.out GE726.out GE733.out)) : w.heap.size ≤ gb739))
     have n12_ := zA ((by rw [hg]; exact (below_size (zqH HB.out GE726.out GE733.out)) : w.heap.size ≤ gb739))
     have n13_ := zA ((by rw [hg]; exact Nat.ne_of_lt (blk_lt (g := gb726) (o := .cells #[.slice A0_0 l0_0.length c0_0, .slice A0_1 l0_1.length c0_1, .slice A0_2 l0_2.length c0_2, .slice A0_3 l0_3.length c0_3, .bool a0_4, .bool true] 79 (0, 0)) (zqB BK726.out)) : gb726 ≠ gb739))
     have n14_ := zA ((by rw [hg]; exact Nat.ne_of_gt (blk_lt (g := gb726) (o := .cells #[.slice A0_0 l0_0.length c0_0, .slice A0_1 l0_1.length c0_1, .slice A0_2 l0_2.length c0_2, .slice A0_3 l0_3.length c0_3, .bool a0_4, .bool true] 79 (0, 0)) (zqB BK726.out)) : gb739 ≠ gb726))
     have n15_ := zA ((by rw [hg]; exact Nat.ne_of_lt (blk_lt (g := gb733) (o := .cells #[.slice Ao15 t727.length co15, .slice (some ad734) t730.length co18] 40 (0, 0)) (zqB BK733.out)) : gb733 ≠ gb739))
     have n16_ := zA ((by rw [hg]; exact Nat.ne_of_gt (blk_lt (g := gb733) (o := .cells #[.slice Ao15 t727.length co15, .slice (some ad734) t730.length co18] 40 (0, 0)) (zqB BK733.out)) : gb739 ≠ gb733))
     clear HO729
     clear HO732
     clear HL734_0
     clear HL735_0
     clear HO738
     clear BK726
     clear BK733
     clear HR734_0
     clear HR735_0
     clear HB
     have HO729 := n0_
     have HO732 := n1_
     have HL734_0 := n2_
     have HL735_0 := n3_
     have HO738 := n4_
     have BK726 := n5_
     have BK733 := n6_
     have HR734_0 := n7_
     have HR735_0 := n8_
     have HB := n9_
     have BK739 := n10_
     have GW739 := n11_
     have GE739 := n12_
     have NB726_739 := n13_
     have NB739_726 := n14_
     have NB733_739 := n15_
     have NB739_733 := n16_
     clear n0_ n1_ n2_ n3_ n4_ n5_ n6_ n7_ n8_ n9_ n10_ n11_ n12_ n13_ n14_ n15_ n16_
     clear hb hbox hg
     refine hK.out _ _ ⟨(blk_cell BK733.out 0).trans rfl, (blk_cell BK733.out 1).trans rfl, HS2_, HS3_⟩ (fun hHeld => ?_)
     clear hK K
     refine norm_ (a' := ?_) ?_ ?_
     rotate_left
     ·
      show Act.put _ (some 7) _ = _
      simp only [Act.put, List.setIfInBounds_toArray, List.set_cons_zero, List.set_cons_succ, i64_w, i32_w]
      rfl
     exact norm_ (by simp only [putAll, Act.put, List.setIfInBounds_toArray, List.set_cons_zero, List.set_cons_succ]) (hCont (.slice Ao23 y736.length co23, gb739) _ ⟨hHeld, (by (with_reducible repeat (first | apply Kd.V_alloc | apply Kd.V_drewN | apply Kd.V_drew)); exact Kd.V_mono HL734_0.out (fun _ hk => ⟨hk.1.1.1.1, ⟨hk.1.1.2, ⟨hk.1.2, ⟨hk.1.1.1.2.1, ⟨hk.1.1.1.2.2, hk.2⟩⟩⟩⟩⟩)), (by (with_reducible repeat (first | apply Kd.V_alloc | apply Kd.V_drewN | apply Kd.V_drew)); exact Kd.V_mono HL735_0.out (fun _ hk => ⟨hk.1.1.1.1, ⟨hk.1.1.2, ⟨hk.1.2, ⟨hk.1.1.1.2.1, ⟨hk.1.1.1.2.2, hk.2⟩⟩⟩⟩⟩)), (by (with_reducible repeat (first | apply Kd.N_alloc | apply Kd.N_drewN | apply Kd.N_drew)); exact Kd.N_mono HO729.out (fun _ hk => ⟨hk.1.1.1, ⟨hk.1.2, ⟨hk.1.1.2.1, ⟨hk.1.1.2.2, hk.2⟩⟩⟩⟩)), (by (with_reducible repeat (first | apply Kd.N_alloc | apply Kd.N_drewN | apply Kd.N_drew)); exact Kd.N_mono HO732.out (fun _ hk => ⟨hk.1.1.1, ⟨hk.1.2, ⟨hk.1.1.2.1, ⟨hk.1.1.2.2, hk.2⟩⟩⟩⟩)), (by (with_reducible repeat (first | apply Kd.N_alloc | apply Kd.N_drewN | apply Kd.N_drew)); exact Kd.N_mono HO738.out (fun _ hk => ⟨hk.1.1, ⟨hk.1.2.1, ⟨hk.1.2.2.1, ⟨hk.1.2.2.2, hk.2⟩⟩⟩⟩)), (zqB BK726.out), (zqB BK733.out), (zqB BK739.out), GW739.out, GE739.out, NB726_739.out, NB739_726.out, NB733_739.out, NB739_733.out, (by repeat (first | (with_reducible first | exact HB.out | apply below_alloc | apply pw_below_drewN | apply below_drew1 | refine below_set ?_ GE726.out | refine below_set ?_ GE733.out | refine below_set ?_ GE739.out) | exact HB.out))⟩)
    ·
     skip
     refine box_step ?hg (N := 7) ?hd (cs := #[.slice none 0 0, .slice none 0 0]) (t := 40) ?hr ?_; (case hd => rfl); (case hg => rfl); (case hr => first | (go_simp; done) | (go_simp; rfl))
     intro gb739 hg w21 hbox hb
     have HS2_ := (hb.cell (World.block_lt_of_cell? _ _ (hHeld.2.2.1))).trans (hHeld.2.2.1)
     have HS3_ := (hb.cell (World.block_lt_of_cell? _ _ (hHeld.2.2.2))).trans (hHeld.2.2.2)
     have n0_ := zA (Kd.N_below (Kd.N_elderB (zqN HO729.out) gb739 (Nat.le_of_eq hg.symm)) hb)
     have n1_ := zA (Kd.N_below (Kd.N_elderB (zqN HO732.out) gb739 (Nat.le_of_eq hg.symm)) hb)
     have n2_ := zA (Kd.V_below (Kd.V_elderB (by (with_reducible repeat (first | apply Kd.V_alloc | apply Kd.V_drewN | apply Kd.V_drew)); exact HL734_0.out) gb739 (Nat.le_of_eq hg.symm)) hb)
     have n3_ := zA (Kd.V_below (Kd.V_elderB (by (with_reducible repeat (first | apply Kd.V_alloc | apply Kd.V_drewN | apply Kd.V_drew)); exact HL735_0.out) gb739 (Nat.le_of_eq hg.symm)) hb)
     have n4_ := zA (blk_below (g := gb726) (o := .cells #[.slice A0_0 l0_0.length c0_0, .slice A0_1 l0_1.length c0_1, .slice A0_2 l0_2.length c0_2, .slice A0_3 l0_3.length c0_3, .bool a0_4, .bool true] 79 (0, 0)) (zqB BK726.out) hb)
     have n5_ := zA (blk_below (g := gb733) (o := .cells #[.slice Ao15 t727.length co15, .slice (some ad734) t730.length co18] 40 (0, 0)) (zqB BK733.out) hb)
     have n6_ := zA (Kd.C_below (by repeat (first | (with_reducible exact HR734_0.out) | (with_reducible refine Kd.C_alloc ?_ _) | (with_reducible refine Kd.C_drewN ?_ _) | (with_reducible refine Kd.C_drew ?_) | exact HR734_0.out)) hb)
     have n7_ := zA (Kd.C_below (by repeat (first | (with_reducible exact HR735_0.out) | (with_reducible refine Kd.C_alloc ?_ _) | (with_reducible refine Kd.C_drewN ?_ _) | (with_reducible refine Kd.C_drew ?_) | exact HR735_0.out)) hb)
     have n8_ := zA (below_step (zqH HB.out GE726.out GE733.out) hb)
     have n9_ := zA (hbox)
     have n10_ := zA ((by rw [hg]; exact (below_size (zqH HB.out GE726.out GE733.out)) : w.heap.size ≤ gb739))
     have n11_ := zA ((by rw [hg]; exact (below_size (zqH HB.out GE726.out GE733.out)) : w.heap.size ≤ gb739))
     have n12_ := zA ((by rw [hg]; exact Nat.ne_of_lt (blk_lt (g := gb726) (o := .cells #[.slice A0_0 l0_0.length c0_0, .slice A0_1 l0_1.length c0_1, .slice A0_2 l0_2.length c0_2, .slice A0_3 l0_3.length c0_3, .bool a0_4, .bool true] 79 (0, 0)) (zqB BK726.out)) : gb726 ≠ gb739))
     have n13_ := zA ((by rw [hg]; exact Nat.ne_of_gt (blk_lt (g := gb726) (o := .cells #[.slice A0_0 l0_0.length c0_0, .slice A0_1 l0_1.length c0_1, .slice A0_2 l0_2.length c0_2, .slice A0_3 l0_3.length c0_3, .bool a0_4, .bool true] 79 (0, 0)) (zqB BK726.out)) : gb739 ≠ gb726))
     have n14_ := zA ((by rw [hg]; exact Nat.ne_of_lt (blk_lt (g := gb733) (o := .cells #[.slice Ao15 t727.length co15, .slice (some ad734) t730.length co18] 40 (0, 0)) (zqB BK733.out)) : gb733 ≠ gb739))
     have n15_ := zA ((by rw [hg]; exact Nat.ne_of_gt (blk_lt (g := gb733) (o := .cells #[.slice Ao15 t727.length co15, .slice (some ad734) t730.length co18] 40 (0, 0)) (zqB BK733.out)) : gb739 ≠ gb733))
     clear HO729
     clear HO732
     clear HL734_0
     clear HL735_0
     clear BK726
     clear BK733
     clear HR734_0
     clear HR735_0
     clear HB
     have HO729 := n0_
     have HO732 := n1_
     have HL734_0 := n2_
     have HL735_0 := n3_
     have BK726 := n4_
     have BK733 := n5_
     have HR734_0 := n6_
     have HR735_0 := n7_
     have HB := n8_
     have BK739 := n9_
     have GW739 := n10_
     have GE739 := n11_
     have NB726_739 := n12_
     have NB739_726 := n13_
     have NB733_739 := n14_
     have NB739_733 := n15_
     clear n0_ n1_ n2_ n3_ n4_ n5_ n6_ n7_ n8_ n9_ n10_ n11_ n12_ n13_ n14_ n15_
     clear hb hbox hg
     refine hK.out _ _ ⟨(blk_cell BK733.out 0).trans rfl, (blk_cell BK733.out 1).trans rfl, HS2_, HS3_⟩ (fun hHeld => ?_)
     clear hK K
     refine norm_ (a' := ?_) ?_ ?_
     rotate_left
     ·
      show Act.put _ (some 7) _ = _
      simp only [Act.put, List.setIfInBounds_toArray, List.set_cons_zero, List.set_cons_succ, i64_w, i32_w]
      rfl
     refine one_ (i := 10) (N := some 41) #[true, true, true, true, true, true, true, true, true, true, true, false, true, false] rfl rfl (one_of HT_.out (by kernel_rfl)) (by decide) (fun K hK => ?_)
     refine Kd.N_lit_step (Kd.slice 71 k71) _ 22 ?hg (N' := 41) ?hd (xs := ([rd_L4 t730 1, rd_L4 t730 0] : List (List (S71)))) (inner := [.slice A734_0 (rd_L4 t730 1).length c734_0, .slice A735_0 (rd_L4 t730 0).length c735_0]) (ok := (fun k_ => some k_ ≠ (.slice Ao15 t727.length co15 : Value).ownBlock ∧ some k_ ≠ (.slice (some ad734) t730.length co18 : Value).ownBlock ∧ k_ ≠ gb726 ∧ k_ ≠ gb733 ∧ k_ ≠ gb739)) (okp := (fun k_ => some k_ ≠ (.slice Ao15 t727.length co15 : Value).ownBlock ∧ some k_ ≠ (.slice (some ad734) t730.length co18 : Value).ownBlock ∧ k_ ≠ gb726 ∧ k_ ≠ gb733 ∧ k_ ≠ gb739)) ?hr ?hp (fun _ hk => hk) ((show ∀ k_, w21.heap.size ≤ k_ → (fun k_ => some k_ ≠ (.slice Ao15 t727.length co15 : Value).ownBlock ∧ some k_ ≠ (.slice (some ad734) t730.length co18 : Value).ownBlock ∧ k_ ≠ gb726 ∧ k_ ≠ gb733 ∧ k_ ≠ gb739) k_ from fun k_ hk => ⟨Kd.fresh' (Kd.N_lt (zqN HO729.out)) k_ hk, Kd.fresh' (Kd.N_lt (zqN HO732.out)) k_ hk, Kd.freshB (g := gb726) (o := .cells #[.slice A0_0 l0_0.length c0_0, .slice A0_1 l0_1.length c0_1, .slice A0_2 l0_2.length c0_2, .slice A0_3 l0_3.length c0_3, .bool a0_4, .bool true] 79 (0, 0)) (zqB BK726.out) k_ hk, Kd.freshB (g := gb733) (o := .cells #[.slice Ao15 t727.length co15, .slice (some ad734) t730.length co18] 40 (0, 0)) (zqB BK733.out) k_ hk, Kd.freshB (g := gb739) (o := .cells #[.slice none 0 0, .slice none 0 0] 40 (0, 0)) (zqB BK739.out) k_ hk⟩) _ (Nat.le_refl _)) (Below.refl _ _) (Nat.le_refl _) (by simp) ?_; (case hd => rfl); (case hg => rfl); (case hr => first | (go_simp; done) | (go_simp; rfl)); (case hp => exact (Reps.one (show Kd.FK (Kd.slice 71 k71) _ _ (rd_L4 t730 1) [.slice A734_0 (rd_L4 t730 1).length c734_0] from (Kd.FK_slice_mk (Kd.V_reads' (Kd.V_mono (ok' := (fun k_ => some k_ ≠ (.slice Ao15 t727.length co15 : Value).ownBlock ∧ some k_ ≠ (.slice (some ad734) t730.length co18 : Value).ownBlock ∧ k_ ≠ gb726 ∧ k_ ≠ gb733 ∧ k_ ≠ gb739)) (HL734_0.out) (fun k_ hk => ⟨hk.1.1.1, ⟨hk.1.2, ⟨hk.1.1.2.1, ⟨hk.1.1.2.2, hk.2⟩⟩⟩⟩))).2.1 (Kd.V_F (Kd.V_mono (ok' := (fun k_ => some k_ ≠ (.slice Ao15 t727.length co15 : Value).ownBlock ∧ some k_ ≠ (.slice (some ad734) t730.length co18 : Value).ownBlock ∧ k_ ≠ gb726 ∧ k_ ≠ gb733 ∧ k_ ≠ gb739)) (HL734_0.out) (fun k_ hk => ⟨hk.1.1.1, ⟨hk.1.2, ⟨hk.1.1.2.1, ⟨hk.1.1.2.2, hk.2⟩⟩⟩⟩))))) (Reps.one (show Kd.FK (Kd.slice 71 k71) _ _ (rd_L4 t730 0) [.slice A735_0 (rd_L4 t730 0).length c735_0] from (Kd.FK_slice_mk (Kd.V_reads' (Kd.V_mono (ok' := (fun k_ => some k_ ≠ (.slice Ao15 t727.length co15 : Value).ownBlock ∧ some k_ ≠ (.slice (some ad734) t730.length co18 : Value).ownBlock ∧ k_ ≠ gb726 ∧ k_ ≠ gb733 ∧ k_ ≠ gb739)) (HL735_0.out) (fun k_ hk => ⟨hk.1.1.1, ⟨hk.1.2, ⟨hk.1.1.2.1, ⟨hk.1.1.2.2, hk.2⟩⟩⟩⟩))).2.1 (Kd.V_F (Kd.V_mono (ok' := (fun k_ => some k_ ≠ (.slice Ao15 t727.length co15 : Value).ownBlock ∧ some k_ ≠ (.slice (some ad734) t730.length co18 : Value).ownBlock ∧ k_ ≠ gb726 ∧ k_ ≠ gb733 ∧ k_ ≠ gb739)) (HL735_0.out) (fun k_ hk => ⟨hk.1.1.1, ⟨hk.1.2, ⟨hk.1.1.2.1, ⟨hk.1.1.2.2, hk.2⟩⟩⟩⟩))))) (Reps.none _ _))))
     intro v737 w22 ho23 hb hg_ hnew_
     have HS2_ := (hb.cell (World.block_lt_of_cell? _ _ (hHeld.2.2.1))).trans (hHeld.2.2.1)
     have HS3_ := (hb.cell (World.block_lt_of_cell? _ _ (hHeld.2.2.2))).trans (hHeld.2.2.2)
     clear hg_ hnew_
     (first | rw [← Ny736.out] at ho23 | (simp only [Int.reduceToNat] at ho23; rw [← Ny736.out] at ho23))
     have n0_ := zA (Kd.N_elder' (zqN HO729.out) (Kd.N_base ho23) hb)
     have n1_ := zA (Kd.N_elder' (zqN HO732.out) (Kd.N_base ho23) hb)
     have n2_ := zA (Kd.V_elder' (by (with_reducible repeat (first | apply Kd.V_alloc | apply Kd.V_drewN | apply Kd.V_drew)); exact HL734_0.out) (Kd.N_base ho23) hb)
     have n3_ := zA (Kd.V_elder' (by (with_reducible repeat (first | apply Kd.V_alloc | apply Kd.V_drewN | apply Kd.V_drew)); exact HL735_0.out) (Kd.N_base ho23) hb)
     have n4_ := zA (Kd.N_lower ho23 (below_size (by repeat (first | (with_reducible first | exact HB.out | apply below_alloc | apply pw_below_drewN | apply below_drew1 | refine below_set ?_ GE726.out | refine below_set ?_ GE733.out | refine below_set ?_ GE739.out) | exact HB.out))))
     have n5_ := zA (blk_below (g := gb726) (o := .cells #[.slice A0_0 l0_0.length c0_0, .slice A0_1 l0_1.length c0_1, .slice A0_2 l0_2.length c0_2, .slice A0_3 l0_3.length c0_3, .bool a0_4, .bool true] 79 (0, 0)) (zqB BK726.out) hb)
     have n6_ := zA (blk_below (g := gb733) (o := .cells #[.slice Ao15 t727.length co15, .slice (some ad734) t730.length co18] 40 (0, 0)) (zqB BK733.out) hb)
     have n7_ := zA (Kd.C_below (by repeat (first | (with_reducible exact HR734_0.out) | (with_reducible refine Kd.C_alloc ?_ _) | (with_reducible refine Kd.C_drewN ?_ _) | (with_reducible refine Kd.C_drew ?_) | exact HR734_0.out)) hb)
     have n8_ := zA (Kd.C_below (by repeat (first | (with_reducible exact HR735_0.out) | (with_reducible refine Kd.C_alloc ?_ _) | (with_reducible refine Kd.C_drewN ?_ _) | (with_reducible refine Kd.C_drew ?_) | exact HR735_0.out)) hb)
     have n9_ := zA (blk_below (g := gb739) (o := .cells #[.slice none 0 0, .slice none 0 0] 40 (0, 0)) (zqB BK739.out) hb)
     have n10_ := zA (below_step (by repeat (first | (with_reducible first | exact HB.out | apply below_alloc | apply pw_below_drewN | apply below_drew1 | refine below_set ?_ GE726.out | refine below_set ?_ GE733.out | refine below_set ?_ GE739.out) | exact HB.out)) hb)
     clear HO729
     clear HO732
     clear HL734_0
     clear HL735_0
     clear BK726
     clear BK733
     clear HR734_0
     clear HR735_0
     clear BK739
     clear HB
     have HO729 := n0_
     have HO732 := n1_
     have HL734_0 := n2_
     have HL735_0 := n3_
     have HO738 := n4_
     have BK726 := n5_
     have BK733 := n6_
     have HR734_0 := n7_
     have HR735_0 := n8_
     have BK739 := n9_
     have HB := n10_
     clear n0_ n1_ n2_ n3_ n4_ n5_ n6_ n7_ n8_ n9_ n10_
     clear hb ho23
     obtain ⟨Ao24, co24, eo24⟩ := Kd.N_slice HO738.out
     (first | subst eo24 | (injection eo24 with f1_ f2_ f3_; have f4_ := f1_.symm; have f5_ := f3_.symm; clear f1_ f2_ f3_; subst f4_; subst f5_))
     refine hK.out _ _ ⟨(blk_cell BK733.out 0).trans rfl, (blk_cell BK733.out 1).trans rfl, HS2_, HS3_⟩ (fun hHeld => ?_)
     clear hK K
     refine norm_ (a' := ?_) ?_ ?_
     rotate_left
     ·
      show Act.put _ (some 41) _ = _
      simp only [Act.put, List.setIfInBounds_toArray, List.set_cons_zero, List.set_cons_succ, i64_w, i32_w]
      rfl
     refine pure_ (i := 11) (N := some 42) (v := ?_) (a' := ?_) #[true, true, true, true, true, true, true, true, true, true, true, true, true, false] rfl rfl (any_of HT_.out (by kernel_rfl)) (fun _ _ _ h => h) (Or.inl ⟨by rfl, ?_⟩) ?_ ?_
     rotate_left
     ·
      intro w'
      go_simp
      with_reducible rfl
     rotate_left
     ·
      simp only [Act.put, List.setIfInBounds_toArray, List.set_cons_zero, List.set_cons_succ, i64_w, i32_w]
      rfl
     exact norm_ (by simp only [putAll, Act.put, List.setIfInBounds_toArray, List.set_cons_zero, List.set_cons_succ]) (hCont (.slice Ao24 y736.length co24, gb739) _ ⟨hHeld, (by (with_reducible repeat (first | apply Kd.V_alloc | apply Kd.V_drewN | apply Kd.V_drew)); exact Kd.V_mono HL734_0.out (fun _ hk => ⟨hk.1.1.1.1, ⟨hk.1.1.2, ⟨hk.2, ⟨hk.1.1.1.2.1, ⟨hk.1.1.1.2.2, hk.1.2⟩⟩⟩⟩⟩)), (by (with_reducible repeat (first | apply Kd.V_alloc | apply Kd.V_drewN | apply Kd.V_drew)); exact Kd.V_mono HL735_0.out (fun _ hk => ⟨hk.1.1.1.1, ⟨hk.1.1.2, ⟨hk.2, ⟨hk.1.1.1.2.1, ⟨hk.1.1.1.2.2, hk.1.2⟩⟩⟩⟩⟩)), (by (with_reducible repeat (first | apply Kd.N_alloc | apply Kd.N_drewN | apply Kd.N_drew)); exact Kd.N_mono HO729.out (fun _ hk => ⟨hk.1.1.1, ⟨hk.2, ⟨hk.1.1.2.1, ⟨hk.1.1.2.2, hk.1.2⟩⟩⟩⟩)), (by (with_reducible repeat (first | apply Kd.N_alloc | apply Kd.N_drewN | apply Kd.N_drew)); exact Kd.N_mono HO732.out (fun _ hk => ⟨hk.1.1.1, ⟨hk.2, ⟨hk.1.1.2.1, ⟨hk.1.1.2.2, hk.1.2⟩⟩⟩⟩)), (zqN HO738.out), (zqB BK726.out), (zqB BK733.out), (zqB BK739.out), GW739.out, GE739.out, NB726_739.out, NB739_726.out, NB733_739.out, NB739_733.out, (by repeat (first | (with_reducible first | exact HB.out | apply below_alloc | apply pw_below_drewN | apply below_drew1 | refine below_set ?_ GE726.out | refine below_set ?_ GE733.out | refine below_set ?_ GE739.out) | exact HB.out))⟩)
   rintro ⟨v737, gb739⟩ w25 ⟨hS_, h0_, h1_, h2_, h3_, h4_, h5_, h6_, h7_, h8_, h9_, h10_, h11_, h12_, h13_, h14_⟩
   have n0_ : Aside0 (Kd.V k71 71 w25 w.heap.size (fun k_ => some k_ ≠ (.slice Ao15 t727.length co15 : Value).ownBlock ∧ some k_ ≠ (.slice (some ad734) t730.length co18 : Value).ownBlock ∧ some k_ ≠ (v737 : Value).ownBlock ∧ k_ ≠ gb726 ∧ k_ ≠ gb733 ∧ k_ ≠ gb739) (.slice A734_0 (rd_L4 t730 1).length c734_0) (rd_L4 t730 1)) := ⟨h0_⟩
   have n1_ : Aside0 (Kd.V k71 71 w25 w.heap.size (fun k_ => some k_ ≠ (.slice Ao15 t727.length co15 : Value).ownBlock ∧ some k_ ≠ (.slice (some ad734) t730.length co18 : Value).ownBlock ∧ some k_ ≠ (v737 : Value).ownBlock ∧ k_ ≠ gb726 ∧ k_ ≠ gb733 ∧ k_ ≠ gb739) (.slice A735_0 (rd_L4 t730 0).length c735_0) (rd_L4 t730 0)) := ⟨h1_⟩
   have n2_ : Aside0 (Kd.N (Kd.slice 71 k71) 22 w25 w.heap.size (fun k_ => some k_ ≠ (.slice (some ad734) t730.length co18 : Value).ownBlock ∧ some k_ ≠ (v737 : Value).ownBlock ∧ k_ ≠ gb726 ∧ k_ ≠ gb733 ∧ k_ ≠ gb739) (.slice Ao15 t727.length co15) t727) := ⟨h2_⟩
   have n3_ : Aside0 (Kd.N (Kd.slice 71 k71) 22 w25 w.heap.size (fun k_ => some k_ ≠ (.slice Ao15 t727.length co15 : Value).ownBlock ∧ some k_ ≠ (v737 : Value).ownBlock ∧ k_ ≠ gb726 ∧ k_ ≠ gb733 ∧ k_ ≠ gb739) (.slice (some ad734) t730.length co18) t730) := ⟨h3_⟩
   have n4_ : Aside0 (Kd.N (Kd.slice 71 k71) 22 w25 w.heap.size (fun k_ => some k_ ≠ (.slice Ao15 t727.length co15 : Value).ownBlock ∧ some k_ ≠ (.slice (some ad734) t730.length co18 : Value).ownBlock ∧ k_ ≠ gb726 ∧ k_ ≠ gb733 ∧ k_ ≠ gb739) v737 y736) := ⟨h4_⟩
   have n5_ : Aside0 (w25.heap[gb726]? = some (.cells #[.slice A0_0 l0_0.length c0_0, .slice A0_1 l0_1.length c0_1, .slice A0_2 l0_2.length c0_2, .slice A0_3 l0_3.length c0_3, .bool a0_4, .bool true] 79 (0, 0))) := ⟨h5_⟩
   have n6_ : Aside0 (w25.heap[gb733]? = some (.cells #[.slice Ao15 t727.length co15, .slice (some ad734) t730.length co18] 40 (0, 0))) := ⟨h6_⟩
   have n7_ : Aside0 (w25.heap[gb739]? = some (.cells #[.slice none 0 0, .slice none 0 0] 40 (0, 0))) := ⟨h7_⟩
   have n8_ : Aside0 (w.heap.size ≤ gb739) := ⟨h8_⟩
   have n9_ : Aside0 (w.heap.size ≤ gb739) := ⟨h9_⟩
   have n10_ : Aside0 (gb726 ≠ gb739) := ⟨h10_⟩
   have n11_ : Aside0 (gb739 ≠ gb726) := ⟨h11_⟩
   have n12_ : Aside0 (gb733 ≠ gb739) := ⟨h12_⟩
   have n13_ : Aside0 (gb739 ≠ gb733) := ⟨h13_⟩
   have n14_ : Aside0 (Below w.heap.size w w25) := ⟨h14_⟩
   clear HO729
   clear HO732
   clear BK726
   clear BK733
   clear HB
   clear h0_ h1_ h2_ h3_ h4_ h5_ h6_ h7_ h8_ h9_ h10_ h11_ h12_ h13_ h14_
   have HL734_0 := n0_
   have HL735_0 := n1_
   have HO729 := n2_
   have HO732 := n3_
   have HO738 := n4_
   have BK726 := n5_
   have BK733 := n6_
   have BK739 := n7_
   have GW739 := n8_
   have GE739 := n9_
   have NB726_739 := n10_
   have NB739_726 := n11_
   have NB733_739 := n12_
   have NB739_733 := n13_
   have HB := n14_
   clear n0_ n1_ n2_ n3_ n4_ n5_ n6_ n7_ n8_ n9_ n10_ n11_ n12_ n13_ n14_
   have hHeld : w25.cell? ⟨gb733, 0, none⟩ = some (.slice Ao15 t727.length co15) ∧ w25.cell? ⟨gb733, 1, none⟩ = some (.slice (some ad734) t730.length co18) ∧ w25.cell? ⟨ad734.block, ad734.off + 1, none⟩ = some (.slice A734_0 (rd_L4 t730 1).length c734_0) ∧ w25.cell? ad734 = some (.slice A735_0 (rd_L4 t730 0).length c735_0) := hS_
   obtain ⟨Ao26, co26, eo26⟩ := Kd.N_slice HO738.out
   (first | subst eo26 | (injection eo26 with f1_ f2_ f3_; have f4_ := f1_.symm; have f5_ := f3_.symm; clear f1_ f2_ f3_; subst f4_; subst f5_))
   refine norm_ (a' := ?_) ?_ ?_
   rotate_left
   ·
    simp only [putAll, Act.put, List.setIfInBounds_toArray, List.set_cons_zero, List.set_cons_succ]
    rfl
   refine one_ (i := 13) (N := none) #[true, true, true, true, true, true, true, true, true, true, true, true, true, true] rfl rfl (one_of HT_.out (by kernel_rfl)) (by decide) (fun K hK => ?_)
   have hs27 : w25.cell? ⟨gb739, 0, none⟩ = some (.slice none 0 0) := (blk_cell BK739.out 0).trans rfl
   have hfs27 := blk_frozen BK739.out 0
   have hns27_0 := NB726_739.out
   have hns27_1 := NB733_739.out
   have hms27_0 := NB739_726.out
   have hms27_1 := NB739_733.out
   have hs28 : w25.cell? ⟨gb739, 1, none⟩ = some (.slice none 0 0) := (blk_cell BK739.out 1).trans rfl
   have hfs28 := blk_frozen BK739.out 1
   have hns28_0 := NB726_739.out
   have hns28_1 := NB733_739.out
   have hms28_0 := NB739_726.out
   have hms28_1 := NB739_733.out
   refine skip_ (w1 := ?_) (by rfl) rfl ?_ ?_
   rotate_left
   ·
    go_simp
    rfl
   refine hK.out _ _ ⟨((cell_far (p := ⟨gb739, _, none⟩) NB733_739.out _).trans (((cell_far (p := ⟨gb739, _, none⟩) NB733_739.out _).trans (hHeld.1)))), ((cell_far (p := ⟨gb739, _, none⟩) NB733_739.out _).trans (((cell_far (p := ⟨gb739, _, none⟩) NB733_739.out _).trans (hHeld.2.1)))), ((cell_far (p := ⟨gb739, _, none⟩) (by first | exact Kd.own_blk (Kd.N_away HO732.out (fun _ hk => hk.2.2.2.2)) | (rw [add_block]; exact Kd.own_blk (Kd.N_away HO732.out (fun _ hk => hk.2.2.2.2))) | (show (Addr.add _ _).block ≠ _; rw [add_block]; exact Kd.own_blk (Kd.N_away HO732.out (fun _ hk => hk.2.2.2.2))) | (dsimp only; exact Kd.own_blk (Kd.N_away HO732.out (fun _ hk => hk.2.2.2.2)))) _).trans (((cell_far (p := ⟨gb739, _, none⟩) (by first | exact Kd.own_blk (Kd.N_away HO732.out (fun _ hk => hk.2.2.2.2)) | (rw [add_block]; exact Kd.own_blk (Kd.N_away HO732.out (fun _ hk => hk.2.2.2.2))) | (show (Addr.add _ _).block ≠ _; rw [add_block]; exact Kd.own_blk (Kd.N_away HO732.out (fun _ hk => hk.2.2.2.2))) | (dsimp only; exact Kd.own_blk (Kd.N_away HO732.out (fun _ hk => hk.2.2.2.2)))) _).trans (hHeld.2.2.1)))), ((cell_far (p := ⟨gb739, _, none⟩) (by first | exact Kd.own_blk (Kd.N_away HO732.out (fun _ hk => hk.2.2.2.2)) | (rw [add_block]; exact Kd.own_blk (Kd.N_away HO732.out (fun _ hk => hk.2.2.2.2))) | (show (Addr.add _ _).block ≠ _; rw [add_block]; exact Kd.own_blk (Kd.N_away HO732.out (fun _ hk => hk.2.2.2.2))) | (dsimp only; exact Kd.own_blk (Kd.N_away HO732.out (fun _ hk => hk.2.2.2.2)))) _).trans (((cell_far (p := ⟨gb739, _, none⟩) (by first | exact Kd.own_blk (Kd.N_away HO732.out (fun _ hk => hk.2.2.2.2)) | (rw [add_block]; exact Kd.own_blk (Kd.N_away HO732.out (fun _ hk => hk.2.2.2.2))) | (show (Addr.add _ _).block ≠ _; rw [add_block]; exact Kd.own_blk (Kd.N_away HO732.out (fun _ hk => hk.2.2.2.2))) | (dsimp only; exact Kd.own_blk (Kd.N_away HO732.out (fun _ hk => hk.2.2.2.2)))) _).trans (hHeld.2.2.2))))⟩ (fun hHeld => ?_)
   clear hK K
   refine done_ (done_of HT_.out (by kernel_rfl)) ?_
   have hnb29 := NB733_739.out
   have hnc29 := NB739_733.out
   have hcz30_0 : w25.cell? ⟨gb733, 0, none⟩ = some (.slice Ao15 t727.length co15) := (blk_cell BK733.out 0).trans rfl
   have hcz30_1 : w25.cell? ⟨gb733, 1, none⟩ = some (.slice (some ad734) t730.length co18) := (blk_cell BK733.out 1).trans rfl
   have hfz30_0 := blk_frozen BK733.out 0
   have hfz30_1 := blk_frozen BK733.out 1
   go_upto_region 9 with (first | ((with_reducible refine gate_callee (f := 28) rfl ?_); refine goesL_ (some 46) rfl rfl Try.func28 (by kernel_rfl) rfl #[.agg #[.slice Ao15 t727.length co15, .slice (some ad734) t730.length co18], .int .i64 (Int.tmod (wrap64 (a1)) 40)] rfl zqE ?_; (with_reducible refine (pump_Row.calls _ _ t727 _ _ t730 (Int.tmod (wrap64 (a1)) 40) t740 t741 _ ?side1 ?side2 ?side3 ?side4 A6.out).mono ?_); (case side1 => refine (Kd.N_reads' (e := 22) (base := w.heap.size) (ok := fun k_ => (some k_ ≠ (.slice (some ad734) t730.length co18 : Value).ownBlock ∧ (some k_ ≠ (.slice Ao26 y736.length co26 : Value).ownBlock ∧ (k_ ≠ gb726 ∧ (k_ ≠ gb733 ∧ k_ ≠ gb739))))) (n := t727.length) (c := co15) ?_).2.2; exact (by (with_reducible repeat (first | apply Kd.N_alloc | apply Kd.N_drewN | apply Kd.N_drew)); exact (Kd.N_mono (Kd.N_far (p := ⟨gb739, 1, none⟩) (Kd.N_far (p := ⟨gb739, 0, none⟩) (Kd.N_mono HO729.out (fun k_ hk => (⟨hk, hk.2.2.2.2⟩ : _ ∧ k_ ≠ gb739))) (fun _ hk => hk.2) (.slice Ao15 t727.length co15)) (fun _ hk => hk.2) (.slice Ao26 y736.length co26)) (fun _ h_ => h_.1)))); (case side2 => exact (Kd.N_reads' HO729.out).2.1); (case side3 => refine (Kd.N_reads' (e := 22) (base := w.heap.size) (ok := fun k_ => (some k_ ≠ (.slice Ao15 t727.length co15 : Value).ownBlock ∧ (some k_ ≠ (.slice Ao26 y736.length co26 : Value).ownBlock ∧ (k_ ≠ gb726 ∧ (k_ ≠ gb733 ∧ k_ ≠ gb739))))) (n := t730.length) (c := co18) ?_).2.2; exact (by (with_reducible repeat (first | apply Kd.N_alloc | apply Kd.N_drewN | apply Kd.N_drew)); exact (Kd.N_mono (Kd.N_far (p := ⟨gb739, 1, none⟩) (Kd.N_far (p := ⟨gb739, 0, none⟩) (Kd.N_mono HO732.out (fun k_ hk => (⟨hk, hk.2.2.2.2⟩ : _ ∧ k_ ≠ gb739))) (fun _ hk => hk.2) (.slice Ao15 t727.length co15)) (fun _ hk => hk.2) (.slice Ao26 y736.length co26)) (fun _ h_ => h_.1)))); (case side4 => exact (Kd.N_reads' HO732.out).2.1); rintro e w31 ⟨rfl, hb⟩; refine ⟨_, rfl, ?_⟩; have n0_ := zA (Kd.N_below (by (with_reducible repeat (first | apply Kd.N_alloc | apply Kd.N_drewN | apply Kd.N_drew)); exact (Kd.N_mono (Kd.N_far (p := ⟨gb739, 1, none⟩) (Kd.N_far (p := ⟨gb739, 0, none⟩) (Kd.N_mono HO729.out (fun k_ hk => (⟨hk, hk.2.2.2.2⟩ : _ ∧ k_ ≠ gb739))) (fun _ hk => hk.2) (.slice Ao15 t727.length co15)) (fun _ hk => hk.2) (.slice Ao26 y736.length co26)) (fun _ h_ => h_.1))) hb); have n1_ := zA (Kd.N_below (by (with_reducible repeat (first | apply Kd.N_alloc | apply Kd.N_drewN | apply Kd.N_drew)); exact (Kd.N_mono (Kd.N_far (p := ⟨gb739, 1, none⟩) (Kd.N_far (p := ⟨gb739, 0, none⟩) (Kd.N_mono HO732.out (fun k_ hk => (⟨hk, hk.2.2.2.2⟩ : _ ∧ k_ ≠ gb739))) (fun _ hk => hk.2) (.slice Ao15 t727.length co15)) (fun _ hk => hk.2) (.slice Ao26 y736.length co26)) (fun _ h_ => h_.1))) hb); have n2_ := zA (Kd.V_below (by (with_reducible repeat (first | apply Kd.V_alloc | apply Kd.V_drewN | apply Kd.V_drew)); exact (Kd.V_mono (Kd.V_far (p := ⟨gb739, 1, none⟩) (Kd.V_far (p := ⟨gb739, 0, none⟩) (Kd.V_mono HL734_0.out (fun k_ hk => (⟨hk, hk.2.2.2.2.2⟩ : _ ∧ k_ ≠ gb739))) (fun _ hk => hk.2) (.slice Ao15 t727.length co15)) (fun _ hk => hk.2) (.slice Ao26 y736.length co26)) (fun _ h_ => h_.1))) hb); have n3_ := zA (Kd.V_below (by (with_reducible repeat (first | apply Kd.V_alloc | apply Kd.V_drewN | apply Kd.V_drew)); exact (Kd.V_mono (Kd.V_far (p := ⟨gb739, 1, none⟩) (Kd.V_far (p := ⟨gb739, 0, none⟩) (Kd.V_mono HL735_0.out (fun k_ hk => (⟨hk, hk.2.2.2.2.2⟩ : _ ∧ k_ ≠ gb739))) (fun _ hk => hk.2) (.slice Ao15 t727.length co15)) (fun _ hk => hk.2) (.slice Ao26 y736.length co26)) (fun _ h_ => h_.1))) hb); have n4_ := zA (Kd.N_below (by (with_reducible repeat (first | apply Kd.N_alloc | apply Kd.N_drewN | apply Kd.N_drew)); exact (Kd.N_mono (Kd.N_far (p := ⟨gb739, 1, none⟩) (Kd.N_far (p := ⟨gb739, 0, none⟩) (Kd.N_mono HO738.out (fun k_ hk => (⟨hk, hk.2.2.2.2⟩ : _ ∧ k_ ≠ gb739))) (fun _ hk => hk.2) (.slice Ao15 t727.length co15)) (fun _ hk => hk.2) (.slice Ao26 y736.length co26)) (fun _ h_ => h_.1))) hb); have n5_ := zA (blk_below (g := gb726) (o := .cells #[.slice A0_0 l0_0.length c0_0, .slice A0_1 l0_1.length c0_1, .slice A0_2 l0_2.length c0_2, .slice A0_3 l0_3.length c0_3, .bool a0_4, .bool true] 79 (0, 0)) (by (with_reducible repeat (first | refine blk_drewN ?_ _ | refine blk_drew ?_ | refine blk_alloc ?_ _)); refine blk_far ?_ NB726_739.out _; (with_reducible repeat (first | refine blk_drewN ?_ _ | refine blk_drew ?_ | refine blk_alloc ?_ _)); refine blk_far ?_ NB726_739.out _; (with_reducible repeat (first | refine blk_drewN ?_ _ | refine blk_drew ?_ | refine blk_alloc ?_ _)); exact BK726.out) hb); have n6_ := zA (blk_below (g := gb733) (o := .cells #[.slice Ao15 t727.length co15, .slice (some ad734) t730.length co18] 40 (0, 0)) (by (with_reducible repeat (first | refine blk_drewN ?_ _ | refine blk_drew ?_ | refine blk_alloc ?_ _)); refine blk_far ?_ NB733_739.out _; (with_reducible repeat (first | refine blk_drewN ?_ _ | refine blk_drew ?_ | refine blk_alloc ?_ _)); refine blk_far ?_ NB733_739.out _; (with_reducible repeat (first | refine blk_drewN ?_ _ | refine blk_drew ?_ | refine blk_alloc ?_ _)); exact BK733.out) hb); have n7_ := zA (blk_below (g := gb739) (o := .cells #[.slice Ao15 t727.length co15, .slice Ao26 y736.length co26] 40 (0, 0)) (by (with_reducible repeat (first | refine blk_drewN ?_ _ | refine blk_drew ?_ | refine blk_alloc ?_ _)); refine blk_put (cs := #[.slice Ao15 t727.length co15, .slice none 0 0]) ?_ 1 _ rfl; (with_reducible repeat (first | refine blk_drewN ?_ _ | refine blk_drew ?_ | refine blk_alloc ?_ _)); refine blk_put (cs := #[.slice none 0 0, .slice none 0 0]) ?_ 0 _ rfl; (with_reducible repeat (first | refine blk_drewN ?_ _ | refine blk_drew ?_ | refine blk_alloc ?_ _)); exact BK739.out) hb); have n8_ := zA (below_step (by repeat (first | (with_reducible first | exact HB.out | apply below_alloc | apply pw_below_drewN | apply below_drew1 | refine below_set ?_ GE726.out | refine below_set ?_ GE733.out | refine below_set ?_ GE739.out) | exact HB.out)) hb); clear HO729; clear HO732; clear HL734_0; clear HL735_0; clear HO738; clear BK726; clear BK733; clear BK739; clear HB; have HO729 := n0_; have HO732 := n1_; have HL734_0 := n2_; have HL735_0 := n3_; have HO738 := n4_; have BK726 := n5_; have BK733 := n6_; have BK739 := n7_; have HB := n8_; clear n0_ n1_ n2_ n3_ n4_ n5_ n6_ n7_ n8_; (try clear hb); (try clear hb2); (try clear hk); (try clear hi); have hnb32 := NB739_726.out; have hnc32 := NB726_739.out; have hcz33_0 : w31.cell? ⟨gb739, 0, none⟩ = some (.slice Ao15 t727.length co15) := (blk_cell BK739.out 0).trans rfl; have hcz33_1 : w31.cell? ⟨gb739, 1, none⟩ = some (.slice Ao26 y736.length co26) := (blk_cell BK739.out 1).trans rfl; have hfz33_0 := blk_frozen BK739.out 0; have hfz33_1 := blk_frozen BK739.out 1) | ((with_reducible refine gate_callee (f := 28) rfl ?_); refine goesL_ (some 52) rfl rfl Try.func28 (by kernel_rfl) rfl #[.agg #[.slice Ao15 t727.length co15, .slice Ao26 y736.length co26], .int .i64 (Int.tmod (wrap64 (a1)) 40)] rfl zqE ?_; (with_reducible refine (pump_Row.calls _ _ t727 _ _ y736 (Int.tmod (wrap64 (a1)) 40) t742 t743 _ ?side1 ?side2 ?side3 ?side4 A7.out).mono ?_); (case side1 => exact zqK (Kd.N_reads' HO729.out).2.2); (case side2 => exact (Kd.N_reads' HO729.out).2.1); (case side3 => exact zqK (Kd.N_reads' HO738.out).2.2); (case side4 => exact (Kd.N_reads' HO738.out).2.1); rintro e w34 ⟨rfl, hb⟩; refine ⟨_, rfl, ?_⟩; have n0_ := zA (Kd.N_below (zqN HO729.out) hb); have n1_ := zA (Kd.N_below (zqN HO732.out) hb); have n2_ := zA (Kd.V_below (by (with_reducible repeat (first | apply Kd.V_alloc | apply Kd.V_drewN | apply Kd.V_drew)); exact HL734_0.out) hb); have n3_ := zA (Kd.V_below (by (with_reducible repeat (first | apply Kd.V_alloc | apply Kd.V_drewN | apply Kd.V_drew)); exact HL735_0.out) hb); have n4_ := zA (Kd.N_below (zqN HO738.out) hb); have n5_ := zA (blk_below (g := gb726) (o := .cells #[.slice A0_0 l0_0.length c0_0, .slice A0_1 l0_1.length c0_1, .slice A0_2 l0_2.length c0_2, .slice A0_3 l0_3.length c0_3, .bool a0_4, .bool true] 79 (0, 0)) (zqB BK726.out) hb); have n6_ := zA (blk_below (g := gb733) (o := .cells #[.slice Ao15 t727.length co15, .slice (some ad734) t730.length co18] 40 (0, 0)) (zqB BK733.out) hb); have n7_ := zA (blk_below (g := gb739) (o := .cells #[.slice Ao15 t727.length co15, .slice Ao26 y736.length co26] 40 (0, 0)) (zqB BK739.out) hb); have n8_ := zA (below_step (by repeat (first | (with_reducible first | exact HB.out | apply below_alloc | apply pw_below_drewN | apply below_drew1 | refine below_set ?_ GE726.out | refine below_set ?_ GE733.out | refine below_set ?_ GE739.out) | exact HB.out)) hb); clear HO729; clear HO732; clear HL734_0; clear HL735_0; clear HO738; clear BK726; clear BK733; clear BK739; clear HB; have HO729 := n0_; have HO732 := n1_; have HL734_0 := n2_; have HL735_0 := n3_; have HO738 := n4_; have BK726 := n5_; have BK733 := n6_; have BK739 := n7_; have HB := n8_; clear n0_ n1_ n2_ n3_ n4_ n5_ n6_ n7_ n8_; (try clear hb); (try clear hb2); (try clear hk); (try clear hi); have hcz35_0 : w34.cell? ⟨gb733, 0, none⟩ = some (.slice Ao15 t727.length co15) := (blk_cell BK733.out 0).trans rfl; have hcz35_1 : w34.cell? ⟨gb733, 1, none⟩ = some (.slice (some ad734) t730.length co18) := (blk_cell BK733.out 1).trans rfl; have hfz35_0 := blk_frozen BK733.out 0; have hfz35_1 := blk_frozen BK733.out 1) | ((with_reducible refine gate_callee (f := 30) rfl ?_); refine goesL_ (some 58) rfl rfl Try.func30 (by kernel_rfl) rfl #[.agg #[.slice Ao15 t727.length co15, .slice (some ad734) t730.length co18], .int .i64 (Int.tmod (wrap64 (a1)) 40)] rfl zqE ?_; (with_reducible refine (pump_Drop.calls k _ _ t727 _ _ t730 (Int.tmod (wrap64 (a1)) 40) t744 t745 t746 _ ?side1 ?side2 ?side3 ?side4 A8.out).mono ?_); (case side1 => exact zqK (Kd.N_reads' HO729.out).2.2); (case side2 => exact (Kd.N_reads' HO729.out).2.1); (case side3 => exact zqK (Kd.N_reads' HO732.out).2.2); (case side4 => exact (Kd.N_reads' HO732.out).2.1); rintro e w36 ⟨rfl, hb⟩; refine ⟨_, rfl, ?_⟩; have n0_ := zA (Kd.N_below (zqN HO729.out) hb); have n1_ := zA (Kd.N_below (zqN HO732.out) hb); have n2_ := zA (Kd.V_below (by (with_reducible repeat (first | apply Kd.V_alloc | apply Kd.V_drewN | apply Kd.V_drew)); exact HL734_0.out) hb); have n3_ := zA (Kd.V_below (by (with_reducible repeat (first | apply Kd.V_alloc | apply Kd.V_drewN | apply Kd.V_drew)); exact HL735_0.out) hb); have n4_ := zA (Kd.N_below (zqN HO738.out) hb); have n5_ := zA (blk_below (g := gb726) (o := .cells #[.slice A0_0 l0_0.length c0_0, .slice A0_1 l0_1.length c0_1, .slice A0_2 l0_2.length c0_2, .slice A0_3 l0_3.length c0_3, .bool a0_4, .bool true] 79 (0, 0)) (zqB BK726.out) hb); have n6_ := zA (blk_below (g := gb733) (o := .cells #[.slice Ao15 t727.length co15, .slice (some ad734) t730.length co18] 40 (0, 0)) (zqB BK733.out) hb); have n7_ := zA (blk_below (g := gb739) (o := .cells #[.slice Ao15 t727.length co15, .slice Ao26 y736.length co26] 40 (0, 0)) (zqB BK739.out) hb); have n8_ := zA (below_step (by repeat (first | (with_reducible first | exact HB.out | apply below_alloc | apply pw_below_drewN | apply below_drew1 | refine below_set ?_ GE726.out | refine below_set ?_ GE733.out | refine below_set ?_ GE739.out) | exact HB.out)) hb); clear HO729; clear HO732; clear HL734_0; clear HL735_0; clear HO738; clear BK726; clear BK733; clear BK739; clear HB; have HO729 := n0_; have HO732 := n1_; have HL734_0 := n2_; have HL735_0 := n3_; have HO738 := n4_; have BK726 := n5_; have BK733 := n6_; have BK739 := n7_; have HB := n8_; clear n0_ n1_ n2_ n3_ n4_ n5_ n6_ n7_ n8_; (try clear hb); (try clear hb2); (try clear hk); (try clear hi); have hcz37_0 : w36.cell? ⟨gb739, 0, none⟩ = some (.slice Ao15 t727.length co15) := (blk_cell BK739.out 0).trans rfl; have hcz37_1 : w36.cell? ⟨gb739, 1, none⟩ = some (.slice Ao26 y736.length co26) := (blk_cell BK739.out 1).trans rfl; have hfz37_0 := blk_frozen BK739.out 0; have hfz37_1 := blk_frozen BK739.out 1) | ((with_reducible refine gate_callee (f := 30) rfl ?_); refine goesL_ (some 65) rfl rfl Try.func30 (by kernel_rfl) rfl #[.agg #[.slice Ao15 t727.length co15, .slice Ao26 y736.length co26], .int .i64 (Int.tmod (wrap64 (a1)) 40)] rfl zqE ?_; (with_reducible refine (pump_Drop.calls k _ _ t727 _ _ y736 (Int.tmod (wrap64 (a1)) 40) t747 t748 t749 _ ?side1 ?side2 ?side3 ?side4 A9.out).mono ?_); (case side1 => exact zqK (Kd.N_reads' HO729.out).2.2); (case side2 => exact (Kd.N_reads' HO729.out).2.1); (case side3 => exact zqK (Kd.N_reads' HO738.out).2.2); (case side4 => exact (Kd.N_reads' HO738.out).2.1); rintro e w38 ⟨rfl, hb⟩; refine ⟨_, rfl, ?_⟩; have n0_ := zA (Kd.N_below (zqN HO729.out) hb); have n1_ := zA (Kd.N_below (zqN HO732.out) hb); have n2_ := zA (Kd.V_below (by (with_reducible repeat (first | apply Kd.V_alloc | apply Kd.V_drewN | apply Kd.V_drew)); exact HL734_0.out) hb); have n3_ := zA (Kd.V_below (by (with_reducible repeat (first | apply Kd.V_alloc | apply Kd.V_drewN | apply Kd.V_drew)); exact HL735_0.out) hb); have n4_ := zA (Kd.N_below (zqN HO738.out) hb); have n5_ := zA (blk_below (g := gb726) (o := .cells #[.slice A0_0 l0_0.length c0_0, .slice A0_1 l0_1.length c0_1, .slice A0_2 l0_2.length c0_2, .slice A0_3 l0_3.length c0_3, .bool a0_4, .bool true] 79 (0, 0)) (zqB BK726.out) hb); have n6_ := zA (blk_below (g := gb733) (o := .cells #[.slice Ao15 t727.length co15, .slice (some ad734) t730.length co18] 40 (0, 0)) (zqB BK733.out) hb); have n7_ := zA (blk_below (g := gb739) (o := .cells #[.slice Ao15 t727.length co15, .slice Ao26 y736.length co26] 40 (0, 0)) (zqB BK739.out) hb); have n8_ := zA (below_step (by repeat (first | (with_reducible first | exact HB.out | apply below_alloc | apply pw_below_drewN | apply below_drew1 | refine below_set ?_ GE726.out | refine below_set ?_ GE733.out | refine below_set ?_ GE739.out) | exact HB.out)) hb); clear HO729; clear HO732; clear HL734_0; clear HL735_0; clear HO738; clear BK726; clear BK733; clear BK739; clear HB; have HO729 := n0_; have HO732 := n1_; have HL734_0 := n2_; have HL735_0 := n3_; have HO738 := n4_; have BK726 := n5_; have BK733 := n6_; have BK739 := n7_; have HB := n8_; clear n0_ n1_ n2_ n3_ n4_ n5_ n6_ n7_ n8_; (try clear hb); (try clear hb2); (try clear hk); (try clear hi)))
   (try simp only [Act.put, List.setIfInBounds_toArray, List.set_cons_zero, List.set_cons_succ])
   go_cut [97] (fun v97 wc => ∃ (kq : Nat) (x97_9 : Bool), v97 = .bool x97_9 ∧ Aside0 (pianolalaw04_PumpOrder.j0 kq (Int.tmod (wrap64 (a1)) 40) t744 x97_9 t727 t730 t727 y736 = some r) ∧ Aside0 (kq ≤ k) ∧ Aside0 (Kd.N (Kd.slice 71 k71) 22 wc w.heap.size (fun k_ => some k_ ≠ ((.slice (some ad734) t730.length co18) : Value).ownBlock ∧ some k_ ≠ ((.slice Ao26 y736.length co26) : Value).ownBlock ∧ k_ ≠ gb726 ∧ k_ ≠ gb733 ∧ k_ ≠ gb739) (.slice Ao15 t727.length co15) t727) ∧ Aside0 (Kd.N (Kd.slice 71 k71) 22 wc w.heap.size (fun k_ => some k_ ≠ ((.slice Ao15 t727.length co15) : Value).ownBlock ∧ some k_ ≠ ((.slice Ao15 t727.length co15) : Value).ownBlock ∧ some k_ ≠ ((.slice Ao26 y736.length co26) : Value).ownBlock ∧ k_ ≠ gb726 ∧ k_ ≠ gb733 ∧ k_ ≠ gb739) (.slice (some ad734) t730.length co18) t730) ∧ Aside0 (Kd.N (Kd.slice 71 k71) 22 wc w.heap.size (fun k_ => some k_ ≠ ((.slice (some ad734) t730.length co18) : Value).ownBlock ∧ some k_ ≠ ((.slice Ao26 y736.length co26) : Value).ownBlock ∧ k_ ≠ gb726 ∧ k_ ≠ gb733 ∧ k_ ≠ gb739) (.slice Ao15 t727.length co15) t727) ∧ Aside0 (Kd.N (Kd.slice 71 k71) 22 wc w.heap.size (fun k_ => some k_ ≠ ((.slice Ao15 t727.length co15) : Value).ownBlock ∧ some k_ ≠ ((.slice (some ad734) t730.length co18) : Value).ownBlock ∧ some k_ ≠ ((.slice Ao15 t727.length co15) : Value).ownBlock ∧ k_ ≠ gb726 ∧ k_ ≠ gb733 ∧ k_ ≠ gb739) (.slice Ao26 y736.length co26) y736) ∧ Aside0 (wc.heap[gb726]? = some (.cells #[(.slice A0_0 l0_0.length c0_0), (.slice A0_1 l0_1.length c0_1), (.slice A0_2 l0_2.length c0_2), (.slice A0_3 l0_3.length c0_3), .bool a0_4, .bool true] 79 (0, 0))) ∧ Aside0 (wc.heap[gb733]? = some (.cells #[(.slice Ao15 t727.length co15), (.slice (some ad734) t730.length co18)] 40 (0, 0))) ∧ Aside0 (wc.heap[gb739]? = some (.cells #[(.slice Ao15 t727.length co15), (.slice Ao26 y736.length co26)] 40 (0, 0))) ∧ Aside0 (Below w.heap.size w wc))
   case first =>
    have H := HC10.out
    clear HC10
    by_cases c39 : t740 = t742
    ·
     rw [if_pos c39] at H
     have c39b0 : (t740 == t742) = true := beq_iff_eq.mpr c39
     have c39b1 : (t740 != t742) = false := bne_eq_false_iff_eq.mpr c39
     clear c39
     (first | rw [c39b0] | (simp only [i64_w, i32_w]; rw [c39b0]) | skip)
     by_cases c40 : t741 = 0
     ·
      rw [if_pos c40] at H
      have c40b0 : (t741 == 0) = true := beq_iff_eq.mpr c40
      have c40b1 : (t741 != 0) = false := bne_eq_false_iff_eq.mpr c40
      clear c40
      by_cases c41 : t743 = 0
      ·
       rw [if_pos c41] at H
       have c41b0 : (t743 == 0) = true := beq_iff_eq.mpr c41
       have c41b1 : (t743 != 0) = false := bne_eq_false_iff_eq.mpr c41
       clear c41
       by_cases c42 : t744 = t747
       ·
        rw [if_pos c42] at H
        have c42b0 : (t744 == t747) = true := beq_iff_eq.mpr c42
        have c42b1 : (t744 != t747) = false := bne_eq_false_iff_eq.mpr c42
        clear c42
        by_cases c43 : t745 = t748
        ·
         rw [if_pos c43] at H
         have c43b0 : (t745 == t748) = true := beq_iff_eq.mpr c43
         have c43b1 : (t745 != t748) = false := bne_eq_false_iff_eq.mpr c43
         clear c43
         by_cases c44 : t746 = 0
         ·
          rw [if_pos c44] at H
          have c44b0 : (t746 == 0) = true := beq_iff_eq.mpr c44
          have c44b1 : (t746 != 0) = false := bne_eq_false_iff_eq.mpr c44
          clear c44
          have H' := zA H
          clear H
          go_wp2
          go_meet
          case rel => exact ⟨_, ((t749 != 0)), (by first | rfl | (simp; done) | (simp [*]; done)), H', ⟨by first | omega | exact Nat.le_refl _⟩, ⟨zqN HO729.out⟩, ⟨by (with_reducible repeat (first | apply Kd.N_alloc | apply Kd.N_drewN | apply Kd.N_drew)); exact Kd.N_mono HO732.out (fun _ hk => ⟨hk.1, ⟨hk.1, ⟨hk.2.1, ⟨hk.2.2.1, ⟨hk.2.2.2.1, hk.2.2.2.2⟩⟩⟩⟩⟩)⟩, ⟨zqN HO729.out⟩, ⟨by (with_reducible repeat (first | apply Kd.N_alloc | apply Kd.N_drewN | apply Kd.N_drew)); exact Kd.N_mono HO738.out (fun _ hk => ⟨hk.1, ⟨hk.2.1, ⟨hk.1, ⟨hk.2.2.1, ⟨hk.2.2.2.1, hk.2.2.2.2⟩⟩⟩⟩⟩)⟩, ⟨zqB BK726.out⟩, ⟨zqB BK733.out⟩, ⟨zqB BK739.out⟩, ⟨by repeat (first | (with_reducible first | exact HB.out | apply below_alloc | apply pw_below_drewN | apply below_drew1 | refine below_set ?_ GE726.out | refine below_set ?_ GE733.out | refine below_set ?_ GE739.out) | exact HB.out)⟩⟩
         ·
          rw [if_neg c44] at H
          exact (pianolalaw04_PumpOrder.j0_no H HRT.out).elim
        ·
         rw [if_neg c43] at H
         exact (pianolalaw04_PumpOrder.j0_no H HRT.out).elim
       ·
        rw [if_neg c42] at H
        exact (pianolalaw04_PumpOrder.j0_no H HRT.out).elim
      ·
       rw [if_neg c41] at H
       exact (pianolalaw04_PumpOrder.j0_no H HRT.out).elim
     ·
      rw [if_neg c40] at H
      exact (pianolalaw04_PumpOrder.j0_no H HRT.out).elim
    ·
     rw [if_neg c39] at H
     exact (pianolalaw04_PumpOrder.j0_no H HRT.out).elim
   case rest =>
    clear HC10
    try clear c1
    try clear c2
    try clear p2
    try clear c3
    try clear c4
    try clear c4b0
    try clear c4b1
    try clear c5
    try clear c5b0
    try clear c5b1
    try clear p6
    try clear c7
    try clear p7
    try clear q7
    try clear hx7
    try clear qi7
    try clear c12
    try clear c16
    try clear c28
    try clear c29
    try clear c30
    try clear c32
    try clear c39
    try clear c39b0
    try clear c39b1
    try clear c40
    try clear c40b0
    try clear c40b1
    try clear c41
    try clear c41b0
    try clear c41b1
    try clear c42
    try clear c42b0
    try clear c42b1
    try clear c43
    try clear c43b0
    try clear c43b1
    try clear c44
    try clear c44b0
    try clear c44b1
    try clear hcz12_0
    try clear hcz12_1
    try clear hcz12_2
    try clear hcz12_3
    try clear hcz12_4
    try clear hcz12_5
    try clear hcz17_0
    try clear hcz17_1
    try clear hcz30_0
    try clear hcz30_1
    try clear hcz33_0
    try clear hcz33_1
    try clear hcz35_0
    try clear hcz35_1
    try clear hcz37_0
    try clear hcz37_1
    try clear hfz12_0
    try clear hfz12_1
    try clear hfz12_2
    try clear hfz12_3
    try clear hfz12_4
    try clear hfz12_5
    try clear hfz17_0
    try clear hfz17_1
    try clear hfz30_0
    try clear hfz30_1
    try clear hfz33_0
    try clear hfz33_1
    try clear hfz35_0
    try clear hfz35_1
    try clear hfz37_0
    try clear hfz37_1
    try clear hx734_0
    try clear hx735_0
    try clear p734
    try clear p735
    try clear q734
    try clear q735
    obtain ⟨kq, x97_9, rfl, HA, HJ9, HO_734000, HO_734001, HO_740000, HO_740001, BK726, BK733, BK739, HB⟩ := hcut
    cases kq with
    | zero => exact absurd HA.out (by simp [pianolalaw04_PumpOrder.j0])
    | succ kj9 =>
     have H := HA.out
     clear HA
     simp only [pianolalaw04_PumpOrder.j0] at H
     by_cases c45 : x97_9 = true
     ·
      subst c45
      have H1 : (some false) = some r := by rw [if_pos rfl] at H; exact H
      clear H
      have H := H1
      clear H1
      exact absurd ((Option.some.inj H).trans HRT.out) (by decide)
     ·
      replace c45 := Bool.eq_false_iff.mpr c45
      subst c45
      have H1 : ((pump_Delay.f kj9 t727 t730 (Int.tmod (wrap64 (a1)) 40)).bind fun bt750 => ((pump_Delay.f kj9 t727 y736 (Int.tmod (wrap64 (a1)) 40)).bind fun bt752 => (if 1 ≤ (t730.length : Int) then ((pump_Drop.f kj9 t727 (t730.take 1) (Int.tmod (wrap64 (a1)) 40)).bind fun bt759 => ((pump_Drop.f kj9 t727 (t730.drop 1) (Int.tmod (wrap64 (a1)) 40)).bind fun bt767 => (if bt750.1 = bt752.1 then (if bt750.2 = bt752.2 then (if bt759.2.2 = 0 then (if bt767.2.2 = 0 then (if t744 ≥ (mx bt759.1 bt767.1) then (if t744 ≤ (wrap64 (bt759.1 + bt767.1)) then ((pianolalaw04_works.f).bind fun t770 => (some t770)) else (some false)) else (some false)) else (some false)) else (some false)) else (some false)) else (some false)))) else (none)))) = some r := by rw [if_neg (show ¬ (false = true) by decide)] at H; exact H
      clear H
      have H := H1
      clear H1
      replace H := Option.bind_eq_some_iff.mp H
      obtain ⟨⟨t750, t751⟩, A460, H⟩ := H
      replace H : ((pump_Delay.f kj9 t727 y736 (Int.tmod (wrap64 (a1)) 40)).bind fun bt752 => (if 1 ≤ (t730.length : Int) then ((pump_Drop.f kj9 t727 (t730.take 1) (Int.tmod (wrap64 (a1)) 40)).bind fun bt759 => ((pump_Drop.f kj9 t727 (t730.drop 1) (Int.tmod (wrap64 (a1)) 40)).bind fun bt767 => (if t750 = bt752.1 then (if t751 = bt752.2 then (if bt759.2.2 = 0 then (if bt767.2.2 = 0 then (if t744 ≥ (mx bt759.1 bt767.1) then (if t744 ≤ (wrap64 (bt759.1 + bt767.1)) then ((pianolalaw04_works.f).bind fun t770 => (some t770)) else (some false)) else (some false)) else (some false)) else (some false)) else (some false)) else (some false)))) else (none))) = some r := H
      have A46 := zA A460
      clear A460
      replace H := Option.bind_eq_some_iff.mp H
      obtain ⟨⟨t752, t753⟩, A470, H⟩ := H
      replace H : (if 1 ≤ (t730.length : Int) then ((pump_Drop.f kj9 t727 (t730.take 1) (Int.tmod (wrap64 (a1)) 40)).bind fun bt759 => ((pump_Drop.f kj9 t727 (t730.drop 1) (Int.tmod (wrap64 (a1)) 40)).bind fun bt767 => (if t750 = t752 then (if t751 = t753 then (if bt759.2.2 = 0 then (if bt767.2.2 = 0 then (if t744 ≥ (mx bt759.1 bt767.1) then (if t744 ≤ (wrap64 (bt759.1 + bt767.1)) then ((pianolalaw04_works.f).bind fun t770 => (some t770)) else (some false)) else (some false)) else (some false)) else (some false)) else (some false)) else (some false)))) else (none)) = some r := H
      have A47 := zA A470
      clear A470
      by_cases c48 : 1 ≤ (t730.length : Int)
      ·
       rw [if_pos c48] at H
       have c48b0 := eq_true c48
       have c48b1 : decide (1 ≤ (t730.length : Int)) = true := decide_eq_true c48
       clear c48
       obtain ⟨y754, hy754⟩ : ∃ y_ : List (List (S71)), y_ = (t730.take 1) := ⟨_, rfl⟩
       replace H : ((pump_Drop.f kj9 t727 y754 (Int.tmod (wrap64 (a1)) 40)).bind fun bt759 => ((pump_Drop.f kj9 t727 (t730.drop 1) (Int.tmod (wrap64 (a1)) 40)).bind fun bt767 => (if t750 = t752 then (if t751 = t753 then (if bt759.2.2 = 0 then (if bt767.2.2 = 0 then (if t744 ≥ (mx bt759.1 bt767.1) then (if t744 ≤ (wrap64 (bt759.1 + bt767.1)) then ((pianolalaw04_works.f).bind fun t770 => (some t770)) else (some false)) else (some false)) else (some false)) else (some false)) else (some false)) else (some false)))) = some r := zqF hy754 H
       have Ny754 := zA hy754
       clear hy754
       replace H := Option.bind_eq_some_iff.mp H
       obtain ⟨⟨t759, t760, t761⟩, A490, H⟩ := H
       replace H : ((pump_Drop.f kj9 t727 (t730.drop 1) (Int.tmod (wrap64 (a1)) 40)).bind fun bt767 => (if t750 = t752 then (if t751 = t753 then (if t761 = 0 then (if bt767.2.2 = 0 then (if t744 ≥ (mx t759 bt767.1) then (if t744 ≤ (wrap64 (t759 + bt767.1)) then ((pianolalaw04_works.f).bind fun t770 => (some t770)) else (some false)) else (some false)) else (some false)) else (some false)) else (some false)) else (some false))) = some r := H
       have A49 := zA A490
       clear A490
       have c50b0 := eq_true (of_decide_eq_true (zqD) : 1 ≤ (t730.length : Int))
       obtain ⟨y762, hy762⟩ : ∃ y_ : List (List (S71)), y_ = (t730.drop 1) := ⟨_, rfl⟩
       replace H : ((pump_Drop.f kj9 t727 y762 (Int.tmod (wrap64 (a1)) 40)).bind fun bt767 => (if t750 = t752 then (if t751 = t753 then (if t761 = 0 then (if bt767.2.2 = 0 then (if t744 ≥ (mx t759 bt767.1) then (if t744 ≤ (wrap64 (t759 + bt767.1)) then ((pianolalaw04_works.f).bind fun t770 => (some t770)) else (some false)) else (some false)) else (some false)) else (some false)) else (some false)) else (some false))) = some r := zqF hy762 H
       have Ny762 := zA hy762
       clear hy762
       replace H := Option.bind_eq_some_iff.mp H
       obtain ⟨⟨t767, t768, t769⟩, A510, H⟩ := H
       replace H : (if t750 = t752 then (if t751 = t753 then (if t761 = 0 then (if t769 = 0 then (if t744 ≥ (mx t759 t767) then (if t744 ≤ (wrap64 (t759 + t767)) then ((pianolalaw04_works.f).bind fun t770 => (some t770)) else (some false)) else (some false)) else (some false)) else (some false)) else (some false)) else (some false)) = some r := H
       have A51 := zA A510
       clear A510
       by_cases c52 : t750 = t752
       ·
        rw [if_pos c52] at H
        have c52b0 : (t750 == t752) = true := beq_iff_eq.mpr c52
        have c52b1 : (t750 != t752) = false := bne_eq_false_iff_eq.mpr c52
        clear c52
        by_cases c53 : t751 = t753
        ·
         rw [if_pos c53] at H
         have c53b0 : (t751 == t753) = true := beq_iff_eq.mpr c53
         have c53b1 : (t751 != t753) = false := bne_eq_false_iff_eq.mpr c53
         clear c53
         by_cases c54 : t761 = 0
         ·
          rw [if_pos c54] at H
          have c54b0 : (t761 == 0) = true := beq_iff_eq.mpr c54
          have c54b1 : (t761 != 0) = false := bne_eq_false_iff_eq.mpr c54
          clear c54
          by_cases c55 : t769 = 0
          ·
           rw [if_pos c55] at H
           have c55b0 : (t769 == 0) = true := beq_iff_eq.mpr c55
           have c55b1 : (t769 != 0) = false := bne_eq_false_iff_eq.mpr c55
           clear c55
           obtain ⟨ji56, hji56⟩ : ∃ j_ : Int, (mx t759 t767) = j_ := ⟨_, rfl⟩
           replace H : (if t744 ≥ (ji56) then (if t744 ≤ (wrap64 (t759 + t767)) then ((pianolalaw04_works.f).bind fun t770 => (some t770)) else (some false)) else (some false)) = some r := by first | (rw [hji56] at H; exact H) | (simp only [hji56] at H ⊢; exact H)
           (try rw [hji56] at A46)
           (try rw [hji56] at A47)
           (try rw [hji56] at A49)
           (try rw [hji56] at A51)
           have hji56_ : (if t759 < t767 then t767 else t759) = ji56 := hji56
           by_cases c57 : t744 ≥ (ji56)
           ·
            rw [if_pos c57] at H
            have c57b0 : decide ((ji56) ≤ t744) = true := decide_eq_true c57
            clear c57
            by_cases c58 : t744 ≤ (wrap64 (t759 + t767))
            ·
             rw [if_pos c58] at H
             have c58b0 : decide (t744 ≤ (wrap64 (t759 + t767))) = true := decide_eq_true c58
             clear c58
             replace H := Option.bind_eq_some_iff.mp H
             obtain ⟨t770, A590, H⟩ := H
             replace H : (some t770) = some r := H
             have A59 := zA A590
             clear A590
             obtain rfl := Option.some.inj H
             have hnb60 := NB733_726.out
             have hnc60 := NB726_733.out
             have hnb61 := NB733_739.out
             have hnc61 := NB739_733.out
             have hcz62_0 : wc.cell? ⟨gb733, 0, none⟩ = some (.slice Ao15 t727.length co15) := (blk_cell BK733.out 0).trans rfl
             have hcz62_1 : wc.cell? ⟨gb733, 1, none⟩ = some (.slice (some ad734) t730.length co18) := (blk_cell BK733.out 1).trans rfl
             have hfz62_0 := blk_frozen BK733.out 0
             have hfz62_1 := blk_frozen BK733.out 1
             try go_wp2_with (first | ((with_reducible refine gate_callee (f := 32) rfl ?_); refine goesL_ (some 101) rfl rfl Try.func32 (by kernel_rfl) rfl #[.agg #[.slice Ao15 t727.length co15, .slice (some ad734) t730.length co18], .int .i64 (Int.tmod (wrap64 (a1)) 40)] rfl zqE ?_; (with_reducible refine (pump_Delay.calls kj9 _ _ t727 _ _ t730 (Int.tmod (wrap64 (a1)) 40) t750 t751 _ ?side1 ?side2 ?side3 ?side4 A46.out).mono ?_); (case side1 => exact zqK (Kd.N_reads' HO_734000.out).2.2); (case side2 => exact (Kd.N_reads' HO_734000.out).2.1); (case side3 => exact zqK (Kd.N_reads' HO_734001.out).2.2); (case side4 => exact (Kd.N_reads' HO_734001.out).2.1); rintro e w63 ⟨rfl, hb⟩; refine ⟨_, rfl, ?_⟩; have n0_ := zA (Kd.N_below (zqN HO_734000.out) hb); have n1_ := zA (Kd.N_below (zqN HO_734001.out) hb); have n2_ := zA (Kd.N_below (zqN HO_740000.out) hb); have n3_ := zA (Kd.N_below (zqN HO_740001.out) hb); have n4_ := zA (blk_below (g := gb726) (o := .cells #[.slice A0_0 l0_0.length c0_0, .slice A0_1 l0_1.length c0_1, .slice A0_2 l0_2.length c0_2, .slice A0_3 l0_3.length c0_3, .bool a0_4, .bool true] 79 (0, 0)) (zqB BK726.out) hb); have n5_ := zA (blk_below (g := gb733) (o := .cells #[.slice Ao15 t727.length co15, .slice (some ad734) t730.length co18] 40 (0, 0)) (zqB BK733.out) hb); have n6_ := zA (blk_below (g := gb739) (o := .cells #[.slice Ao15 t727.length co15, .slice Ao26 y736.length co26] 40 (0, 0)) (zqB BK739.out) hb); have n7_ := zA (below_step (by repeat (first | (with_reducible first | exact HB.out | apply below_alloc | apply pw_below_drewN | apply below_drew1 | refine below_set ?_ GE726.out | refine below_set ?_ GE733.out | refine below_set ?_ GE739.out) | exact HB.out)) hb); clear HO_734000; clear HO_734001; clear HO_740000; clear HO_740001; clear BK726; clear BK733; clear BK739; clear HB; have HO_734000 := n0_; have HO_734001 := n1_; have HO_740000 := n2_; have HO_740001 := n3_; have BK726 := n4_; have BK733 := n5_; have BK739 := n6_; have HB := n7_; clear n0_ n1_ n2_ n3_ n4_ n5_ n6_ n7_; (try clear hb); (try clear hb2); (try clear hk); (try clear hi); have hnb64 := NB739_726.out; have hnc64 := NB726_739.out; have hcz65_0 : w63.cell? ⟨gb739, 0, none⟩ = some (.slice Ao15 t727.length co15) := (blk_cell BK739.out 0).trans rfl; have hcz65_1 : w63.cell? ⟨gb739, 1, none⟩ = some (.slice Ao26 y736.length co26) := (blk_cell BK739.out 1).trans rfl; have hfz65_0 := blk_frozen BK739.out 0; have hfz65_1 := blk_frozen BK739.out 1) | ((with_reducible refine gate_callee (f := 32) rfl ?_); refine goesL_ (some 107) rfl rfl Try.func32 (by kernel_rfl) rfl #[.agg #[.slice Ao15 t727.length co15, .slice Ao26 y736.length co26], .int .i64 (Int.tmod (wrap64 (a1)) 40)] rfl zqE ?_; (with_reducible refine (pump_Delay.calls kj9 _ _ t727 _ _ y736 (Int.tmod (wrap64 (a1)) 40) t752 t753 _ ?side1 ?side2 ?side3 ?side4 A47.out).mono ?_); (case side1 => exact zqK (Kd.N_reads' HO_740000.out).2.2); (case side2 => exact (Kd.N_reads' HO_740000.out).2.1); (case side3 => exact zqK (Kd.N_reads' HO_740001.out).2.2); (case side4 => exact (Kd.N_reads' HO_740001.out).2.1); rintro e w66 ⟨rfl, hb⟩; refine ⟨_, rfl, ?_⟩; have n0_ := zA (Kd.N_below (zqN HO_734000.out) hb); have n1_ := zA (Kd.N_below (zqN HO_734001.out) hb); have n2_ := zA (Kd.N_below (zqN HO_740000.out) hb); have n3_ := zA (Kd.N_below (zqN HO_740001.out) hb); have n4_ := zA (blk_below (g := gb726) (o := .cells #[.slice A0_0 l0_0.length c0_0, .slice A0_1 l0_1.length c0_1, .slice A0_2 l0_2.length c0_2, .slice A0_3 l0_3.length c0_3, .bool a0_4, .bool true] 79 (0, 0)) (zqB BK726.out) hb); have n5_ := zA (blk_below (g := gb733) (o := .cells #[.slice Ao15 t727.length co15, .slice (some ad734) t730.length co18] 40 (0, 0)) (zqB BK733.out) hb); have n6_ := zA (blk_below (g := gb739) (o := .cells #[.slice Ao15 t727.length co15, .slice Ao26 y736.length co26] 40 (0, 0)) (zqB BK739.out) hb); have n7_ := zA (below_step (by repeat (first | (with_reducible first | exact HB.out | apply below_alloc | apply pw_below_drewN | apply below_drew1 | refine below_set ?_ GE726.out | refine below_set ?_ GE733.out | refine below_set ?_ GE739.out) | exact HB.out)) hb); clear HO_734000; clear HO_734001; clear HO_740000; clear HO_740001; clear BK726; clear BK733; clear BK739; clear HB; have HO_734000 := n0_; have HO_734001 := n1_; have HO_740000 := n2_; have HO_740001 := n3_; have BK726 := n4_; have BK733 := n5_; have BK739 := n6_; have HB := n7_; clear n0_ n1_ n2_ n3_ n4_ n5_ n6_ n7_; (try clear hb); (try clear hb2); (try clear hk); (try clear hi)))
             have n0_ := zA (Kd.N_drew HO_734000.out)
             have n1_ := zA (Kd.N_drew HO_734001.out)
             have n2_ := zA (Kd.N_drew HO_740000.out)
             have n3_ := zA (Kd.N_drew HO_740001.out)
             have n4_ := zA (blk_drew BK726.out)
             have n5_ := zA (blk_drew BK733.out)
             have n6_ := zA (blk_drew BK739.out)
             have n7_ := zA (below_drew1 HB.out)
             clear HO_734000
             clear HO_734001
             clear HO_740000
             clear HO_740001
             clear BK726
             clear BK733
             clear BK739
             clear HB
             have HO_734000 := n0_
             have HO_734001 := n1_
             have HO_740000 := n2_
             have HO_740001 := n3_
             have BK726 := n4_
             have BK733 := n5_
             have BK739 := n6_
             have HB := n7_
             clear n0_ n1_ n2_ n3_ n4_ n5_ n6_ n7_
             have q68 : (1 : Int) ≤ ((t730.length : Int) : Int) := of_decide_eq_true (zqD)
             obtain ⟨i068, hi068, _, hsz68, _⟩ := info_parts info22
             have hroom68 : t730.length ≤ co18 := (Kd.N_reads' HO_734001.out).2.1
             have hC68 : Kd.F (Kd.slice 71 k71) _ _ (some ad734) t730.length t730 := (Kd.V_at (base := w.heap.size) (Kd.N_V HO_734001.out)).2.2
             have hcut68 := cut_to (P := Try.prog) 38 22 .i64 Try.underlying38 hi068 (some ad734) t730.length co18 1 (by omega) q68 hroom68
             have hr68 := Kd.F_take (m := 1) hC68 (by omega)
             have hy68 : y754.length = (1 : Int).toNat := (by rw [Ny754.out, List.length_take]; omega)
             rw [← Ny754.out] at hr68
             rw [← hy68] at hcut68
             have HO758 := zA (show Kd.V (Kd.slice 71 k71) 22 _ w.heap.size _ (.slice (some ad734) y754.length co18) y754 from Kd.V_mk (by omega) hr68)
             have HC758 := zA (show y754.length ≤ co18 from by omega)
             clear hr68 hC68 hroom68 hi068 hsz68
             have KY68 := zA hy68
             clear hy68
             replace q68 := eq_true q68
             refine start_ (n := 15) (S := fun w' => w'.cell? ⟨gb733, 0, none⟩ = some (.slice Ao15 t727.length co15) ∧ w'.cell? ⟨gb733, 1, none⟩ = some (.slice (some ad734) t730.length co18)) (ds := []) #[false, false, false, false, false, false, false, false, false, false, false, false, false, false, false] (by kernel_rfl) rfl rfl ⟨(blk_cell BK733.out 0).trans rfl, (blk_cell BK733.out 1).trans rfl⟩ (fun hHeld => ?_); refine with_tabW pianolalaw04_PumpOrder.tab13 pianolalaw04_PumpOrder.bits13 (fun HT_ HW_ => ?_)
             generalize w66.drew = w67 at HO_734000 HO_734001 HO_740000 HO_740001 BK726 BK733 BK739 HB HO758 hHeld ⊢
             refine pure_ (i := 0) (N := some 111) (v := ?_) (a' := ?_) #[true, false, false, false, false, false, false, false, false, false, false, false, false, false, false] rfl rfl (any_of HT_.out (by kernel_rfl)) (fun _ _ _ h => h) (Or.inl ⟨by rfl, ?_⟩) ?_ ?_
             rotate_left
             ·
              intro w'
              go_simp
              with_reducible rfl
             rotate_left
             ·
              simp only [Act.put, List.setIfInBounds_toArray, List.set_cons_zero, List.set_cons_succ, i64_w, i32_w]
              rfl
             refine pure_ (i := 2) (N := some 113) (v := ?_) (a' := ?_) #[true, false, true, false, false, false, false, false, false, false, false, false, false, false, false] rfl rfl (any_of HT_.out (by kernel_rfl)) (fun _ _ _ h => h) (Or.inl ⟨by rfl, ?_⟩) ?_ ?_
             rotate_left
             ·
              intro w'
              go_simp
              with_reducible rfl
             rotate_left
             ·
              simp only [Act.put, List.setIfInBounds_toArray, List.set_cons_zero, List.set_cons_succ, i64_w, i32_w]
              rfl
             refine pure_ (i := 6) (N := some 117) (v := ?_) (a' := ?_) #[true, false, true, false, false, false, true, false, false, false, false, false, false, false, false] rfl rfl (any_of HT_.out (by kernel_rfl)) (fun _ _ _ h => h) (Or.inl ⟨by rfl, ?_⟩) ?_ ?_
             rotate_left
             ·
              intro w'
              go_simp
              with_reducible rfl
             rotate_left
             ·
              simp only [Act.put, List.setIfInBounds_toArray, List.set_cons_zero, List.set_cons_succ, i64_w, i32_w]
              rfl
             refine take_ (i := 1) (N := some 112) (v := ?_) (a' := ?_) #[true, true, true, false, false, false, true, false, false, false, false, false, false, false, false] rfl rfl (take_ofW HT_.out HW_.out (by kernel_rfl)) (fun _ _ _ h => h) (Or.inl ⟨by rfl, ?_⟩) hHeld ?_ ?_
             rotate_left
             ·
              rintro w' ⟨s0, s1⟩
              go_simp
              with_reducible rfl
             rotate_left
             ·
              simp only [Act.put, List.setIfInBounds_toArray, List.set_cons_zero, List.set_cons_succ, i64_w, i32_w]
              rfl
             refine take_ (i := 3) (N := some 114) (v := ?_) (a' := ?_) #[true, true, true, true, false, false, true, false, false, false, false, false, false, false, false] rfl rfl (take_ofW HT_.out HW_.out (by kernel_rfl)) (fun _ _ _ h => h) (Or.inl ⟨by rfl, ?_⟩) hHeld ?_ ?_
             rotate_left
             ·
              rintro w' ⟨s0, s1⟩
              go_simp
              with_reducible rfl
             rotate_left
             ·
              simp only [Act.put, List.setIfInBounds_toArray, List.set_cons_zero, List.set_cons_succ, i64_w, i32_w]
              rfl
             refine pure_ (i := 4) (N := some 115) (v := ?_) (a' := ?_) #[true, true, true, true, true, false, true, false, false, false, false, false, false, false, false] rfl rfl (any_of HT_.out (by kernel_rfl)) (fun _ _ _ h => h) (Or.inl ⟨by rfl, ?_⟩) ?_ ?_
             rotate_left
             ·
              intro w'
              go_simp
              with_reducible rfl
             rotate_left
             ·
              simp only [Act.put, List.setIfInBounds_toArray, List.set_cons_zero, List.set_cons_succ, i64_w, i32_w]
              rfl
             refine pure_ (i := 5) (N := some 116) (v := ?_) (a' := ?_) #[true, true, true, true, true, true, true, false, false, false, false, false, false, false, false] rfl rfl (any_of HT_.out (by kernel_rfl)) (fun _ _ _ h => h) (Or.inl ⟨by rfl, ?_⟩) ?_ ?_
             rotate_left
             ·
              intro w'
              go_simp
              with_reducible rfl
             rotate_left
             ·
              simp only [Act.put, List.setIfInBounds_toArray, List.set_cons_zero, List.set_cons_succ, i64_w, i32_w]
              rfl
             refine one_ (i := 7) (N := some 118) #[true, true, true, true, true, true, true, true, false, false, false, false, false, false, false] rfl rfl (one_of HT_.out (by kernel_rfl)) (by decide) (fun K hK => ?_)
             refine goes_ Try.func30 (by kernel_rfl) rfl #[.agg #[.slice Ao15 t727.length co15, .slice (some ad734) y754.length co18], .int .i64 (Int.tmod (wrap64 (a1)) 40)] (by rfl) rfl rfl zqE ?_
             with_reducible refine (pump_Drop.calls kj9 _ _ t727 _ _ y754 (Int.tmod (wrap64 (a1)) 40) t759 t760 t761 _ ?side1 ?side2 ?side3 ?side4 A49.out).mono ?_
             (case side1 => exact zqK (Kd.N_reads' HO_734000.out).2.2)
             (case side2 => exact (Kd.N_reads' HO_734000.out).2.1)
             (case side3 => exact zqK (Kd.V_reads' HO758.out).2.2)
             (case side4 => exact (Kd.V_reads' HO758.out).2.1)
             rintro e w69 ⟨rfl, hb⟩
             refine ⟨_, rfl, ?_⟩
             have n0_ := zA (Kd.N_below (zqN HO_734000.out) hb)
             have n1_ := zA (Kd.N_below (zqN HO_734001.out) hb)
             have n2_ := zA (Kd.N_below (zqN HO_740000.out) hb)
             have n3_ := zA (Kd.N_below (zqN HO_740001.out) hb)
             have n4_ := zA (Kd.V_below (by (with_reducible repeat (first | apply Kd.V_alloc | apply Kd.V_drewN | apply Kd.V_drew)); exact HO758.out) hb)
             have n5_ := zA (blk_below (g := gb726) (o := .cells #[.slice A0_0 l0_0.length c0_0, .slice A0_1 l0_1.length c0_1, .slice A0_2 l0_2.length c0_2, .slice A0_3 l0_3.length c0_3, .bool a0_4, .bool true] 79 (0, 0)) (zqB BK726.out) hb)
             have n6_ := zA (blk_below (g := gb733) (o := .cells #[.slice Ao15 t727.length co15, .slice (some ad734) t730.length co18] 40 (0, 0)) (zqB BK733.out) hb)
             have n7_ := zA (blk_below (g := gb739) (o := .cells #[.slice Ao15 t727.length co15, .slice Ao26 y736.length co26] 40 (0, 0)) (zqB BK739.out) hb)
             have n8_ := zA (below_step (by repeat (first | (with_reducible first | exact HB.out | apply below_alloc | apply pw_below_drewN | apply below_drew1 | refine below_set ?_ GE726.out | refine below_set ?_ GE733.out | refine below_set ?_ GE739.out) | exact HB.out)) hb)
             clear HO_734000
             clear HO_734001
             clear HO_740000
             clear HO_740001
             clear HO758
             clear BK726
             clear BK733
             clear BK739
             clear HB
             have HO_734000 := n0_
             have HO_734001 := n1_
             have HO_740000 := n2_
             have HO_740001 := n3_
             have HO758 := n4_
             have BK726 := n5_
             have BK733 := n6_
             have BK739 := n7_
             have HB := n8_
             clear n0_ n1_ n2_ n3_ n4_ n5_ n6_ n7_ n8_
             (try clear hb)
             (try clear hb2)
             (try clear hk)
             (try clear hi)
             refine hK.out _ _ ⟨(blk_cell BK733.out 0).trans rfl, (blk_cell BK733.out 1).trans rfl⟩ (fun hHeld => ?_)
             clear hK K
             refine norm_ (a' := ?_) ?_ ?_
             rotate_left
             ·
              show Act.put _ (some 118) _ = _
              simp only [Act.put, List.setIfInBounds_toArray, List.set_cons_zero, List.set_cons_succ, i64_w, i32_w]
              rfl
             refine pure_ (i := 8) (N := some 110) (v := ?_) (a' := ?_) #[true, true, true, true, true, true, true, true, true, false, false, false, false, false, false] rfl rfl (any_of HT_.out (by kernel_rfl)) (fun _ _ _ h => h) (Or.inl ⟨by rfl, ?_⟩) ?_ ?_
             rotate_left
             ·
              intro w'
              go_simp
              with_reducible rfl
             rotate_left
             ·
              simp only [Act.put, List.setIfInBounds_toArray, List.set_cons_zero, List.set_cons_succ, i64_w, i32_w]
              rfl
             refine pure_ (i := 9) (N := some 119) (v := ?_) (a' := ?_) #[true, true, true, true, true, true, true, true, true, true, false, false, false, false, false] rfl rfl (any_of HT_.out (by kernel_rfl)) (fun _ _ _ h => h) (Or.inl ⟨by rfl, ?_⟩) ?_ ?_
             rotate_left
             ·
              intro w'
              go_simp
              with_reducible rfl
             rotate_left
             ·
              simp only [Act.put, List.setIfInBounds_toArray, List.set_cons_zero, List.set_cons_succ, i64_w, i32_w]
              rfl
             refine pure_ (i := 10) (N := some 120) (v := ?_) (a' := ?_) #[true, true, true, true, true, true, true, true, true, true, true, false, false, false, false] rfl rfl (any_of HT_.out (by kernel_rfl)) (fun _ _ _ h => h) (Or.inl ⟨by rfl, ?_⟩) ?_ ?_
             rotate_left
             ·
              intro w'
              go_simp
              with_reducible rfl
             rotate_left
             ·
              simp only [Act.put, List.setIfInBounds_toArray, List.set_cons_zero, List.set_cons_succ, i64_w, i32_w]
              rfl
             refine pure_ (i := 11) (N := some 121) (v := ?_) (a' := ?_) #[true, true, true, true, true, true, true, true, true, true, true, true, false, false, false] rfl rfl (any_of HT_.out (by kernel_rfl)) (fun _ _ _ h => h) (Or.inl ⟨by rfl, ?_⟩) ?_ ?_
             rotate_left
             ·
              intro w'
              go_simp
              with_reducible rfl
             rotate_left
             ·
              simp only [Act.put, List.setIfInBounds_toArray, List.set_cons_zero, List.set_cons_succ, i64_w, i32_w]
              rfl
             refine pure_ (i := 12) (N := some 20) (v := ?_) (a' := ?_) #[true, true, true, true, true, true, true, true, true, true, true, true, true, false, false] rfl rfl (any_of HT_.out (by kernel_rfl)) (fun _ _ _ h => h) (Or.inl ⟨by rfl, ?_⟩) ?_ ?_
             rotate_left
             ·
              intro w'
              go_simp
              with_reducible rfl
             rotate_left
             ·
              simp only [Act.put, List.setIfInBounds_toArray, List.set_cons_zero, List.set_cons_succ, i64_w, i32_w]
              rfl
             refine pure_ (i := 13) (N := some 21) (v := ?_) (a' := ?_) #[true, true, true, true, true, true, true, true, true, true, true, true, true, true, false] rfl rfl (any_of HT_.out (by kernel_rfl)) (fun _ _ _ h => h) (Or.inl ⟨by rfl, ?_⟩) ?_ ?_
             rotate_left
             ·
              intro w'
              go_simp
              with_reducible rfl
             rotate_left
             ·
              simp only [Act.put, List.setIfInBounds_toArray, List.set_cons_zero, List.set_cons_succ, i64_w, i32_w]
              rfl
             refine pure_ (i := 14) (N := some 14) (v := ?_) (a' := ?_) #[true, true, true, true, true, true, true, true, true, true, true, true, true, true, true] rfl rfl (any_of HT_.out (by kernel_rfl)) (fun _ _ _ h => h) (Or.inl ⟨by rfl, ?_⟩) ?_ ?_
             rotate_left
             ·
              intro w'
              go_simp
              with_reducible rfl
             rotate_left
             ·
              simp only [Act.put, List.setIfInBounds_toArray, List.set_cons_zero, List.set_cons_succ, i64_w, i32_w]
              rfl
             refine done_ (done_of HT_.out (by kernel_rfl)) ?_
             try go_wp2
             have n0_ := zA (Kd.N_drew HO_734000.out)
             have n1_ := zA (Kd.N_drew HO_734001.out)
             have n2_ := zA (Kd.N_drew HO_740000.out)
             have n3_ := zA (Kd.N_drew HO_740001.out)
             have n4_ := zA (Kd.V_drew HO758.out)
             have n5_ := zA (blk_drew BK726.out)
             have n6_ := zA (blk_drew BK733.out)
             have n7_ := zA (blk_drew BK739.out)
             have n8_ := zA (below_drew1 HB.out)
             clear HO_734000
             clear HO_734001
             clear HO_740000
             clear HO_740001
             clear HO758
             clear BK726
             clear BK733
             clear BK739
             clear HB
             have HO_734000 := n0_
             have HO_734001 := n1_
             have HO_740000 := n2_
             have HO_740001 := n3_
             have HO758 := n4_
             have BK726 := n5_
             have BK733 := n6_
             have BK739 := n7_
             have HB := n8_
             clear n0_ n1_ n2_ n3_ n4_ n5_ n6_ n7_ n8_
             have q71 : (1 : Int) ≤ ((t730.length : Int) : Int) := of_decide_eq_true (zqD)
             obtain ⟨i071, hi071, _, hsz71, _⟩ := info_parts info22
             have hroom71 : t730.length ≤ co18 := (Kd.N_reads' HO_734001.out).2.1
             have hC71 : Kd.F (Kd.slice 71 k71) _ _ (some ad734) t730.length t730 := (Kd.V_at (base := w.heap.size) (Kd.N_V HO_734001.out)).2.2
             have hcut71 := cut_from (P := Try.prog) 38 22 .i64 Try.underlying38 hi071 1 hsz71 (some ad734) t730.length co18 1 (by omega) q71
             have hr71 := Kd.F_cut (m := (1 : Int).toNat) (c := co18) hC71 (by omega) hroom71
             obtain ⟨A71, hA71⟩ : ∃ A1, A1 = (if co18 = (1 : Int).toNat then (some ad734) else ((some ad734) : Option Addr).map (·.add ((1 : Int).toNat * 1))) := ⟨_, rfl⟩
             obtain ⟨c71, hc71⟩ : ∃ c1, c1 = co18 - (1 : Int).toNat := ⟨_, rfl⟩
             have hy71 : y762.length = t730.length - (1 : Int).toNat := (by rw [Ny762.out, List.length_drop] <;> omega)
             rw [show (t730).drop (1 : Int).toNat = y762 from Ny762.out.symm] at hr71
             replace hr71 : Kd.F (Kd.slice 71 k71) _ _ A71 y762.length y762 := (by rw [hA71]; exact hr71)
             rw [← hy71, ← hA71, ← hc71] at hcut71
             have HO766 := zA (show Kd.V (Kd.slice 71 k71) 22 _ w.heap.size _ (.slice A71 y762.length c71) y762 from Kd.V_mk (by rw [hy71, hc71]; exact Nat.sub_le_sub_right hroom71 _) hr71)
             have HC766 := zA (show y762.length ≤ c71 from by rw [hy71, hc71]; exact Nat.sub_le_sub_right hroom71 _)
             clear hr71 hC71 hroom71 hi071 hsz71 hc71
             have KY71 := zA hy71
             have KA71 := zA hA71
             clear hy71 hA71
             replace q71 := eq_true q71
             refine start_ (n := 15) (S := fun w' => w'.cell? ⟨gb733, 0, none⟩ = some (.slice Ao15 t727.length co15) ∧ w'.cell? ⟨gb733, 1, none⟩ = some (.slice (some ad734) t730.length co18)) (ds := []) #[false, false, false, false, false, false, false, false, false, false, false, false, false, false, false] (by kernel_rfl) rfl rfl ⟨(blk_cell BK733.out 0).trans rfl, (blk_cell BK733.out 1).trans rfl⟩ (fun hHeld => ?_); refine with_tabW pianolalaw04_PumpOrder.tab14 pianolalaw04_PumpOrder.bits14 (fun HT_ HW_ => ?_)
             generalize w69.drew = w70 at HO_734000 HO_734001 HO_740000 HO_740001 HO758 BK726 BK733 BK739 HB HO766 hHeld ⊢
             refine pure_ (i := 0) (N := some 123) (v := ?_) (a' := ?_) #[true, false, false, false, false, false, false, false, false, false, false, false, false, false, false] rfl rfl (any_of HT_.out (by kernel_rfl)) (fun _ _ _ h => h) (Or.inl ⟨by rfl, ?_⟩) ?_ ?_
             rotate_left
             ·
              intro w'
              go_simp
              with_reducible rfl
             rotate_left
             ·
              simp only [Act.put, List.setIfInBounds_toArray, List.set_cons_zero, List.set_cons_succ, i64_w, i32_w]
              rfl
             refine pure_ (i := 2) (N := some 125) (v := ?_) (a' := ?_) #[true, false, true, false, false, false, false, false, false, false, false, false, false, false, false] rfl rfl (any_of HT_.out (by kernel_rfl)) (fun _ _ _ h => h) (Or.inl ⟨by rfl, ?_⟩) ?_ ?_
             rotate_left
             ·
              intro w'
              go_simp
              with_reducible rfl
             rotate_left
             ·
              simp only [Act.put, List.setIfInBounds_toArray, List.set_cons_zero, List.set_cons_succ, i64_w, i32_w]
              rfl
             refine pure_ (i := 6) (N := some 129) (v := ?_) (a' := ?_) #[true, false, true, false, false, false, true, false, false, false, false, false, false, false, false] rfl rfl (any_of HT_.out (by kernel_rfl)) (fun _ _ _ h => h) (Or.inl ⟨by rfl, ?_⟩) ?_ ?_
             rotate_left
             ·
              intro w'
              go_simp
              with_reducible rfl
             rotate_left
             ·
              simp only [Act.put, List.setIfInBounds_toArray, List.set_cons_zero, List.set_cons_succ, i64_w, i32_w]
              rfl
             refine take_ (i := 1) (N := some 124) (v := ?_) (a' := ?_) #[true, true, true, false, false, false, true, false, false, false, false, false, false, false, false] rfl rfl (take_ofW HT_.out HW_.out (by kernel_rfl)) (fun _ _ _ h => h) (Or.inl ⟨by rfl, ?_⟩) hHeld ?_ ?_
             rotate_left
             ·
              rintro w' ⟨s0, s1⟩
              go_simp
              with_reducible rfl
             rotate_left
             ·
              simp only [Act.put, List.setIfInBounds_toArray, List.set_cons_zero, List.set_cons_succ, i64_w, i32_w]
              rfl
             refine take_ (i := 3) (N := some 126) (v := ?_) (a' := ?_) #[true, true, true, true, false, false, true, false, false, false, false, false, false, false, false] rfl rfl (take_ofW HT_.out HW_.out (by kernel_rfl)) (fun _ _ _ h => h) (Or.inl ⟨by rfl, ?_⟩) hHeld ?_ ?_
             rotate_left
             ·
              rintro w' ⟨s0, s1⟩
              go_simp
              with_reducible rfl
             rotate_left
             ·
              simp only [Act.put, List.setIfInBounds_toArray, List.set_cons_zero, List.set_cons_succ, i64_w, i32_w]
              rfl
             refine pure_ (i := 4) (N := some 127) (v := ?_) (a' := ?_) #[true, true, true, true, true, false, true, false, false, false, false, false, false, false, false] rfl rfl (any_of HT_.out (by kernel_rfl)) (fun _ _ _ h => h) (Or.inl ⟨by rfl, ?_⟩) ?_ ?_
             rotate_left
             ·
              intro w'
              go_simp
              with_reducible rfl
             rotate_left
             ·
              simp only [Act.put, List.setIfInBounds_toArray, List.set_cons_zero, List.set_cons_succ, i64_w, i32_w]
              rfl
             refine pure_ (i := 5) (N := some 128) (v := ?_) (a' := ?_) #[true, true, true, true, true, true, true, false, false, false, false, false, false, false, false] rfl rfl (any_of HT_.out (by kernel_rfl)) (fun _ _ _ h => h) (Or.inl ⟨by rfl, ?_⟩) ?_ ?_
             rotate_left
             ·
              intro w'
              go_simp
              with_reducible rfl
             rotate_left
             ·
              simp only [Act.put, List.setIfInBounds_toArray, List.set_cons_zero, List.set_cons_succ, i64_w, i32_w]
              rfl
             refine one_ (i := 7) (N := some 130) #[true, true, true, true, true, true, true, true, false, false, false, false, false, false, false] rfl rfl (one_of HT_.out (by kernel_rfl)) (by decide) (fun K hK => ?_)
             refine goes_ Try.func30 (by kernel_rfl) rfl #[.agg #[.slice Ao15 t727.length co15, .slice A71 y762.length c71], .int .i64 (Int.tmod (wrap64 (a1)) 40)] (by rfl) rfl rfl zqE ?_
             with_reducible refine (pump_Drop.calls kj9 _ _ t727 _ _ y762 (Int.tmod (wrap64 (a1)) 40) t767 t768 t769 _ ?side1 ?side2 ?side3 ?side4 A51.out).mono ?_
             (case side1 => exact zqK (Kd.N_reads' HO_734000.out).2.2)
             (case side2 => exact (Kd.N_reads' HO_734000.out).2.1)
             (case side3 => exact zqK (Kd.V_reads' HO766.out).2.2)
             (case side4 => exact (Kd.V_reads' HO766.out).2.1)
             rintro e w72 ⟨rfl, hb⟩
             refine ⟨_, rfl, ?_⟩
             have n0_ := zA (Kd.N_below (zqN HO_734000.out) hb)
             have n1_ := zA (Kd.N_below (zqN HO_734001.out) hb)
             have n2_ := zA (Kd.N_below (zqN HO_740000.out) hb)
             have n3_ := zA (Kd.N_below (zqN HO_740001.out) hb)
             have n4_ := zA (Kd.V_below (by (with_reducible repeat (first | apply Kd.V_alloc | apply Kd.V_drewN | apply Kd.V_drew)); exact HO758.out) hb)
             have n5_ := zA (Kd.V_below (by (with_reducible repeat (first | apply Kd.V_alloc | apply Kd.V_drewN | apply Kd.V_drew)); exact HO766.out) hb)
             have n6_ := zA (blk_below (g := gb726) (o := .cells #[.slice A0_0 l0_0.length c0_0, .slice A0_1 l0_1.length c0_1, .slice A0_2 l0_2.length c0_2, .slice A0_3 l0_3.length c0_3, .bool a0_4, .bool true] 79 (0, 0)) (zqB BK726.out) hb)
             have n7_ := zA (blk_below (g := gb733) (o := .cells #[.slice Ao15 t727.length co15, .slice (some ad734) t730.length co18] 40 (0, 0)) (zqB BK733.out) hb)
             have n8_ := zA (blk_below (g := gb739) (o := .cells #[.slice Ao15 t727.length co15, .slice Ao26 y736.length co26] 40 (0, 0)) (zqB BK739.out) hb)
             have n9_ := zA (below_step (by repeat (first | (with_reducible first | exact HB.out | apply below_alloc | apply pw_below_drewN | apply below_drew1 | refine below_set ?_ GE726.out | refine below_set ?_ GE733.out | refine below_set ?_ GE739.out) | exact HB.out)) hb)
             clear HO_734000
             clear HO_734001
             clear HO_740000
             clear HO_740001
             clear HO758
             clear HO766
             clear BK726
             clear BK733
             clear BK739
             clear HB
             have HO_734000 := n0_
             have HO_734001 := n1_
             have HO_740000 := n2_
             have HO_740001 := n3_
             have HO758 := n4_
             have HO766 := n5_
             have BK726 := n6_
             have BK733 := n7_
             have BK739 := n8_
             have HB := n9_
             clear n0_ n1_ n2_ n3_ n4_ n5_ n6_ n7_ n8_ n9_
             (try clear hb)
             (try clear hb2)
             (try clear hk)
             (try clear hi)
             refine hK.out _ _ ⟨(blk_cell BK733.out 0).trans rfl, (blk_cell BK733.out 1).trans rfl⟩ (fun hHeld => ?_)
             clear hK K
             refine norm_ (a' := ?_) ?_ ?_
             rotate_left
             ·
              show Act.put _ (some 130) _ = _
              simp only [Act.put, List.setIfInBounds_toArray, List.set_cons_zero, List.set_cons_succ, i64_w, i32_w]
              rfl
             refine pure_ (i := 8) (N := some 122) (v := ?_) (a' := ?_) #[true, true, true, true, true, true, true, true, true, false, false, false, false, false, false] rfl rfl (any_of HT_.out (by kernel_rfl)) (fun _ _ _ h => h) (Or.inl ⟨by rfl, ?_⟩) ?_ ?_
             rotate_left
             ·
              intro w'
              go_simp
              with_reducible rfl
             rotate_left
             ·
              simp only [Act.put, List.setIfInBounds_toArray, List.set_cons_zero, List.set_cons_succ, i64_w, i32_w]
              rfl
             refine pure_ (i := 9) (N := some 131) (v := ?_) (a' := ?_) #[true, true, true, true, true, true, true, true, true, true, false, false, false, false, false] rfl rfl (any_of HT_.out (by kernel_rfl)) (fun _ _ _ h => h) (Or.inl ⟨by rfl, ?_⟩) ?_ ?_
             rotate_left
             ·
              intro w'
              go_simp
              with_reducible rfl
             rotate_left
             ·
              simp only [Act.put, List.setIfInBounds_toArray, List.set_cons_zero, List.set_cons_succ, i64_w, i32_w]
              rfl
             refine pure_ (i := 10) (N := some 132) (v := ?_) (a' := ?_) #[true, true, true, true, true, true, true, true, true, true, true, false, false, false, false] rfl rfl (any_of HT_.out (by kernel_rfl)) (fun _ _ _ h => h) (Or.inl ⟨by rfl, ?_⟩) ?_ ?_
             rotate_left
             ·
              intro w'
              go_simp
              with_reducible rfl
             rotate_left
             ·
              simp only [Act.put, List.setIfInBounds_toArray, List.set_cons_zero, List.set_cons_succ, i64_w, i32_w]
              rfl
             refine pure_ (i := 11) (N := some 133) (v := ?_) (a' := ?_) #[true, true, true, true, true, true, true, true, true, true, true, true, false, false, false] rfl rfl (any_of HT_.out (by kernel_rfl)) (fun _ _ _ h => h) (Or.inl ⟨by rfl, ?_⟩) ?_ ?_
             rotate_left
             ·
              intro w'
              go_simp
              with_reducible rfl
             rotate_left
             ·
              simp only [Act.put, List.setIfInBounds_toArray, List.set_cons_zero, List.set_cons_succ, i64_w, i32_w]
              rfl
             refine pure_ (i := 12) (N := some 22) (v := ?_) (a' := ?_) #[true, true, true, true, true, true, true, true, true, true, true, true, true, false, false] rfl rfl (any_of HT_.out (by kernel_rfl)) (fun _ _ _ h => h) (Or.inl ⟨by rfl, ?_⟩) ?_ ?_
             rotate_left
             ·
              intro w'
              go_simp
              with_reducible rfl
             rotate_left
             ·
              simp only [Act.put, List.setIfInBounds_toArray, List.set_cons_zero, List.set_cons_succ, i64_w, i32_w]
              rfl
             refine pure_ (i := 13) (N := some 23) (v := ?_) (a' := ?_) #[true, true, true, true, true, true, true, true, true, true, true, true, true, true, false] rfl rfl (any_of HT_.out (by kernel_rfl)) (fun _ _ _ h => h) (Or.inl ⟨by rfl, ?_⟩) ?_ ?_
             rotate_left
             ·
              intro w'
              go_simp
              with_reducible rfl
             rotate_left
             ·
              simp only [Act.put, List.setIfInBounds_toArray, List.set_cons_zero, List.set_cons_succ, i64_w, i32_w]
              rfl
             refine pure_ (i := 14) (N := some 17) (v := ?_) (a' := ?_) #[true, true, true, true, true, true, true, true, true, true, true, true, true, true, true] rfl rfl (any_of HT_.out (by kernel_rfl)) (fun _ _ _ h => h) (Or.inl ⟨by rfl, ?_⟩) ?_ ?_
             rotate_left
             ·
              intro w'
              go_simp
              with_reducible rfl
             rotate_left
             ·
              simp only [Act.put, List.setIfInBounds_toArray, List.set_cons_zero, List.set_cons_succ, i64_w, i32_w]
              rfl
             refine done_ (done_of HT_.out (by kernel_rfl)) ?_
             try go_wp2_with (first | (go_at_call 15; (with_reducible refine (pianolalaw04_works.calls  t770 _ A59.out).mono ?_); rintro e w73 ⟨rfl, hb⟩; have n0_ := zA (Kd.N_below (zqN HO_734000.out) hb); have n1_ := zA (Kd.N_below (zqN HO_734001.out) hb); have n2_ := zA (Kd.N_below (zqN HO_740000.out) hb); have n3_ := zA (Kd.N_below (zqN HO_740001.out) hb); have n4_ := zA (Kd.V_below (by (with_reducible repeat (first | apply Kd.V_alloc | apply Kd.V_drewN | apply Kd.V_drew)); exact HO758.out) hb); have n5_ := zA (Kd.V_below (by (with_reducible repeat (first | apply Kd.V_alloc | apply Kd.V_drewN | apply Kd.V_drew)); exact HO766.out) hb); have n6_ := zA (blk_below (g := gb726) (o := .cells #[.slice A0_0 l0_0.length c0_0, .slice A0_1 l0_1.length c0_1, .slice A0_2 l0_2.length c0_2, .slice A0_3 l0_3.length c0_3, .bool a0_4, .bool true] 79 (0, 0)) (zqB BK726.out) hb); have n7_ := zA (blk_below (g := gb733) (o := .cells #[.slice Ao15 t727.length co15, .slice (some ad734) t730.length co18] 40 (0, 0)) (zqB BK733.out) hb); have n8_ := zA (blk_below (g := gb739) (o := .cells #[.slice Ao15 t727.length co15, .slice Ao26 y736.length co26] 40 (0, 0)) (zqB BK739.out) hb); have n9_ := zA (below_step (by repeat (first | (with_reducible first | exact HB.out | apply below_alloc | apply pw_below_drewN | apply below_drew1 | refine below_set ?_ GE726.out | refine below_set ?_ GE733.out | refine below_set ?_ GE739.out) | exact HB.out)) hb); clear HO_734000; clear HO_734001; clear HO_740000; clear HO_740001; clear HO758; clear HO766; clear BK726; clear BK733; clear BK739; clear HB; have HO_734000 := n0_; have HO_734001 := n1_; have HO_740000 := n2_; have HO_740001 := n3_; have HO758 := n4_; have HO766 := n5_; have BK726 := n6_; have BK733 := n7_; have BK739 := n8_; have HB := n9_; clear n0_ n1_ n2_ n3_ n4_ n5_ n6_ n7_ n8_ n9_; (try clear hb); (try clear hb2); (try clear hk); (try clear hi)))
             go_ret
             exact ⟨by first | rfl | (simp [errW_none, errW_some] <;> rfl) | (simp only [← hji56]; first | rfl | (simp [errW_none, errW_some] <;> rfl)) | (simp [*, errW_none, errW_some] <;> rfl), by repeat (first | (with_reducible first | exact HB.out | apply below_alloc | apply pw_below_drewN | apply below_drew1 | refine below_set ?_ GE726.out | refine below_set ?_ GE733.out | refine below_set ?_ GE739.out) | exact HB.out)⟩
            ·
             rw [if_neg c58] at H
             exact absurd ((Option.some.inj H).trans HRT.out) (by decide)
           ·
            rw [if_neg c57] at H
            exact absurd ((Option.some.inj H).trans HRT.out) (by decide)
          ·
           rw [if_neg c55] at H
           exact absurd ((Option.some.inj H).trans HRT.out) (by decide)
         ·
          rw [if_neg c54] at H
          exact absurd ((Option.some.inj H).trans HRT.out) (by decide)
        ·
         rw [if_neg c53] at H
         exact absurd ((Option.some.inj H).trans HRT.out) (by decide)
       ·
        rw [if_neg c52] at H
        exact absurd ((Option.some.inj H).trans HRT.out) (by decide)
      ·
       rw [if_neg c48] at H
       exact absurd H (by simp)
  ·
   rw [if_neg c5] at H
   exact absurd H (by simp)
 ·
  rw [if_neg c4] at H
  exact absurd H (by simp)
end Go.Proofs.Ythoeindopljmkaa.P
end
section
namespace Pm
abbrev B2 := Int × Int
structure Bds (L : List B2) : Prop where
  ne : L ≠ []
  t : ∀ b ∈ L, 1 ≤ b.1 ∧ b.1 ≤ 100
  a : ∀ b ∈ L, 0 ≤ b.2 ∧ b.2 ≤ 1000000
def minFrom (f : B2 → Int) : List B2 → Int → Int → Int → Int × Int
  | [], _, s, k => (s, k)
  | b :: l, i, s, k => if i = 0 ∨ f b < s then minFrom f l (i + 1) (f b) i else minFrom f l (i + 1) s k
def maxFrom (n : Int) (f : B2 → Int) : List B2 → Int → Int → Int → Int × Int
  | [], _, s, k => (s, k)
  | b :: l, i, s, k => if b.1 ≤ n ∧ f b > s then maxFrom n f l (i + 1) (f b) i else maxFrom n f l (i + 1) s k
theorem minFrom_le (f : B2 → Int) : ∀ (l : List B2) (i s k : Int), 0 < i → (minFrom f l i s k).1 ≤ s ∧ ∀ b ∈ l, (minFrom f l i s k).1 ≤ f b
  | [], _, s, k, _ => ⟨Int.le_refl _, fun _ h => by cases h⟩
  | b :: l, i, s, k, hi => by
    unfold minFrom
    by_cases c : i = 0 ∨ f b < s
    · rw [if_pos c]
      obtain ⟨h1, h2⟩ := minFrom_le f l (i + 1) (f b) i (by omega)
      refine ⟨by omega, fun x hx => ?_⟩
      cases hx with
      | head => exact h1
      | tail _ hx => exact h2 x hx
    · rw [if_neg c]
      obtain ⟨h1, h2⟩ := minFrom_le f l (i + 1) s k (by omega)
      refine ⟨h1, fun x hx => ?_⟩
      cases hx with
      | head => omega
      | tail _ hx => exact h2 x hx
theorem minFrom_at (f : B2 → Int) : ∀ (l pre : List B2) (s k : Int), (k = -1 ∧ pre = [] ∨ ∃ j : Nat, k = j ∧ ∃ b, (pre ++ l)[j]? = some b ∧ j < pre.length ∧ f b = s) →
    (minFrom f l (pre.length : Int) s k = (s, k) ∧ l = [] ∧ pre = []) ∨ ∃ j : Nat, (minFrom f l (pre.length : Int) s k).2 = j ∧ ∃ b, (pre ++ l)[j]? = some b ∧ f b = (minFrom f l (pre.length : Int) s k).1
  | [], pre, s, k, h => by
    rcases h with ⟨h1, h2⟩ | ⟨j, hj, b, hb, _, hf⟩
    · exact .inl ⟨rfl, rfl, h2⟩
    · exact .inr ⟨j, hj, b, hb, hf⟩
  | b :: l, pre, s, k, h => by
    have e : pre ++ b :: l = (pre ++ [b]) ++ l := by simp
    have el : ((pre ++ [b]).length : Int) = (pre.length : Int) + 1 := by simp
    unfold minFrom
    by_cases c : (pre.length : Int) = 0 ∨ f b < s
    · rw [if_pos c, ← el, e]
      rcases minFrom_at f l (pre ++ [b]) (f b) pre.length (.inr ⟨pre.length, rfl, b, by simp, by simp, rfl⟩) with ⟨_, _, h3⟩ | h
      · simp at h3
      · exact .inr h
    · rw [if_neg c, ← el, e]
      rcases h with ⟨h1, h2⟩ | ⟨j, hj, x, hx, hlt, hf⟩
      · exact absurd (.inl (by rw [h2]; rfl)) c
      · rcases minFrom_at f l (pre ++ [b]) s k (.inr ⟨j, hj, x, by rw [← e]; exact hx, by simp; omega, hf⟩) with ⟨_, _, h3⟩ | h
        · simp at h3
        · exact .inr h
theorem maxFrom_le (n : Int) (f : B2 → Int) : ∀ (l : List B2) (i s k : Int), s ≤ (maxFrom n f l i s k).1 ∧ ∀ b ∈ l, b.1 ≤ n → f b ≤ (maxFrom n f l i s k).1
  | [], _, s, k => ⟨Int.le_refl _, fun _ h => by cases h⟩
  | b :: l, i, s, k => by
    unfold maxFrom
    by_cases c : b.1 ≤ n ∧ f b > s
    · rw [if_pos c]
      obtain ⟨h1, h2⟩ := maxFrom_le n f l (i + 1) (f b) i
      refine ⟨by omega, fun x hx hn => ?_⟩
      cases hx with
      | head => exact h1
      | tail _ hx => exact h2 x hx hn
    · rw [if_neg c]
      obtain ⟨h1, h2⟩ := maxFrom_le n f l (i + 1) s k
      refine ⟨h1, fun x hx hn => ?_⟩
      cases hx with
      | head => omega
      | tail _ hx => exact h2 x hx hn
theorem maxFrom_at (n : Int) (f : B2 → Int) : ∀ (l pre : List B2) (s0 s k : Int), (k = -1 ∧ s = s0 ∨ ∃ j : Nat, k = j ∧ ∃ b, (pre ++ l)[j]? = some b ∧ f b = s ∧ b.1 ≤ n) →
    ((maxFrom n f l (pre.length : Int) s k).2 = -1 ∧ (maxFrom n f l (pre.length : Int) s k).1 = s0) ∨ ∃ j : Nat, (maxFrom n f l (pre.length : Int) s k).2 = j ∧ ∃ b, (pre ++ l)[j]? = some b ∧ f b = (maxFrom n f l (pre.length : Int) s k).1 ∧ b.1 ≤ n
  | [], pre, s0, s, k, h => by
    rcases h with ⟨h1, h2⟩ | ⟨j, hj, b, hb, hf, hn⟩
    · exact .inl ⟨h1, h2⟩
    · exact .inr ⟨j, hj, b, hb, hf, hn⟩
  | b :: l, pre, s0, s, k, h => by
    have e : pre ++ b :: l = (pre ++ [b]) ++ l := by simp
    have el : ((pre ++ [b]).length : Int) = (pre.length : Int) + 1 := by simp
    unfold maxFrom
    by_cases c : b.1 ≤ n ∧ f b > s
    · rw [if_pos c, ← el, e]
      exact maxFrom_at n f l (pre ++ [b]) s0 (f b) pre.length (.inr ⟨pre.length, rfl, b, by simp, rfl, c.1⟩)
    · rw [if_neg c, ← el, e]
      exact maxFrom_at n f l (pre ++ [b]) s0 s k (by rw [← e]; exact h)
def stepM (L : List B2) (s : List Int) : Int × Int := minFrom (fun b => s.getD (max 0 ((s.length : Int) - b.1)).toNat 0 + b.2) L 0 0 0
def stepL (L : List B2) (s : List Int) : Int × Int := maxFrom (s.length : Int) (fun b => s.getD ((s.length : Int) - b.1).toNat 0 + b.2) L 0 (s.getD (s.length - 1) 0) (-1)
def tabF (R : List Int → Int × Int) : Nat → List Int × List Int
  | 0 => ([0], [-1])
  | n + 1 => ((tabF R n).1 ++ [(R (tabF R n).1).1], (tabF R n).2 ++ [(R (tabF R n).1).2])
theorem tabF_len (R : List Int → Int × Int) : ∀ n, (tabF R n).1.length = n + 1 ∧ (tabF R n).2.length = n + 1
  | 0 => ⟨rfl, rfl⟩
  | n + 1 => by
    obtain ⟨h1, h2⟩ := tabF_len R n
    simp [tabF, h1, h2]
def valF (R : List Int → Int × Int) (n : Nat) : Int := (tabF R n).1.getD n 0
def lastF (R : List Int → Int × Int) (n : Nat) : Int := (tabF R n).2.getD n 0
theorem tabF_get (R : List Int → Int × Int) : ∀ (n m : Nat), m ≤ n → (tabF R n).1.getD m 0 = valF R m ∧ (tabF R n).2.getD m 0 = lastF R m
  | 0, m, h => by
    have : m = 0 := by omega
    subst this
    exact ⟨rfl, rfl⟩
  | n + 1, m, h => by
    by_cases c : m = n + 1
    · subst c; exact ⟨rfl, rfl⟩
    · obtain ⟨h1, h2⟩ := tabF_get R n m (by omega)
      obtain ⟨l1, l2⟩ := tabF_len R n
      simp only [tabF]
      rw [List.getD_eq_getElem?_getD, List.getElem?_append_left (by omega), ← List.getD_eq_getElem?_getD, h1, List.getD_eq_getElem?_getD, List.getElem?_append_left (by omega), ← List.getD_eq_getElem?_getD, h2]
      exact ⟨rfl, rfl⟩
theorem valF_succ (R : List Int → Int × Int) (n : Nat) : valF R (n + 1) = (R (tabF R n).1).1 ∧ lastF R (n + 1) = (R (tabF R n).1).2 := by
  obtain ⟨l1, l2⟩ := tabF_len R n
  unfold valF lastF
  simp only [tabF]
  rw [List.getD_eq_getElem?_getD, List.getElem?_append_right (by omega), List.getD_eq_getElem?_getD, List.getElem?_append_right (by omega), l1, l2]
  simp
def mst (L : List B2) : Nat → Int := valF (stepM L)
def lst (L : List B2) : Nat → Int := valF (stepL L)
section
variable {L : List B2} (h : Bds L)
include h
theorem mst_spec (n : Nat) : (∀ b ∈ L, mst L (n + 1) ≤ mst L (n + 1 - b.1.toNat) + b.2) ∧ ∃ j : Nat, lastF (stepM L) (n + 1) = j ∧ ∃ b, L[j]? = some b ∧ mst L (n + 1) = mst L (n + 1 - b.1.toNat) + b.2 := by
  obtain ⟨l1, _⟩ := tabF_len (stepM L) n
  have hg : ∀ b ∈ L, (tabF (stepM L) n).1.getD (max 0 (((tabF (stepM L) n).1.length : Int) - b.1)).toNat 0 = mst L (n + 1 - b.1.toNat) := by
    intro b hb
    have := h.t b hb
    rw [show (max 0 (((tabF (stepM L) n).1.length : Int) - b.1)).toNat = n + 1 - b.1.toNat by omega]
    exact (tabF_get (stepM L) n _ (by omega)).1
  have hv := valF_succ (stepM L) n
  have hne := h.ne
  constructor
  · intro b hb
    show valF (stepM L) (n + 1) ≤ _
    rw [hv.1, ← hg b hb]
    unfold stepM
    cases L with
    | nil => exact absurd rfl hne
    | cons c l =>
      unfold minFrom
      rw [if_pos (.inl rfl)]
      obtain ⟨m1, m2⟩ := minFrom_le (fun b => (tabF (stepM (c :: l)) n).1.getD (max 0 (((tabF (stepM (c :: l)) n).1.length : Int) - b.1)).toNat 0 + b.2) l (0 + 1) ((tabF (stepM (c :: l)) n).1.getD (max 0 (((tabF (stepM (c :: l)) n).1.length : Int) - c.1)).toNat 0 + c.2) 0 (by omega)
      cases hb with
      | head => exact m1
      | tail _ hb => exact m2 b hb
  · rw [hv.2]
    show ∃ j : Nat, _ ∧ ∃ b, _ ∧ valF (stepM L) (n + 1) = _
    rw [hv.1]
    have := minFrom_at (fun b => (tabF (stepM L) n).1.getD (max 0 (((tabF (stepM L) n).1.length : Int) - b.1)).toNat 0 + b.2) L [] 0 0
    unfold stepM
    cases L with
    | nil => exact absurd rfl hne
    | cons c l =>
      unfold minFrom
      rw [if_pos (.inl rfl)]
      rcases minFrom_at (fun b => (tabF (stepM (c :: l)) n).1.getD (max 0 (((tabF (stepM (c :: l)) n).1.length : Int) - b.1)).toNat 0 + b.2) l [c] ((tabF (stepM (c :: l)) n).1.getD (max 0 (((tabF (stepM (c :: l)) n).1.length : Int) - c.1)).toNat 0 + c.2) 0 (.inr ⟨0, rfl, c, rfl, by simp, rfl⟩) with ⟨_, _, h3⟩ | ⟨j, hj, b, hb, hf⟩
      · simp at h3
      · refine ⟨j, hj, b, hb, ?_⟩
        rw [← hg b (List.mem_of_getElem? hb)]
        exact hf.symm
theorem lst_spec (n : Nat) : lst L n ≤ lst L (n + 1) ∧ (∀ b ∈ L, b.1 ≤ (n : Int) + 1 → lst L (n + 1 - b.1.toNat) + b.2 ≤ lst L (n + 1)) ∧
    ((lastF (stepL L) (n + 1) = -1 ∧ lst L (n + 1) = lst L n) ∨ ∃ j : Nat, lastF (stepL L) (n + 1) = j ∧ ∃ b, L[j]? = some b ∧ b.1 ≤ (n : Int) + 1 ∧ lst L (n + 1) = lst L (n + 1 - b.1.toNat) + b.2) := by
  obtain ⟨l1, _⟩ := tabF_len (stepL L) n
  have hg : ∀ b ∈ L, b.1 ≤ (n : Int) + 1 → (tabF (stepL L) n).1.getD (((tabF (stepL L) n).1.length : Int) - b.1).toNat 0 = lst L (n + 1 - b.1.toNat) := by
    intro b hb hn
    have := h.t b hb
    rw [show (((tabF (stepL L) n).1.length : Int) - b.1).toNat = n + 1 - b.1.toNat by omega]
    exact (tabF_get (stepL L) n _ (by omega)).1
  have h0 : (tabF (stepL L) n).1.getD ((tabF (stepL L) n).1.length - 1) 0 = lst L n := by
    rw [l1]
    exact (tabF_get (stepL L) n n (by omega)).1
  have hv := valF_succ (stepL L) n
  have hm := maxFrom_le ((tabF (stepL L) n).1.length : Int) (fun b => (tabF (stepL L) n).1.getD (((tabF (stepL L) n).1.length : Int) - b.1).toNat 0 + b.2) L 0 ((tabF (stepL L) n).1.getD ((tabF (stepL L) n).1.length - 1) 0) (-1)
  have ha := maxFrom_at ((tabF (stepL L) n).1.length : Int) (fun b => (tabF (stepL L) n).1.getD (((tabF (stepL L) n).1.length : Int) - b.1).toNat 0 + b.2) L [] ((tabF (stepL L) n).1.getD ((tabF (stepL L) n).1.length - 1) 0) ((tabF (stepL L) n).1.getD ((tabF (stepL L) n).1.length - 1) 0) (-1) (.inl ⟨rfl, rfl⟩)
  have ev : lst L (n + 1) = (stepL L (tabF (stepL L) n).1).1 := hv.1
  have el : lastF (stepL L) (n + 1) = (stepL L (tabF (stepL L) n).1).2 := hv.2
  have es : stepL L (tabF (stepL L) n).1 = maxFrom ((tabF (stepL L) n).1.length : Int) (fun b => (tabF (stepL L) n).1.getD (((tabF (stepL L) n).1.length : Int) - b.1).toNat 0 + b.2) L 0 ((tabF (stepL L) n).1.getD ((tabF (stepL L) n).1.length - 1) 0) (-1) := rfl
  rw [es] at ev el
  simp only [List.length_nil] at ha
  rw [show ((0 : Nat) : Int) = 0 from rfl, ← ev, ← el] at ha
  rw [← ev] at hm
  rw [h0] at hm ha
  refine ⟨hm.1, fun b hb hn => ?_, ?_⟩
  · have := hm.2 b hb (by rw [l1]; omega)
    rw [hg b hb hn] at this
    exact this
  · rcases ha with ⟨h1, h2⟩ | ⟨j, hj, b, hb, hf, hn⟩
    · exact .inl ⟨h1, h2⟩
    · have hb' : L[j]? = some b := hb
      have hn' : b.1 ≤ (n : Int) + 1 := by rw [l1] at hn; omega
      refine .inr ⟨j, hj, b, hb', hn', ?_⟩
      rw [← hf]
      rw [hg b (List.mem_of_getElem? hb') hn']
theorem mst_nonneg : ∀ n, 0 ≤ mst L n := by
  intro n
  induction n using Nat.strongRecOn with
  | _ n ih =>
    cases n with
    | zero => exact Int.le_refl _
    | succ n =>
      obtain ⟨_, j, _, b, hb, e⟩ := mst_spec h n
      have hbm := List.mem_of_getElem? hb
      have := h.t b hbm
      have := h.a b hbm
      have := ih (n + 1 - b.1.toNat) (by omega)
      omega
theorem mst_step : ∀ n, mst L n ≤ mst L (n + 1) := by
  intro n
  induction n using Nat.strongRecOn with
  | _ n ih =>
    obtain ⟨_, j, _, b, hb, e⟩ := mst_spec h n
    have hbm := List.mem_of_getElem? hb
    have ht := h.t b hbm
    have ha := h.a b hbm
    cases n with
    | zero =>
      have := mst_nonneg h 1
      exact this
    | succ n =>
      have h1 := (mst_spec h n).1 b hbm
      by_cases c : (b.1.toNat) ≤ n + 1
      · have h2 := ih (n + 1 - b.1.toNat) (by omega)
        rw [show n + 1 - b.1.toNat + 1 = n + 1 + 1 - b.1.toNat by omega] at h2
        omega
      · rw [show n + 1 - b.1.toNat = n + 1 + 1 - b.1.toNat by omega] at h1
        omega
theorem mst_mono {m n : Nat} (hmn : m ≤ n) : mst L m ≤ mst L n := by
  induction n with
  | zero =>
    have : m = 0 := by omega
    subst this; exact Int.le_refl _
  | succ n ih =>
    by_cases c : m = n + 1
    · subst c; exact Int.le_refl _
    · exact Int.le_trans (ih (by omega)) (mst_step h n)
theorem mst_sub (m : Nat) : ∀ n, mst L (m + n) ≤ mst L m + mst L n := by
  intro n
  induction n using Nat.strongRecOn with
  | _ n ih =>
    cases n with
    | zero => show mst L m ≤ mst L m + 0; omega
    | succ n =>
      obtain ⟨_, j, _, b, hb, e⟩ := mst_spec h n
      have hbm := List.mem_of_getElem? hb
      have ht := h.t b hbm
      have h1 := (mst_spec h (m + n)).1 b hbm
      by_cases c : b.1.toNat ≤ n + 1
      · have h2 := ih (n + 1 - b.1.toNat) (by omega)
        rw [show m + (n + 1 - b.1.toNat) = m + n + 1 - b.1.toNat by omega] at h2
        show mst L (m + n + 1) ≤ _
        omega
      · have h2 := mst_mono h (show m + n + 1 - b.1.toNat ≤ m by omega)
        rw [show n + 1 - b.1.toNat = 0 by omega] at e
        have : mst L 0 = 0 := rfl
        show mst L (m + n + 1) ≤ _
        omega
theorem mst_bd : ∀ n : Nat, mst L n ≤ 1000000 * n := by
  intro n
  induction n with
  | zero => exact Int.le_refl _
  | succ n ih =>
    obtain ⟨c, l, e⟩ := List.exists_cons_of_ne_nil h.ne
    have hc : c ∈ L := by rw [e]; exact List.mem_cons_self ..
    have h1 := (mst_spec h n).1 c hc
    have ha := h.a c hc
    have ht := h.t c hc
    have h2 := mst_mono h (show n + 1 - c.1.toNat ≤ n by omega)
    omega
theorem lst_mono {m n : Nat} (hmn : m ≤ n) : lst L m ≤ lst L n := by
  induction n with
  | zero =>
    have : m = 0 := by omega
    subst this; exact Int.le_refl _
  | succ n ih =>
    by_cases c : m = n + 1
    · subst c; exact Int.le_refl _
    · exact Int.le_trans (ih (by omega)) (lst_spec h n).1
theorem lst_nonneg (n : Nat) : 0 ≤ lst L n := lst_mono h (Nat.zero_le n)
theorem lst_bd : ∀ n : Nat, lst L n ≤ 1000000 * n := by
  intro n
  induction n using Nat.strongRecOn with
  | _ n ih =>
    cases n with
    | zero => exact Int.le_refl _
    | succ n =>
      rcases (lst_spec h n).2.2 with ⟨_, e⟩ | ⟨j, _, b, hb, hn, e⟩
      · have := ih n (by omega)
        omega
      · have hbm := List.mem_of_getElem? hb
        have ht := h.t b hbm
        have ha := h.a b hbm
        have := ih (n + 1 - b.1.toNat) (by omega)
        omega
end
end Pm
end
section
namespace Go.Proofs.Ythoeindopljmkaa.P
open Go.RowKit Go.Proofs.YthoeindopljmkaaW.PrintWords Go.Proofs.YthoeindopljmkaaW.PrintLast Go.Proofs.YthoeindopljmkaaW.PrintMore
open Pm
def bs (l : List S71) : List B2 := l.map fun b => (b.f0, b.f1)
theorem bs_drop (l : List S71) {i : Nat} (h : i < l.length) : (bs l).drop i = ((rd_T71 l i).f0, (rd_T71 l i).f1) :: (bs l).drop (i + 1) := by
  have hl : i < (bs l).length := by simpa [bs] using h
  rw [List.drop_eq_getElem_cons hl]
  congr 1
  unfold rd_T71
  rw [List.getD_eq_getElem?_getD, Int.toNat_natCast, List.getElem?_eq_getElem h]
  simp [bs]
theorem mx_max (a b : Int) : mx a b = max a b := by unfold mx; omega
def Small (s : List Int) : Prop := ∀ n, 0 ≤ s.getD n 0 ∧ s.getD n 0 ≤ 1000000000
theorem most_l0 {l : List S71} (hb : Bds (bs l)) (hl : l.length ≤ 1000) (s t : List Int) (hs : Small s) (hn : 0 < s.length) (hn2 : s.length ≤ 1000) : ∀ (k : Nat) (i : Nat) (x4 x5 : Int), i ≤ l.length → l.length - i < k →
    pump_bounds_most.l0 k x4 x5 s.length l l.length i s t = some (minFrom (fun b => s.getD (max 0 ((s.length : Int) - b.1)).toNat 0 + b.2) ((bs l).drop i) i x4 x5)
  | 0, i, x4, x5, hi, hk => by omega
  | k + 1, i, x4, x5, hi, hk => by
    unfold pump_bounds_most.l0
    by_cases c : i < l.length
    · have hm : ((rd_T71 l i).f0, (rd_T71 l i).f1) ∈ bs l := List.mem_of_mem_drop (i := i) (by rw [bs_drop l c]; exact List.mem_cons_self)
      have ht := hb.t _ hm
      have ha := hb.a _ hm
      dsimp only at ht ha
      have e1 : wrap64 ((s.length : Int) - (rd_T71 l i).f0) = (s.length : Int) - (rd_T71 l i).f0 := by unfold wrap64; omega
      have e2 : wrap64 ((i : Int) + 1) = ((i + 1 : Nat) : Int) := by unfold wrap64; omega
      have hj := hs (max 0 ((s.length : Int) - (rd_T71 l i).f0)).toNat
      have e3 : wrap64 (rd s (mx 0 (wrap64 ((s.length : Int) - (rd_T71 l i).f0))) + (rd_T71 l i).f1) = s.getD (max 0 ((s.length : Int) - (rd_T71 l i).f0)).toNat 0 + (rd_T71 l i).f1 := by
        rw [e1, mx_max]
        show wrap64 (s.getD _ 0 + _) = _
        unfold wrap64; omega
      rw [if_pos (by omega), if_pos (by omega), if_pos (by omega), if_pos (by rw [e1, mx_max]; omega), if_pos (by rw [e1, mx_max]; omega), e3, e2, bs_drop l c]
      have ih := fun a b => most_l0 hb hl s t hs hn hn2 k (i + 1) a b (by omega) (by omega)
      unfold minFrom
      by_cases c0 : i = 0
      · rw [if_pos (by omega), ih, if_pos (.inl (by omega))]
        rfl
      · rw [if_neg (by omega)]
        by_cases c4 : s.getD (max 0 ((s.length : Int) - (rd_T71 l i).f0)).toNat 0 + (rd_T71 l i).f1 < x4
        · rw [if_pos c4, ih, if_pos (.inr c4)]; rfl
        · rw [if_neg c4, ih, if_neg (by rintro (h | h); omega; exact c4 h)]; rfl
    · rw [if_neg (by omega), List.drop_eq_nil_of_le (by simp [bs]; omega)]
      rfl
theorem tab_out (R : List Int → Int × Int) (n m : Nat) (h : n < m) : (tabF R n).1.getD m 0 = 0 := by
  rw [List.getD_eq_getElem?_getD, List.getElem?_eq_none (by rw [(tabF_len R n).1]; omega)]; rfl
theorem small_most {L : List B2} (hb : Bds L) {n : Nat} (hn : n ≤ 500) : Small (tabF (stepM L) n).1 := fun m => by
  by_cases c : m ≤ n
  · rw [(tabF_get _ n m c).1]
    have h1 := mst_nonneg hb m
    have h2 := mst_bd hb m
    unfold mst at h1 h2
    omega
  · rw [tab_out _ n m (by omega)]; omega
theorem small_least {L : List B2} (hb : Bds L) {n : Nat} (hn : n ≤ 500) : Small (tabF (stepL L) n).1 := fun m => by
  by_cases c : m ≤ n
  · rw [(tabF_get _ n m c).1]
    have h1 := lst_nonneg hb m
    have h2 := lst_bd hb m
    unfold lst at h1 h2
    omega
  · rw [tab_out _ n m (by omega)]; omega
theorem most_f {l : List S71} (hb : Bds (bs l)) (hl : l.length ≤ 1000) {n : Nat} (hn : n ≤ 500) (t : List Int) : pump_bounds_most.f (l.length + 1) l (tabF (stepM (bs l)) n).1 t = some (stepM (bs l) (tabF (stepM (bs l)) n).1) := by
  unfold pump_bounds_most.f
  have h := most_l0 hb hl (tabF (stepM (bs l)) n).1 t (small_most hb hn) (by rw [(tabF_len _ n).1]; omega) (by rw [(tabF_len _ n).1]; omega) (l.length + 1) 0 0 0 (Nat.zero_le _) (by omega)
  rw [List.drop_zero] at h
  exact h
theorem tabledm_l0 {l : List S71} (hb : Bds (bs l)) (hl : l.length ≤ 1000) {a : Nat} (ha : a ≤ 400) : ∀ (k m : Nat), m ≤ a → a - m + 1 < k → pump_tabledR.l0 pump_bounds_most.f k l a (tabF (stepM (bs l)) m).1 (tabF (stepM (bs l)) m).2 = some (tabF (stepM (bs l)) a)
  | 0, m, _, hk => by omega
  | k + 1, m, hm, hk => by
    unfold pump_tabledR.l0
    have l1 := tabF_len (stepM (bs l)) m
    by_cases c : m < a
    · have e := tabledm_l0 hb hl ha k (m + 1) (by omega) (by omega)
      rw [if_pos (by rw [l1.1]; omega), most_f hb hl (by omega), Option.bind_some, if_pos (by rw [l1.1]; omega), if_pos (by rw [l1.2]; omega)]
      exact e
    · obtain rfl : m = a := by omega
      rw [if_neg (by rw [l1.1]; omega)]
theorem tabled_most_f {l : List S71} (hb : Bds (bs l)) (hl : l.length ≤ 1000) {a : Nat} (ha : a ≤ 400) : tabled_most.f l a = some (tabF (stepM (bs l)) a) := by
  unfold tabled_most.f pump_tabledR.f
  exact tabledm_l0 hb hl ha _ 0 (Nat.zero_le _) (by rw [Int.toNat_natCast]; omega)
theorem least_l0 {l : List S71} (hb : Bds (bs l)) (hl : l.length ≤ 1000) (s t : List Int) (hs : Small s) (hn : 0 < s.length) (hn2 : s.length ≤ 1000) : ∀ (k : Nat) (i : Nat) (x4 x5 : Int), i ≤ l.length → l.length - i < k →
    pump_bounds_least.l0 k x4 x5 s.length l l.length i s t = some (maxFrom (s.length : Int) (fun b => s.getD ((s.length : Int) - b.1).toNat 0 + b.2) ((bs l).drop i) i x4 x5)
  | 0, i, x4, x5, hi, hk => by omega
  | k + 1, i, x4, x5, hi, hk => by
    unfold pump_bounds_least.l0
    by_cases c : i < l.length
    · have hm : ((rd_T71 l i).f0, (rd_T71 l i).f1) ∈ bs l := List.mem_of_mem_drop (i := i) (by rw [bs_drop l c]; exact List.mem_cons_self)
      have ht := hb.t _ hm
      have ha := hb.a _ hm
      dsimp only at ht ha
      have e1 : wrap64 ((s.length : Int) - (rd_T71 l i).f0) = (s.length : Int) - (rd_T71 l i).f0 := by unfold wrap64; omega
      have e2 : wrap64 ((i : Int) + 1) = ((i + 1 : Nat) : Int) := by unfold wrap64; omega
      have hj := hs ((s.length : Int) - (rd_T71 l i).f0).toNat
      have e3 : wrap64 (rd s (wrap64 ((s.length : Int) - (rd_T71 l i).f0)) + (rd_T71 l i).f1) = s.getD ((s.length : Int) - (rd_T71 l i).f0).toNat 0 + (rd_T71 l i).f1 := by
        rw [e1]
        show wrap64 (s.getD _ 0 + _) = _
        unfold wrap64; omega
      have ih := fun a b => least_l0 hb hl s t hs hn hn2 k (i + 1) a b (by omega) (by omega)
      rw [if_pos (by omega), if_pos (by omega), if_pos (by omega), bs_drop l c]
      unfold maxFrom
      by_cases c0 : (rd_T71 l i).f0 ≤ (s.length : Int)
      · rw [if_pos c0, if_pos (by rw [e1]; omega), if_pos (by rw [e1]; omega), e3, e2]
        by_cases c4 : s.getD ((s.length : Int) - (rd_T71 l i).f0).toNat 0 + (rd_T71 l i).f1 > x4
        · rw [if_pos c4, ih, if_pos ⟨c0, c4⟩]; rfl
        · rw [if_neg c4, ih, if_neg (fun h => c4 h.2)]; rfl
      · rw [if_neg c0, e2, ih, if_neg (fun h => c0 h.1)]; rfl
    · rw [if_neg (by omega), List.drop_eq_nil_of_le (by simp [bs]; omega)]
      rfl
theorem least_f {l : List S71} (hb : Bds (bs l)) (hl : l.length ≤ 1000) {n : Nat} (hn : n ≤ 500) (t : List Int) : pump_bounds_least.f (l.length + 1) l (tabF (stepL (bs l)) n).1 t = some (stepL (bs l) (tabF (stepL (bs l)) n).1) := by
  have l1 := (tabF_len (stepL (bs l)) n).1
  have hsm := small_least hb hn
  generalize (tabF (stepL (bs l)) n).1 = X at l1 hsm
  unfold pump_bounds_least.f
  have e1 : wrap64 ((X.length : Int) - 1) = (n : Int) := by rw [l1]; unfold wrap64; omega
  rw [e1, if_pos (by omega), if_pos (by rw [l1]; omega)]
  have h := least_l0 hb hl X t hsm (by rw [l1]; omega) (by rw [l1]; omega) (l.length + 1) 0 (rd X n) (-1) (Nat.zero_le _) (by omega)
  rw [List.drop_zero] at h
  refine h.trans ?_
  unfold stepL
  rw [show X.length - 1 = n by omega]
  rfl
theorem tabledl_l0 {l : List S71} (hb : Bds (bs l)) (hl : l.length ≤ 1000) {a : Nat} (ha : a ≤ 400) : ∀ (k m : Nat), m ≤ a → a - m + 1 < k → pump_tabledR.l0 pump_bounds_least.f k l a (tabF (stepL (bs l)) m).1 (tabF (stepL (bs l)) m).2 = some (tabF (stepL (bs l)) a)
  | 0, m, _, hk => by omega
  | k + 1, m, hm, hk => by
    unfold pump_tabledR.l0
    have l1 := tabF_len (stepL (bs l)) m
    by_cases c : m < a
    · have e := tabledl_l0 hb hl ha k (m + 1) (by omega) (by omega)
      rw [if_pos (by rw [l1.1]; omega), least_f hb hl (by omega), Option.bind_some, if_pos (by rw [l1.1]; omega), if_pos (by rw [l1.2]; omega)]
      exact e
    · obtain rfl : m = a := by omega
      rw [if_neg (by rw [l1.1]; omega)]
theorem tabled_least_f {l : List S71} (hb : Bds (bs l)) (hl : l.length ≤ 1000) {a : Nat} (ha : a ≤ 400) : tabled_least.f l a = some (tabF (stepL (bs l)) a) := by
  unfold tabled_least.f pump_tabledR.f
  exact tabledl_l0 hb hl ha _ 0 (Nat.zero_le _) (by rw [Int.toNat_natCast]; omega)
end Go.Proofs.Ythoeindopljmkaa.P
end
section
namespace Go.Proofs.Ythoeindopljmkaa.P
open Go.RowKit Go.Proofs.YthoeindopljmkaaW.PrintWords Go.Proofs.YthoeindopljmkaaW.PrintLast Go.Proofs.YthoeindopljmkaaW.PrintMore
open Pm
def cb (l : List S71) : Int := if l.length = 0 then 4 else if 5 < l.length then 5 else if (l.any fun x => !good x) = true then 3 else 0
theorem cb_f (l : List S71) : pump_CheckBounds.f l = some (cb l) := by
  unfold pump_CheckBounds.f cb
  by_cases c : l.length = 0
  · rw [if_pos (by omega), if_pos c]
  · rw [if_neg (by omega), if_neg c]
    by_cases c5 : 5 < l.length
    · rw [if_pos (by omega), if_pos c5]
    · rw [if_neg (by omega), if_neg c5]
      unfold any_bad.f
      rw [if_pos (by omega), Option.bind_some]
      split <;> rfl
theorem cb_zero {l : List S71} : cb l = 0 ↔ l.length ≠ 0 ∧ l.length ≤ 5 ∧ ∀ b ∈ l, good b = true := by
  unfold cb
  by_cases c : l.length = 0
  · rw [if_pos c]; constructor
    · intro h; cases h
    · rintro ⟨h, _⟩; exact absurd c h
  rw [if_neg c]
  by_cases c5 : 5 < l.length
  · rw [if_pos c5]; constructor
    · intro h; cases h
    · rintro ⟨_, h, _⟩; omega
  rw [if_neg c5]
  by_cases ca : (l.any fun x => !good x) = true
  · rw [if_pos ca]; constructor
    · intro h; cases h
    · rintro ⟨_, _, h⟩
      obtain ⟨x, hx, hg⟩ := List.any_eq_true.1 ca
      rw [h x hx] at hg; cases hg
  · rw [if_neg ca]
    refine ⟨fun _ => ⟨c, by omega, fun b hb => ?_⟩, fun _ => rfl⟩
    cases hg : good b
    · exact absurd (List.any_eq_true.2 ⟨b, hb, by rw [hg]; rfl⟩) ca
    · rfl
theorem good_iff {x : S71} : good x = true ↔ (1 ≤ x.f0 ∧ x.f0 ≤ 100) ∧ 0 ≤ x.f1 ∧ x.f1 ≤ 1000000 := by
  unfold good
  rw [Bool.and_eq_true, btw_iff, btw_iff]
theorem bds_of {l : List S71} (h : cb l = 0) : Bds (bs l) ∧ l.length ≤ 5 := by
  obtain ⟨h0, h5, hg⟩ := cb_zero.1 h
  refine ⟨⟨?_, ?_, ?_⟩, h5⟩
  · intro e
    have : (bs l).length = 0 := by rw [e]; rfl
    simp [bs] at this
    exact h0 (by rw [this]; rfl)
  · intro b hb
    obtain ⟨x, hx, rfl⟩ := List.mem_map.1 hb
    exact (good_iff.1 (hg x hx)).1
  · intro b hb
    obtain ⟨x, hx, rfl⟩ := List.mem_map.1 hb
    exact (good_iff.1 (hg x hx)).2
end Go.Proofs.Ythoeindopljmkaa.P
end
section
namespace Go.Proofs.Ythoeindopljmkaa.P
open Go.RowKit Go.Proofs.YthoeindopljmkaaW.PrintWords Go.Proofs.YthoeindopljmkaaW.PrintLast Go.Proofs.YthoeindopljmkaaW.PrintMore
open Pm
def c90 (x : S71) : S90 := ⟨x.f0, x.f1⟩
end Go.Proofs.Ythoeindopljmkaa.P
end
section
namespace Pm
def convTo (f g : Nat → Int) (n : Nat) : Nat → Int
  | 0 => f n + g 0
  | m + 1 => min (convTo f g n m) (f (n - (m + 1)) + g (m + 1))
def conv (f g : Nat → Int) (n : Nat) : Int := convTo f g n n
theorem convTo_le (f g : Nat → Int) (n : Nat) : ∀ (m k : Nat), k ≤ m → convTo f g n m ≤ f (n - k) + g k
  | 0, k, h => by
    have : k = 0 := by omega
    subst this; exact Int.le_refl _
  | m + 1, k, h => by
    unfold convTo
    by_cases c : k = m + 1
    · subst c; omega
    · have := convTo_le f g n m k (by omega); omega
theorem convTo_at (f g : Nat → Int) (n : Nat) : ∀ m : Nat, ∃ k, k ≤ m ∧ convTo f g n m = f (n - k) + g k
  | 0 => ⟨0, Nat.le_refl _, rfl⟩
  | m + 1 => by
    obtain ⟨k, hk, e⟩ := convTo_at f g n m
    unfold convTo
    by_cases c : convTo f g n m ≤ f (n - (m + 1)) + g (m + 1)
    · exact ⟨k, by omega, by omega⟩
    · exact ⟨m + 1, Nat.le_refl _, by omega⟩
theorem conv_le (f g : Nat → Int) {n k : Nat} (h : k ≤ n) : conv f g n ≤ f (n - k) + g k := convTo_le f g n n k h
theorem conv_at (f g : Nat → Int) (n : Nat) : ∃ k, k ≤ n ∧ conv f g n = f (n - k) + g k := convTo_at f g n n
theorem conv_is {f g : Nat → Int} {n : Nat} {x : Int} (h1 : ∀ k, k ≤ n → x ≤ f (n - k) + g k) (h2 : ∃ k, k ≤ n ∧ x = f (n - k) + g k) : conv f g n = x := by
  obtain ⟨k, hk, e⟩ := conv_at f g n
  obtain ⟨j, hj, e2⟩ := h2
  have := h1 k hk
  have := conv_le f g hj
  omega
theorem conv_comm (f g : Nat → Int) (n : Nat) : conv f g n = conv g f n := by
  refine conv_is (fun k hk => ?_) ?_
  · have := conv_le g f (n := n) (k := n - k) (by omega)
    rw [show n - (n - k) = k by omega] at this
    omega
  · obtain ⟨k, hk, e⟩ := conv_at g f n
    exact ⟨n - k, by omega, by rw [show n - (n - k) = k by omega]; omega⟩
structure Line (f : Nat → Int) : Prop where
  zero : f 0 = 0
  step : ∀ n, f n ≤ f (n + 1)
theorem Line.mono {f : Nat → Int} (h : Line f) {m n : Nat} (hmn : m ≤ n) : f m ≤ f n := by
  induction n with
  | zero =>
    have : m = 0 := by omega
    subst this; exact Int.le_refl _
  | succ n ih =>
    by_cases c : m = n + 1
    · subst c; exact Int.le_refl _
    · exact Int.le_trans (ih (by omega)) (h.step n)
theorem Line.nonneg {f : Nat → Int} (h : Line f) (n : Nat) : 0 ≤ f n := by
  have := h.mono (Nat.zero_le n)
  have := h.zero
  omega
theorem conv_line {f g : Nat → Int} (hf : Line f) (hg : Line g) : Line (conv f g) := by
  constructor
  · show f 0 + g 0 = 0
    have := hf.zero
    have := hg.zero
    omega
  · intro n
    obtain ⟨k, hk, e⟩ := conv_at f g (n + 1)
    by_cases c : k ≤ n
    · have h1 := conv_le f g c
      have h2 := hf.step (n - k)
      rw [show n - k + 1 = n + 1 - k by omega] at h2
      omega
    · have hk' : k = n + 1 := by omega
      subst hk'
      have h1 := conv_le f g (Nat.le_refl n)
      have h2 := hg.step n
      rw [show n - n = 0 by omega] at h1
      rw [show n + 1 - (n + 1) = 0 by omega] at e
      omega
theorem conv_le_left {f g : Nat → Int} (hg : Line g) (n : Nat) : conv f g n ≤ f n := by
  have := conv_le f g (Nat.zero_le n)
  have := hg.zero
  simp at *
  omega
theorem conv_le_right {f g : Nat → Int} (hf : Line f) (n : Nat) : conv f g n ≤ g n := by
  have := conv_le f g (Nat.le_refl n)
  have := hf.zero
  simp at *
  omega
def rowF (f : Nat → Int) : List (Nat → Int) → Nat → Int
  | [] => f
  | g :: l => rowF (conv f g) l
theorem rowF_line : ∀ (l : List (Nat → Int)) (f : Nat → Int), Line f → (∀ g ∈ l, Line g) → Line (rowF f l)
  | [], _, hf, _ => hf
  | g :: l, f, hf, h => rowF_line l (conv f g) (conv_line hf (h g (List.mem_cons_self ..))) (fun x hx => h x (List.mem_cons_of_mem _ hx))
theorem rowF_le (n : Nat) : ∀ (l : List (Nat → Int)) (f : Nat → Int), (∀ g ∈ l, Line g) → rowF f l n ≤ f n
  | [], _, _ => Int.le_refl _
  | g :: l, f, h => Int.le_trans (rowF_le n l (conv f g) (fun x hx => h x (List.mem_cons_of_mem _ hx))) (conv_le_left (h g (List.mem_cons_self ..)) n)
def dropF (d s : Nat → Int) : Nat → Int × Int
  | 0 => (0, 0)
  | n + 1 => if d n - s n > (dropF d s n).1 then (d n - s n, n) else dropF d s n
theorem dropF_spec (d s : Nat → Int) : ∀ n, 0 ≤ (dropF d s n).1 ∧ (∀ m, m < n → d m - s m ≤ (dropF d s n).1) ∧ ((dropF d s n = (0, 0)) ∨ ∃ m, m < n ∧ (dropF d s n).2 = (m : Int) ∧ (dropF d s n).1 = d m - s m ∧ 0 < (dropF d s n).1)
  | 0 => ⟨Int.le_refl _, fun m h => by omega, .inl rfl⟩
  | n + 1 => by
    obtain ⟨h1, h2, h3⟩ := dropF_spec d s n
    unfold dropF
    by_cases c : d n - s n > (dropF d s n).1
    · rw [if_pos c]
      refine ⟨by omega, fun m hm => ?_, .inr ⟨n, by omega, rfl, rfl, by show 0 < d n - s n; omega⟩⟩
      by_cases e : m = n
      · subst e; exact Int.le_refl _
      · have := h2 m (by omega)
        show _ ≤ d n - s n
        omega
    · rw [if_neg c]
      refine ⟨h1, fun m hm => ?_, ?_⟩
      · by_cases e : m = n
        · subst e; omega
        · exact h2 m (by omega)
      · rcases h3 with h | ⟨m, hm, h⟩
        · exact .inl h
        · exact .inr ⟨m, by omega, h⟩
def okD (d s : Nat → Int) (n k : Nat) : Prop := ∀ m, m < n → d m ≤ s (m + k)
instance (d s : Nat → Int) (n k : Nat) : Decidable (okD d s n k) := by unfold okD; infer_instance
theorem okD_mono {d s : Nat → Int} (hs : Line s) {n k j : Nat} (h : okD d s n k) (hkj : k ≤ j) : okD d s n j := fun m hm => Int.le_trans (h m hm) (hs.mono (by omega))
def delayF (d s : Nat → Int) (n : Nat) : Nat → Nat → Option Nat
  | 0, _ => none
  | f + 1, k => if okD d s n k then some k else delayF d s n f (k + 1)
theorem delayF_some {d s : Nat → Int} {n : Nat} : ∀ (f k j : Nat), delayF d s n f k = some j → k ≤ j ∧ j < k + f ∧ okD d s n j ∧ ∀ i, k ≤ i → i < j → ¬ okD d s n i
  | 0, _, _, h => by simp [delayF] at h
  | f + 1, k, j, h => by
    unfold delayF at h
    by_cases c : okD d s n k
    · rw [if_pos c] at h
      injection h with h
      subst h
      exact ⟨Nat.le_refl _, by omega, c, fun i h1 h2 => by omega⟩
    · rw [if_neg c] at h
      obtain ⟨h1, h2, h3, h4⟩ := delayF_some f (k + 1) j h
      refine ⟨by omega, by omega, h3, fun i i1 i2 => ?_⟩
      by_cases e : i = k
      · subst e; exact c
      · exact h4 i (by omega) i2
theorem delayF_none {d s : Nat → Int} {n : Nat} : ∀ (f k : Nat), delayF d s n f k = none → ∀ i, k ≤ i → i < k + f → ¬ okD d s n i
  | 0, _, _ => fun i h1 h2 => by omega
  | f + 1, k, h => by
    unfold delayF at h
    by_cases c : okD d s n k
    · rw [if_pos c] at h; cases h
    · rw [if_neg c] at h
      intro i i1 i2
      by_cases e : i = k
      · subst e; exact c
      · exact delayF_none f (k + 1) h i (by omega) (by omega)
theorem delayF_is {d s : Nat → Int} {n f j : Nat} (h1 : j < f) (h2 : okD d s n j) (h3 : ∀ i, i < j → ¬ okD d s n i) : delayF d s n f 0 = some j := by
  cases h : delayF d s n f 0 with
  | none => exact absurd h2 (delayF_none f 0 h j (by omega) (by omega))
  | some i =>
    obtain ⟨_, _, g3, g4⟩ := delayF_some f 0 i h
    rcases Nat.lt_trichotomy i j with c | c | c
    · exact absurd g3 (h3 i c)
    · rw [c]
    · exact absurd h2 (g4 j (by omega) c)
theorem delayF_not {d s : Nat → Int} {n f : Nat} (h : ∀ i, i < f → ¬ okD d s n i) : delayF d s n f 0 = none := by
  cases e : delayF d s n f 0 with
  | none => rfl
  | some i =>
    obtain ⟨_, g2, g3, _⟩ := delayF_some f 0 i e
    exact absurd g3 (h i (by omega))
end Pm
end
section
namespace Pm
theorem mst_line {L : List B2} (h : Bds L) : Line (mst L) := ⟨rfl, mst_step h⟩
theorem lst_line {L : List B2} (h : Bds L) : Line (lst L) := ⟨rfl, fun n => (lst_spec h n).1⟩
end Pm
end
section
namespace Go.Proofs.Ythoeindopljmkaa.P
open Go.RowKit Go.Proofs.YthoeindopljmkaaW.PrintWords Go.Proofs.YthoeindopljmkaaW.PrintLast Go.Proofs.YthoeindopljmkaaW.PrintMore
open Pm
def firstE : List (List S71) → Int
  | [] => 0
  | l :: r => if cb l = 0 then firstE r else cb l
def chk (ps rs : List (List S71)) : Int := if ps.length = 0 ∨ rs.length = 0 then 4 else if 3 < ps.length ∨ 3 < rs.length then 5 else firstE (ps ++ rs)
def pln (ps rs : List (List S71)) (a : Int) : Int := if chk ps rs = 0 then (if btw 0 a 200 = true then 0 else 3) else chk ps rs
theorem wrapN {n : Nat} (h : n ≤ 1000000000) : wrap64 ((n : Int) + 1) = ((n + 1 : Nat) : Int) := by unfold wrap64; omega
theorem rd_L4_nat {l : List (List S71)} {i : Nat} (h : i < l.length) : rd_L4 l i = l[i] := by
  unfold rd_L4; rw [List.getD_eq_getElem?_getD, Int.toNat_natCast, List.getElem?_eq_getElem h]; rfl
theorem concat_two (ps rs : List (List S71)) (h : ps.length ≤ 3) (h' : rs.length ≤ 3) (k : Nat) : pump_concatB.f (k + 6) [ps, rs] = some (ps ++ rs) := by
  have e0 : rd_L7 [ps, rs] 0 = ps := rfl
  have e1 : rd_L7 [ps, rs] 1 = rs := rfl
  have w0 : wrap64 (0 + 1) = 1 := by unfold wrap64; omega
  have w1 : wrap64 (1 + 1) = 2 := by unfold wrap64; omega
  have wa : wrap64 (0 + (ps.length : Int)) = ps.length := by unfold wrap64; omega
  have wb : wrap64 ((ps.length : Int) + rs.length) = ((ps.length + rs.length : Nat) : Int) := by unfold wrap64; omega
  unfold pump_concatB.f
  have le : ([ps, rs].length : Int) = 2 := rfl
  rw [le]
  rw [pump_concatB.l0, if_pos (by decide), if_pos (by decide), if_pos (by rw [le]; decide), e0, wa, if_neg (by omega), w0]
  rw [pump_concatB.l0, if_pos (by decide), if_pos (by decide), if_pos (by rw [le]; decide), e1, wb, if_neg (by omega), w1]
  rw [pump_concatB.l0, if_neg (by decide), if_pos (by omega), if_pos (by omega), show ([ps, rs].length : Int) = 2 from rfl]
  rw [pump_concatB.l1, if_pos (by decide), if_pos (by decide), if_pos (by rw [le]; decide), e0, if_pos (by simp; omega), w0]
  rw [pump_concatB.l1, if_pos (by decide), if_pos (by decide), if_pos (by rw [le]; decide), e1, if_pos (by simp; omega), w1]
  rw [pump_concatB.l1, if_neg (by decide), List.nil_append]
theorem checkV_l0 (l : List (List S71)) (hl : l.length ≤ 10) : ∀ (m i k : Nat), i + m = l.length → m < k → pump_CheckV.l0 k l l.length i = some (firstE (l.drop i))
  | 0, i, 0, h, hk => by omega
  | 0, i, k + 1, h, hk => by
    rw [pump_CheckV.l0, if_neg (by omega), List.drop_eq_nil_of_le (by omega)]; rfl
  | m + 1, i, 0, h, hk => by omega
  | m + 1, i, k + 1, h, hk => by
    rw [pump_CheckV.l0, if_pos (by omega), if_pos (by omega), if_pos (by omega), cb_f, Option.bind_some, wrapN (by omega), rd_L4_nat (by omega), List.drop_eq_getElem_cons (by omega)]
    unfold firstE
    by_cases c : cb l[i] = 0
    · rw [if_pos c, if_pos c]; exact checkV_l0 l hl m (i + 1) k (by omega) (by omega)
    · rw [if_neg c, if_neg c]
theorem Check_f (ps rs : List (List S71)) : pump_Check.f ps rs = some (chk ps rs) := by
  unfold pump_Check.f pump_CheckV.f chk
  by_cases c1 : ps.length = 0
  · rw [if_pos (by omega), if_pos (.inl c1)]; rfl
  · rw [if_neg (by omega)]
    by_cases c2 : rs.length = 0
    · rw [show ((rs.length : Int) == 0) = true by simp [c2], if_pos (.inr c2)]; rfl
    · rw [show ((rs.length : Int) == 0) = false by simp only [beq_eq_false_iff_ne]; omega, if_neg (by omega)]
      rw [show (40 : Nat) = 39 + 1 from rfl, pump_CheckV.j0, if_neg (by simp)]
      by_cases c3 : 3 < ps.length
      · rw [if_pos (by omega), if_pos (.inl c3)]
      · rw [if_neg (by omega)]
        by_cases c4 : 3 < rs.length
        · rw [if_pos (by omega), if_pos (.inr c4)]
        · rw [if_neg (by omega), if_neg (by omega), concat_two ps rs (by omega) (by omega) 33, Option.bind_some]
          have := checkV_l0 (ps ++ rs) (by simp; omega) (ps ++ rs).length 0 39 (by omega) (by simp; omega)
          rw [List.drop_zero] at this
          exact this
theorem planned_f (ps rs : List (List S71)) (a : Int) : pump_planned.f ps rs a = some (pln ps rs a) := by
  unfold pump_planned.f pln
  rw [Check_f, Option.bind_some, btw_f, Option.bind_some]
  by_cases c : chk ps rs = 0
  · rw [if_pos c, if_pos c]
    split
    · rw [c]
    · rfl
  · rw [if_neg c, if_neg c]
theorem firstE_zero : ∀ {l : List (List S71)}, firstE l = 0 ↔ ∀ x ∈ l, cb x = 0
  | [] => by simp [firstE]
  | x :: r => by
    unfold firstE
    rw [List.forall_mem_cons]
    by_cases c : cb x = 0
    · rw [if_pos c, firstE_zero (l := r)]; exact ⟨fun h => ⟨c, h⟩, And.right⟩
    · rw [if_neg c]; exact ⟨fun h => absurd h c, fun h => absurd h.1 c⟩
structure Plant (ps rs : List (List S71)) : Prop where
  p0 : 0 < ps.length
  p3 : ps.length ≤ 3
  r0 : 0 < rs.length
  r3 : rs.length ≤ 3
  p : ∀ x ∈ ps, cb x = 0
  r : ∀ x ∈ rs, cb x = 0
theorem chk_zero {ps rs : List (List S71)} : chk ps rs = 0 ↔ Plant ps rs := by
  unfold chk
  by_cases c1 : ps.length = 0 ∨ rs.length = 0
  · rw [if_pos c1]; exact ⟨fun h => by omega, fun h => by have := h.p0; have := h.r0; omega⟩
  · rw [if_neg c1]
    by_cases c2 : 3 < ps.length ∨ 3 < rs.length
    · rw [if_pos c2]; exact ⟨fun h => by omega, fun h => by have := h.p3; have := h.r3; omega⟩
    · rw [if_neg c2, firstE_zero, List.forall_mem_append]
      exact ⟨fun h => ⟨by omega, by omega, by omega, by omega, h.1, h.2⟩, fun h => ⟨h.p, h.r⟩⟩
theorem pln_zero {ps rs : List (List S71)} {a : Int} : pln ps rs a = 0 ↔ Plant ps rs ∧ 0 ≤ a ∧ a ≤ 200 := by
  unfold pln
  by_cases c : chk ps rs = 0
  · rw [if_pos c]
    have := chk_zero.1 c
    by_cases b : btw 0 a 200 = true
    · rw [if_pos b]; exact ⟨fun _ => ⟨this, btw_iff.1 b⟩, fun _ => rfl⟩
    · rw [if_neg b]; exact ⟨fun h => by omega, fun h => absurd (btw_iff.2 h.2) b⟩
  · rw [if_neg c]
    exact ⟨fun h => absurd h c, fun h => absurd (chk_zero.2 h.1) c⟩
def tabL (f : Nat → Int) (n : Nat) : List Int := (List.range (n + 1)).map f
theorem tabL_len (f : Nat → Int) (n : Nat) : (tabL f n).length = n + 1 := by simp [tabL]
theorem tabL_rd (f : Nat → Int) {n i : Nat} (h : i ≤ n) : rd (tabL f n) (i : Int) = f i := by
  unfold rd tabL
  rw [List.getD_eq_getElem?_getD, Int.toNat_natCast, List.getElem?_eq_getElem (by simp; omega)]
  simp
theorem tabL_congr {f g : Nat → Int} {n : Nat} (h : ∀ i, i ≤ n → f i = g i) : tabL f n = tabL g n := by
  unfold tabL
  exact List.map_congr_left fun i hi => h i (by have := List.mem_range.1 hi; omega)
theorem tabL_set (f : Nat → Int) (n q : Nat) (v : Int) : (tabL f n).set q v = tabL (fun i => if i = q then v else f i) n := by
  apply List.ext_getElem
  · simp [tabL]
  · intro i h1 h2
    rw [List.getElem_set]
    simp only [tabL, List.getElem_map, List.getElem_range]
    by_cases c : q = i
    · rw [if_pos c, if_pos c.symm]
    · rw [if_neg c, if_neg (fun h => c h.symm)]
theorem tab_tabL (R : List Int → Int × Int) (n : Nat) : (tabF R n).1 = tabL (valF R) n := by
  apply List.ext_getElem
  · rw [(tabF_len R n).1, tabL_len]
  · intro i h1 h2
    rw [tabL_len] at h2
    have := (tabF_get R n i (by omega)).1
    rw [List.getD_eq_getElem?_getD, List.getElem?_eq_getElem h1] at this
    rw [show (tabF R n).1[i] = valF R i from this]
    simp [tabL]
def rowFs : List (List S71) → Nat → Int
  | [] => fun _ => 0
  | r :: l => rowF (lst (bs r)) (l.map fun x => lst (bs x))
def demFs (ps : List (List S71)) (n : Nat) : Int := (ps.map fun l => mst (bs l) n).sum
theorem rowF_snoc : ∀ (l : List (Nat → Int)) (f g : Nat → Int), rowF f (l ++ [g]) = conv (rowF f l) g
  | [], _, _ => rfl
  | x :: l, f, g => rowF_snoc l (conv f x) g
theorem rowFs_snoc {rs : List (List S71)} (h : rs ≠ []) (x : List S71) : rowFs (rs ++ [x]) = conv (rowFs rs) (lst (bs x)) := by
  cases rs with
  | nil => exact absurd rfl h
  | cons r l =>
    show rowF _ ((l ++ [x]).map fun x => lst (bs x)) = _
    rw [List.map_append]
    exact rowF_snoc _ _ _
theorem rowFs_line {rs : List (List S71)} (h : ∀ x ∈ rs, cb x = 0) : Line (rowFs rs) := by
  cases rs with
  | nil => exact ⟨rfl, fun _ => Int.le_refl _⟩
  | cons r l =>
    refine rowF_line _ _ (lst_line (bds_of (h r List.mem_cons_self)).1) fun g hg => ?_
    obtain ⟨x, hx, rfl⟩ := List.mem_map.1 hg
    exact lst_line (bds_of (h x (List.mem_cons_of_mem _ hx))).1
theorem rowFs_bd {rs : List (List S71)} (h : ∀ x ∈ rs, cb x = 0) (n : Nat) : 0 ≤ rowFs rs n ∧ rowFs rs n ≤ 1000000 * n := by
  refine ⟨(rowFs_line h).nonneg n, ?_⟩
  cases rs with
  | nil => show (0 : Int) ≤ _; omega
  | cons r l =>
    refine Int.le_trans (rowF_le n _ _ fun g hg => ?_) (lst_bd (bds_of (h r List.mem_cons_self)).1 n)
    obtain ⟨x, hx, rfl⟩ := List.mem_map.1 hg
    exact lst_line (bds_of (h x (List.mem_cons_of_mem _ hx))).1
theorem demFs_line {ps : List (List S71)} (h : ∀ x ∈ ps, cb x = 0) : Line (demFs ps) := by
  induction ps with
  | nil => exact ⟨rfl, fun _ => Int.le_refl _⟩
  | cons r l ih =>
    have i1 := ih fun x hx => h x (List.mem_cons_of_mem _ hx)
    have i2 := mst_line (bds_of (h r List.mem_cons_self)).1
    have e : ∀ n, demFs (r :: l) n = mst (bs r) n + demFs l n := fun n => by simp [demFs]
    refine ⟨by rw [e, i1.1, i2.1]; rfl, fun n => ?_⟩
    rw [e, e]
    have := i1.2 n
    have := i2.2 n
    omega
theorem demFs_bd {ps : List (List S71)} (h : ∀ x ∈ ps, cb x = 0) (n : Nat) : 0 ≤ demFs ps n ∧ demFs ps n ≤ 1000000 * n * ps.length := by
  refine ⟨(demFs_line h).nonneg n, ?_⟩
  induction ps with
  | nil => simp [demFs]
  | cons r l ih =>
    have i1 := ih fun x hx => h x (List.mem_cons_of_mem _ hx)
    have i2 := mst_bd (bds_of (h r List.mem_cons_self)).1 n
    have e : demFs (r :: l) n = mst (bs r) n + demFs l n := by simp [demFs]
    rw [e, List.length_cons, Int.natCast_add, Int.mul_add]
    omega
theorem mixN_conv {f g : Nat → Int} {a : Nat} (hf : ∀ i, 0 ≤ f i ∧ f i ≤ 1000000 * i) (hg : ∀ i, 0 ≤ g i ∧ g i ≤ 1000000 * i) (ha : a ≤ 1000) {n : Nat} (hn : n ≤ a) : ∀ k, k ≤ n → mixN (tabL f a) (tabL g a) n (k + 1) = convTo f g n k
  | 0, hk => by
    have h0 := hf n
    have h1 := hg 0
    unfold mixN mixN convTo
    rw [show (n : Int) - ((0 : Nat) : Int) = ((n : Nat) : Int) by omega, tabL_rd f hn, tabL_rd g (Nat.zero_le _), show wrap64 (f n + g 0) = f n + g 0 by unfold wrap64; omega]
    split <;> omega
  | k + 1, hk => by
    have h0 := hf (n - (k + 1))
    have h1 := hg (k + 1)
    have ih := mixN_conv hf hg ha hn k (by omega)
    unfold mixN convTo
    rw [ih, show (n : Int) - ((k + 1 : Nat) : Int) = ((n - (k + 1) : Nat) : Int) by omega, tabL_rd f (by omega), tabL_rd g (by omega), show wrap64 (f (n - (k + 1)) + g (k + 1)) = f (n - (k + 1)) + g (k + 1) by unfold wrap64; omega]
    split <;> omega
theorem mixF_conv {f g : Nat → Int} {a : Nat} (hf : ∀ i, 0 ≤ f i ∧ f i ≤ 1000000 * i) (hg : ∀ i, 0 ≤ g i ∧ g i ≤ 1000000 * i) (ha : a ≤ 1000) : mixF (tabL f a) (tabL g a) a = tabL (conv f g) a := by
  unfold mixF
  rw [show ((a : Int) + 1).toNat = a + 1 by omega]
  exact List.map_congr_left fun n hn => mixN_conv hf hg ha (by have := List.mem_range.1 hn; omega) n (Nat.le_refl _)
def regF (rs : List (List S71)) (a : Nat) : List S115 := (List.range rs.length).map fun i => ⟨rs.getD i [], tabL (lst (bs (rs.getD i []))) a, tabL (rowFs (rs.take (i + 1))) a⟩
theorem regF_len (rs : List (List S71)) (a : Nat) : (regF rs a).length = rs.length := by simp [regF]
theorem regF_get {rs : List (List S71)} {a i : Nat} (h : i < rs.length) : rd_T115 (regF rs a) (i : Int) = ⟨rs.getD i [], tabL (lst (bs (rs.getD i []))) a, tabL (rowFs (rs.take (i + 1))) a⟩ := by
  unfold rd_T115 regF
  rw [List.getD_eq_getElem?_getD, Int.toNat_natCast, List.getElem?_eq_getElem (by simpa using h)]
  simp
theorem regF_snoc (rs : List (List S71)) (x : List S71) (a : Nat) : regF (rs ++ [x]) a = regF rs a ++ [⟨x, tabL (lst (bs x)) a, tabL (rowFs (rs ++ [x])) a⟩] := by
  unfold regF
  rw [List.length_append, List.length_singleton, List.range_succ, List.map_append]
  congr 1
  · refine List.map_congr_left fun i hi => ?_
    have hi := List.mem_range.1 hi
    rw [List.getD_eq_getElem?_getD, List.getElem?_append_left hi, List.take_append_of_le_length (by omega), ← List.getD_eq_getElem?_getD]
  · simp [List.getD_eq_getElem?_getD]
    rw [List.take_of_length_le (by simp)]
theorem regStep_f {rs : List (List S71)} {x : List S71} (h : ∀ y ∈ rs, cb y = 0) (hx : cb x = 0) {a : Nat} (ha : a ≤ 400) : regStep a (regF rs a) x = some (regF (rs ++ [x]) a) := by
  obtain ⟨hb, h5⟩ := bds_of hx
  unfold regStep
  rw [tabled_least_f hb (by omega) ha, Option.bind_some, if_pos (by rw [(tabF_len _ a).1]; omega), tab_tabL, regF_snoc]
  show some _ = some _
  congr 3
  show S115.mk x _ _ = _
  by_cases c : rs = []
  · subst c
    rfl
  · have hl : 0 < rs.length := List.length_pos_iff.2 c
    rw [if_neg (by intro e; have := congrArg List.length e; rw [regF_len] at this; simp at this; exact c this)]
    rw [regF_len, show (rs.length : Int) - 1 = ((rs.length - 1 : Nat) : Int) by omega, regF_get (by omega), rowFs_snoc c, show rs.length - 1 + 1 = rs.length by omega, List.take_length]
    show S115.mk x _ (mixF (tabL (rowFs rs) a) (tabL (lst (bs x)) a) a) = _
    rw [mixF_conv (rowFs_bd h) (fun i => ⟨lst_nonneg hb i, lst_bd hb i⟩) (by omega)]
    rfl
theorem regs_fold {a : Nat} (ha : a ≤ 400) : ∀ (l rs : List (List S71)), (∀ y ∈ rs, cb y = 0) → (∀ y ∈ l, cb y = 0) → l.foldlM (regStep a) (regF rs a) = some (regF (rs ++ l) a)
  | [], rs, _, _ => by rw [List.append_nil]; rfl
  | x :: l, rs, h1, h2 => by
    have hx := h2 x List.mem_cons_self
    rw [List.foldlM_cons, regStep_f h1 hx ha]
    have := regs_fold ha l (rs ++ [x]) (by
      intro y hy
      rcases List.mem_append.1 hy with hy | hy
      · exact h1 y hy
      · rw [List.mem_singleton.1 hy]; exact hx) (fun y hy => h2 y (List.mem_cons_of_mem _ hy))
    rw [List.append_assoc] at this
    exact this
theorem regs_f {rs : List (List S71)} (h : ∀ y ∈ rs, cb y = 0) (hr : rs.length ≤ 3) {a : Nat} (ha : a ≤ 400) : regs.f rs a = some (regF rs a) := by
  unfold regs.f
  rw [if_pos ⟨by omega, by omega, by omega⟩]
  exact regs_fold ha rs [] (fun _ h => by cases h) h
theorem Plant_row_f {ps rs : List (List S71)} (h : Plant ps rs) {a : Nat} (ha : a ≤ 400) : pump_Plant_row.f ps rs a = some (tabL (rowFs rs) a) := by
  have h0 := h.r0
  unfold pump_Plant_row.f
  rw [regs_f h.r h.r3 ha, Option.bind_some, regF_len, if_neg (by omega), show (rs.length : Int) - 1 = ((rs.length - 1 : Nat) : Int) by omega, regF_get (by omega), show rs.length - 1 + 1 = rs.length by omega, List.take_length]
theorem Row_f (ps rs : List (List S71)) (a : Int) : pump_Row.f ps rs a = some (if pln ps rs a = 0 then rowFs rs a.toNat else 0, pln ps rs a) := by
  unfold pump_Row.f
  rw [planned_f, Option.bind_some]
  by_cases c : pln ps rs a = 0
  · obtain ⟨h, h0, h1⟩ := pln_zero.1 c
    obtain ⟨n, rfl⟩ := Int.eq_ofNat_of_zero_le h0
    rw [if_pos c, if_pos c, Plant_row_f h (by omega), Option.bind_some, if_pos h0, tabL_len, if_pos (by omega), tabL_rd _ (Nat.le_refl _), c]
    rfl
  · rw [if_neg c, if_neg c]
theorem dem_l1 {x x15 : Int} {ps : List (List S71)} {f g : Nat → Int} {a : Nat} (hf : ∀ i, i ≤ a → 0 ≤ f i ∧ f i ≤ 1000000000000) (hg : ∀ i, i ≤ a → 0 ≤ g i ∧ g i ≤ 1000000000000) (ha : a ≤ 1000) (r : List Int) : ∀ (m i : Nat), i + m = a + 1 →
    Ev (fun k => pump_Plant_demands.l0 k a (tabL (fun j => f j + g j) a) ps x15 (wrap64 (x + 1))) r →
    Ev (fun k => pump_Plant_demands.l1 k a (tabL (fun j => if j < i then f j + g j else f j) a) ps x15 x (tabL g a) ((a + 1 : Nat) : Int) i) r
  | 0, i, h, hr => by
    refine Ev.step (fun k => ?_) hr
    rw [pump_Plant_demands.l1, if_neg (by omega)]
    congr 1
    exact tabL_congr fun j hj => by rw [if_pos (by omega)]
  | m + 1, i, h, hr => by
    have ih := dem_l1 (x := x) (x15 := x15) (ps := ps) hf hg ha r m (i + 1) (by omega) hr
    refine Ev.step (fun k => ?_) ih
    have hfi := hf i (by omega)
    have hgi := hg i (by omega)
    rw [pump_Plant_demands.l1, if_pos (by omega), if_pos (by omega), if_pos (by rw [tabL_len]; omega), if_pos (by rw [tabL_len]; omega), tabL_rd _ (by omega), tabL_rd _ (by omega), if_neg (by omega), wrapN (by omega), Int.toNat_natCast, tabL_set,
      show wrap64 (f i + g i) = f i + g i by unfold wrap64; omega]
    congr 1
    refine tabL_congr fun j hj => ?_
    by_cases c : j = i
    · subst c; rw [if_pos rfl, if_pos (by omega)]
    · rw [if_neg c]
      by_cases c2 : j < i
      · rw [if_pos c2, if_pos (by omega)]
      · rw [if_neg c2, if_neg (by omega)]
theorem demFs_snoc (ps : List (List S71)) (x : List S71) (n : Nat) : demFs (ps ++ [x]) n = demFs ps n + mst (bs x) n := by simp [demFs]
theorem dem_l0 {ps : List (List S71)} (h : ∀ x ∈ ps, cb x = 0) (h3 : ps.length ≤ 3) {a : Nat} (ha : a ≤ 400) : ∀ (m i : Nat), i + m = ps.length →
    Ev (fun k => pump_Plant_demands.l0 k a (tabL (demFs (ps.take i)) a) ps ps.length i) (tabL (demFs ps) a)
  | 0, i, hi => by
    refine Ev.step (f := fun _ => some (tabL (demFs ps) a)) (fun k => ?_) (Ev.now _)
    rw [pump_Plant_demands.l0, if_neg (by omega), List.take_of_length_le (by omega)]
  | m + 1, i, hi => by
    have hx := h ps[i] (List.getElem_mem _)
    obtain ⟨hb, h5⟩ := bds_of hx
    have ht : ∀ x ∈ ps.take i, cb x = 0 := fun x hx => h x (List.mem_of_mem_take hx)
    have ih := dem_l0 h h3 ha m (i + 1) (by omega)
    refine Ev.step (fun k => ?_) (dem_l1 (x := i) (x15 := ps.length) (ps := ps) (f := demFs (ps.take i)) (g := mst (bs ps[i])) (a := a) (fun j hj => ?_) (fun j hj => ?_) (by omega) _ (a + 1) 0 (by omega) ?_)
    · rw [pump_Plant_demands.l0, if_pos (by omega), if_pos (by omega), if_pos (by omega), rd_L4_nat (by omega), tabled_most_f hb (by omega) ha, Option.bind_some, tab_tabL, tabL_len]
      congr 1
    · have := demFs_bd ht j
      have : (List.take i ps).length ≤ 3 := by rw [List.length_take]; omega
      refine ⟨by omega, ?_⟩
      have e : 1000000 * (j : Int) * ((ps.take i).length : Int) ≤ 1000000 * (j : Int) * 3 := Int.mul_le_mul_of_nonneg_left (by omega) (by omega)
      omega
    · have := mst_nonneg hb j
      have := mst_bd hb j
      omega
    · rw [wrapN (by omega)]
      have e : tabL (fun j => demFs (ps.take i) j + mst (bs ps[i]) j) a = tabL (demFs (ps.take (i + 1))) a := tabL_congr fun j _ => by
        rw [List.take_succ_eq_append_getElem (by omega), demFs_snoc]
      rw [e]
      exact ih
theorem Plant_demands_f {ps rs : List (List S71)} (h : Plant ps rs) {a : Nat} (ha : a ≤ 400) : Ev (fun k => pump_Plant_demands.f k ps rs a) (tabL (demFs ps) a) := by
  unfold pump_Plant_demands.f
  simp only [wrapN (show a ≤ 1000000000 by omega)]
  simp only [if_pos (show (0 : Int) ≤ ((a + 1 : Nat) : Int) by omega), Int.toNat_natCast, if_pos (show a + 1 ≤ 35184372088832 by omega)]
  have := dem_l0 h.p h.p3 ha ps.length 0 (by omega)
  have e : tabL (demFs (ps.take 0)) a = List.replicate (a + 1) 0 := by
    unfold tabL
    rw [show demFs (List.take 0 ps) = fun _ => (0 : Int) from rfl, List.map_const']
    simp
  rw [e] at this
  exact this
theorem drop_l0 {d s : Nat → Int} {a : Nat} (ha : a ≤ 400) (hd : ∀ i, i ≤ a → 0 ≤ d i ∧ d i ≤ 1000000000000) (hs : ∀ i, i ≤ a → 0 ≤ s i ∧ s i ≤ 1000000000000) : ∀ (m i : Nat), i + m = a + 1 →
    Ev (fun k => pump_Drop.l0 k (dropF d s i).1 (dropF d s i).2 (tabL d a) (tabL s a) ((a + 1 : Nat) : Int) i) ((dropF d s (a + 1)).1, (dropF d s (a + 1)).2, 0)
  | 0, i, h => by
    obtain rfl : i = a + 1 := by omega
    refine Ev.step (f := fun _ => some ((dropF d s (a + 1)).1, (dropF d s (a + 1)).2, 0)) (fun k => ?_) (Ev.now _)
    rw [pump_Drop.l0, if_neg (by omega)]
  | m + 1, i, h => by
    have ih := drop_l0 ha hd hs m (i + 1) (by omega)
    have h1 := hd i (by omega)
    have h2 := hs i (by omega)
    refine Ev.step (fun k => ?_) ih
    rw [pump_Drop.l0, if_pos (by omega), if_pos (by omega), if_pos (by rw [tabL_len]; omega), if_pos (by rw [tabL_len]; omega), tabL_rd _ (by omega), tabL_rd _ (by omega), wrapN (by omega), show wrap64 (d i - s i) = d i - s i by unfold wrap64; omega]
    have e : dropF d s (i + 1) = if d i - s i > (dropF d s i).1 then (d i - s i, (i : Int)) else dropF d s i := rfl
    rw [e]
    split <;> rfl
theorem pl_bd {ps rs : List (List S71)} (h : Plant ps rs) (n : Nat) (hn : n ≤ 1000) : (0 ≤ demFs ps n ∧ demFs ps n ≤ 1000000000000) ∧ 0 ≤ rowFs rs n ∧ rowFs rs n ≤ 1000000000000 := by
  have h1 := demFs_bd h.p n
  have h2 := rowFs_bd h.r n
  have h3 := h.p3
  have e : 1000000 * (n : Int) * (ps.length : Int) ≤ 1000000 * (n : Int) * 3 := Int.mul_le_mul_of_nonneg_left (by omega) (by omega)
  omega
theorem Drop_f (ps rs : List (List S71)) (a : Int) : Ev (fun k => pump_Drop.f k ps rs a) (if pln ps rs a = 0 then ((dropF (demFs ps) (rowFs rs) (a.toNat + 1)).1, (dropF (demFs ps) (rowFs rs) (a.toNat + 1)).2, 0) else (0, 0, pln ps rs a)) := by
  unfold pump_Drop.f
  rw [planned_f]
  simp only [Option.bind_some]
  by_cases c : pln ps rs a = 0
  · obtain ⟨h, h0, h1⟩ := pln_zero.1 c
    obtain ⟨n, rfl⟩ := Int.eq_ofNat_of_zero_le h0
    simp only [if_pos c]
    refine Ev.bind (Plant_demands_f h (by omega)) ?_
    simp only [Plant_row_f h (show n ≤ 400 by omega), Option.bind_some, tabL_len]
    exact drop_l0 (by omega) (fun i hi => (pl_bd h i (by omega)).1) (fun i hi => (pl_bd h i (by omega)).2) (n + 1) 0 (by omega)
  · simp only [if_neg c]
    exact Ev.now _
def dlyR (o : Option Nat) : Int × Int := match o with | some j => ((j : Int), 0) | none => (0, 11)
section
variable {d s : Nat → Int} {a : Nat} (ha : a ≤ 200) (hs : Line s)
include ha hs
theorem delay_l {F : Nat} (hF : F = 201) : ∀ (m : Nat), ∀ (i j : Nat), (a + 1 - i) + (201 - j) < m → i ≤ a + 1 → j ≤ 200 → okD d s i j → (∀ q, q < j → ¬ okD d s (a + 1) q) →
    Ev (fun k => pump_Delay.l0 k (tabL s (a + 200)) j (tabL d a) ((a + 1 : Nat) : Int) i) (dlyR (delayF d s (a + 1) F 0)) ∧
    (i < a + 1 → Ev (fun k => pump_Delay.l1 k (tabL s (a + 200)) j i (d i) (tabL d a) ((a + 1 : Nat) : Int) i) (dlyR (delayF d s (a + 1) F 0)))
  | 0, i, j, hm, hi, hj, h1, h2 => by omega
  | m + 1, i, j, hm, hi, hj, h1, h2 => by
    have in_ : i < a + 1 → Ev (fun k => pump_Delay.l1 k (tabL s (a + 200)) j i (d i) (tabL d a) ((a + 1 : Nat) : Int) i) (dlyR (delayF d s (a + 1) F 0)) := fun c => by
      have ew : wrap64 ((i : Int) + (j : Int)) = ((i + j : Nat) : Int) := by unfold wrap64; omega
      have open_ : ∀ k, pump_Delay.l1 (k + 1) (tabL s (a + 200)) j i (d i) (tabL d a) ((a + 1 : Nat) : Int) i = if s (i + j) < d i then (if ((j + 1 : Nat) : Int) > 200 then some (0, 11) else pump_Delay.l1 k (tabL s (a + 200)) ((j + 1 : Nat) : Int) i (d i) (tabL d a) ((a + 1 : Nat) : Int) i)
          else pump_Delay.l0 k (tabL s (a + 200)) j (tabL d a) ((a + 1 : Nat) : Int) ((i + 1 : Nat) : Int) := fun k => by
        rw [pump_Delay.l1, ew, if_pos (by omega), if_pos (by rw [tabL_len]; omega), tabL_rd _ (by omega), wrapN (by omega), wrapN (by omega)]
      by_cases cc : s (i + j) < d i
      · have hno : ∀ q, q ≤ j → ¬ okD d s (a + 1) q := fun q hq => by
          by_cases e : q = j
          · subst e
            intro hk
            have := hk i (by omega)
            omega
          · exact h2 q (by omega)
        by_cases c2 : j = 200
        · rw [delayF_not (fun q hq => hno q (by omega))]
          refine Ev.step (f := fun _ => some (0, 11)) (fun k => ?_) (Ev.now _)
          rw [open_, if_pos cc, if_pos (by omega)]
        · refine Ev.step (fun k => ?_) ((delay_l hF m i (j + 1) (by omega) hi (by omega) (okD_mono hs h1 (by omega)) (fun q hq => hno q (by omega))).2 c)
          rw [open_, if_pos cc, if_neg (by omega)]
      · refine Ev.step (fun k => ?_) ((delay_l hF m (i + 1) j (by omega) (by omega) hj (fun q hq => ?_) h2).1)
        · rw [open_, if_neg cc]
        · by_cases e : q = i
          · subst e; omega
          · exact h1 q (by omega)
    refine ⟨?_, in_⟩
    by_cases c : i = a + 1
    · subst c
      rw [delayF_is (show j < F by omega) h1 h2]
      refine Ev.step (f := fun _ => some ((j : Int), 0)) (fun k => ?_) (Ev.now _)
      rw [pump_Delay.l0, if_neg (by omega)]
    · refine Ev.step (fun k => ?_) (in_ (by omega))
      rw [pump_Delay.l0, if_pos (by omega), if_pos (by omega), if_pos (by rw [tabL_len]; omega), tabL_rd _ (by omega)]
end
def lateN : Nat := 201
theorem lateN_eq : lateN = 201 := rfl
def dly (ps rs : List (List S71)) (a : Int) : Int × Int := if pln ps rs a = 0 then dlyR (delayF (demFs ps) (rowFs rs) (a.toNat + 1) lateN 0) else (0, pln ps rs a)
theorem Plant_row_f200 {ps rs : List (List S71)} (h : Plant ps rs) {n : Nat} (hn : n ≤ 200) : pump_Plant_row.f ps rs (wrap64 ((n : Int) + 200)) = some (tabL (rowFs rs) (n + 200)) := by
  have ew : wrap64 ((n : Int) + 200) = ((n + 200 : Nat) : Int) := by unfold wrap64; omega
  rw [ew]
  exact Plant_row_f h (by omega)
theorem dly_pos {ps rs : List (List S71)} {a : Int} (c : pln ps rs a = 0) : dly ps rs a = dlyR (delayF (demFs ps) (rowFs rs) (a.toNat + 1) lateN 0) := if_pos c
theorem dly_neg {ps rs : List (List S71)} {a : Int} (c : ¬ pln ps rs a = 0) : dly ps rs a = (0, pln ps rs a) := if_neg c
theorem Delay_pos {ps rs : List (List S71)} (h : Plant ps rs) {n : Nat} (hn : n ≤ 200) (r : Int × Int) (hr : dlyR (delayF (demFs ps) (rowFs rs) (n + 1) lateN 0) = r) : Ev (fun k => pump_Delay.f k ps rs n) r := by
  have c : pln ps rs n = 0 := pln_zero.2 ⟨h, by omega, by omega⟩
  refine Ev.congr (f := fun k => (pump_Plant_demands.f k ps rs n).bind fun t => pump_Delay.l0 k (tabL (rowFs rs) (n + 200)) 0 t (t.length : Int) 0) (fun k => ?_) ?_
  · unfold pump_Delay.f
    rw [planned_f, Option.bind_some, if_pos c, Plant_row_f200 h hn, Option.bind_some]
  · refine Ev.bind (Plant_demands_f h (by omega)) ?_
    rw [← hr]
    simp only [tabL_len]
    exact (delay_l hn (rowFs_line h.r) lateN_eq (n + 300) 0 0 (by omega) (by omega) (by omega) (fun q hq => by omega) (fun q hq => by omega)).1
theorem Delay_f (ps rs : List (List S71)) (a : Int) : Ev (fun k => pump_Delay.f k ps rs a) (dly ps rs a) := by
  by_cases c : pln ps rs a = 0
  · obtain ⟨h, h0, h1⟩ := pln_zero.1 c
    obtain ⟨n, rfl⟩ := Int.eq_ofNat_of_zero_le h0
    exact Delay_pos h (by omega) _ (dly_pos c).symm
  · rw [dly_neg c]
    refine Ev.congr (f := fun _ => some (0, pln ps rs a)) (fun k => ?_) (Ev.now _)
    unfold pump_Delay.f
    rw [planned_f, Option.bind_some, if_neg c]
end Go.Proofs.Ythoeindopljmkaa.P
end
section
namespace Go.Proofs.Ythoeindopljmkaa.P
open Go.RowKit Go.Proofs.YthoeindopljmkaaW.PrintWords Go.Proofs.YthoeindopljmkaaW.PrintLast Go.Proofs.YthoeindopljmkaaW.PrintMore
open Pm
def U8s (l : List S86) : Prop := ∀ x ∈ l, (0 ≤ x.f0 ∧ x.f0 < 256) ∧ 0 ≤ x.f1 ∧ x.f1 < 256
structure Few (L : List S71) : Prop where
  ne : 1 ≤ L.length
  le : L.length ≤ 3
  small : ∀ b ∈ L, (1 ≤ b.f0 ∧ b.f0 ≤ 4) ∧ 0 ≤ b.f1 ∧ b.f1 ≤ 5
theorem few_cb {L : List S71} (h : Few L) : cb L = 0 := cb_zero.2 ⟨by have := h.ne; omega, by have := h.le; omega, fun b hb => good_iff.2 (by have := h.small b hb; omega)⟩
theorem few_one {x : S86} (h : (0 ≤ x.f0 ∧ x.f0 < 256) ∧ 0 ≤ x.f1 ∧ x.f1 < 256) : (1 ≤ wrap64 (1 + (Int.tmod (wrap64 x.f0) 4)) ∧ wrap64 (1 + (Int.tmod (wrap64 x.f0) 4)) ≤ 4) ∧ 0 ≤ Int.tmod (wrap64 x.f1) 6 ∧ Int.tmod (wrap64 x.f1) 6 ≤ 5 := by
  have e0 : wrap64 x.f0 = x.f0 := by unfold wrap64; omega
  have e1 : wrap64 x.f1 = x.f1 := by unfold wrap64; omega
  have a0 := Int.tmod_nonneg 4 h.1.1
  have a1 := Int.tmod_lt_of_pos x.f0 (show (0 : Int) < 4 by omega)
  have b0 := Int.tmod_nonneg 6 h.2.1
  have b1 := Int.tmod_lt_of_pos x.f1 (show (0 : Int) < 6 by omega)
  rw [e0, e1]
  have e2 : wrap64 (1 + Int.tmod x.f0 4) = 1 + Int.tmod x.f0 4 := by unfold wrap64; omega
  rw [e2]
  omega
theorem rd86_mem {l : List S86} {i : Nat} (h : i < l.length) : rd_T86 l i ∈ l := by
  unfold rd_T86
  rw [List.getD_eq_getElem?_getD, Int.toNat_natCast, List.getElem?_eq_getElem h]
  exact List.getElem_mem h
theorem made_l0 {l : List S86} (hu : U8s l) : ∀ (k i : Nat) (x3 : List S71), (i ≤ 3) → 2 * (3 - i) + 2 ≤ k → Few x3 → x3.length ≤ max 1 i → ∃ L, pianolalaw04_Set_made.l0 k l x3 i = some L ∧ Few L
  | 0, i, x3, hi, hk, _, _ => by omega
  | 1, i, x3, hi, hk, _, _ => by omega
  | k + 2, i, x3, hi, hk, hf, hx => by
    unfold pianolalaw04_Set_made.l0 pianolalaw04_Set_made.j1
    by_cases c : i < l.length
    · rw [if_pos (by omega)]
      by_cases c3 : i < 3
      · have h1 := few_one (hu _ (rd86_mem c))
        have hn := hf.ne
        rw [if_pos (decide_eq_true (by omega)), if_pos (by omega), if_pos (by omega), show wrap64 ((i : Int) + 1) = ((i + 1 : Nat) : Int) by unfold wrap64; omega]
        by_cases c0 : i = 0
        · rw [if_pos (by omega), if_pos (by omega)]
          refine made_l0 hu k (i + 1) _ (by omega) (by omega) ⟨by simpa using hf.ne, by simpa using hf.le, fun b hb => ?_⟩ (by simp; omega)
          rcases List.mem_or_eq_of_mem_set hb with h | h
          · exact hf.small b h
          · rw [h]; exact h1
        · rw [if_neg (by omega), if_pos (by omega)]
          refine made_l0 hu k (i + 1) _ (by omega) (by omega) ⟨by simp, by simp; omega, fun b hb => ?_⟩ (by simp; omega)
          rcases List.mem_append.1 hb with h | h
          · exact hf.small b h
          · rw [List.mem_singleton.1 h]; exact h1
      · rw [if_neg (by simp; omega)]
        exact ⟨x3, rfl, hf⟩
    · rw [if_neg (by omega), if_neg (by simp)]
      exact ⟨x3, rfl, hf⟩
theorem made_f {l : List S86} (hu : U8s l) {k : Nat} (hk : 8 ≤ k) : ∃ L, pianolalaw04_Set_made.f k l = some L ∧ Few L :=
  made_l0 hu k 0 _ (by omega) (by omega) ⟨Nat.le_refl _, by decide, fun b hb => by rw [List.mem_singleton.1 hb]; decide⟩ (by decide)
theorem made_all {l : List S86} (hu : U8s l) : ∃ L, (∀ k, 8 ≤ k → pianolalaw04_Set_made.f k l = some L) ∧ Few L := by
  obtain ⟨L, h, hf⟩ := made_f hu (Nat.le_refl 8)
  refine ⟨L, fun k hk => ?_, hf⟩
  obtain ⟨j, rfl⟩ : ∃ j, k = 8 + j := ⟨k - 8, by omega⟩
  induction j with
  | zero => exact h
  | succ j ih => exact pianolalaw04_Set_made.mono l (8 + j) L (ih (by omega))
theorem u8_wf {x : Int} (h : (Lit.int .u8 x).wf = true) : 0 ≤ x ∧ x < 256 := by
  have h1 : (decide (IntKind.u8.min ≤ x) && decide (x ≤ IntKind.u8.max)) = true := h
  rw [Bool.and_eq_true, decide_eq_true_eq, decide_eq_true_eq] at h1
  have e1 : IntKind.u8.min = 0 := by decide
  have e2 : IntKind.u8.max = 255 := by decide
  omega
end Go.Proofs.Ythoeindopljmkaa.P
end
section
namespace Pm
theorem drop_at (d s : Nat → Int) {n m : Nat} (h : m ≤ n) : d m - s m ≤ (dropF d s (n + 1)).1 := (dropF_spec d s (n + 1)).2.1 m (by omega)
theorem drop_nonneg (d s : Nat → Int) (n : Nat) : 0 ≤ (dropF d s n).1 := (dropF_spec d s n).1
theorem drop_le {d s : Nat → Int} {n : Nat} {X : Int} (h0 : 0 ≤ X) (h : ∀ m, m < n → d m - s m ≤ X) : (dropF d s n).1 ≤ X := by
  obtain ⟨_, _, h3⟩ := dropF_spec d s n
  rcases h3 with h3 | ⟨m, hm, _, h4, _⟩
  · rw [h3]; exact h0
  · rw [h4]; exact h m hm
theorem drop_two {d f g : Nat → Int} (hsub : ∀ m n, d (m + n) ≤ d m + d n) (hf : Line f) (hg : Line g) (n : Nat) :
    max (dropF d f (n + 1)).1 (dropF d g (n + 1)).1 ≤ (dropF d (conv f g) (n + 1)).1 ∧ (dropF d (conv f g) (n + 1)).1 ≤ (dropF d f (n + 1)).1 + (dropF d g (n + 1)).1 := by
  have h0 := drop_nonneg d (conv f g) (n + 1)
  have a0 := drop_nonneg d f (n + 1)
  have b0 := drop_nonneg d g (n + 1)
  refine ⟨?_, drop_le (by omega) fun m hm => ?_⟩
  · have h1 : (dropF d f (n + 1)).1 ≤ (dropF d (conv f g) (n + 1)).1 := drop_le h0 fun m hm => by
      have := drop_at d (conv f g) (n := n) (m := m) (by omega)
      have := conv_le_left (f := f) hg m
      omega
    have h2 : (dropF d g (n + 1)).1 ≤ (dropF d (conv f g) (n + 1)).1 := drop_le h0 fun m hm => by
      have := drop_at d (conv f g) (n := n) (m := m) (by omega)
      have := conv_le_right (g := g) hf m
      omega
    omega
  · obtain ⟨k, hk, e⟩ := conv_at f g m
    have h1 := hsub (m - k) k
    rw [show m - k + k = m by omega] at h1
    have h2 := drop_at d f (n := n) (m := m - k) (by omega)
    have h3 := drop_at d g (n := n) (m := k) (by omega)
    omega
end Pm
end
section
namespace Go.Proofs.Ythoeindopljmkaa.P
open Go.RowKit Go.Proofs.YthoeindopljmkaaW.PrintWords Go.Proofs.YthoeindopljmkaaW.PrintLast Go.Proofs.YthoeindopljmkaaW.PrintMore
open Pm
theorem u8s_of {l : List S86} (h : U8f l) : U8s l := fun x hx => ⟨u8_wf (h x hx).1, u8_wf (h x hx).2⟩
def pick1 (b : Bool) (x y : List S71) : List (List S71) := if b = true then [x, y] else [x]
theorem engine_f {a b c d : List S86} (ha : U8s a) (hb : U8s b) (hc : U8s c) (hd : U8s d) : ∃ A B C D, Few A ∧ Few B ∧ Few C ∧ Few D ∧ ∀ t u : Bool, Ev (fun k => pianolalaw04_Engine_made.f k a b c d t u) (pick1 t A B, pick1 u C D) := by
  obtain ⟨A, hA, fA⟩ := made_all ha
  obtain ⟨B, hB, fB⟩ := made_all hb
  obtain ⟨C, hC, fC⟩ := made_all hc
  obtain ⟨D, hD, fD⟩ := made_all hd
  refine ⟨A, B, C, D, fA, fB, fC, fD, fun t u => ⟨8, fun k hk => ?_⟩⟩
  show pianolalaw04_Engine_made.f k a b c d t u = _
  unfold pianolalaw04_Engine_made.f pick1
  rw [hA k hk, hB k hk, hC k hk, hD k hk]
  cases t <;> cases u <;> rfl
theorem pick_len (b : Bool) (x y : List S71) : 0 < (pick1 b x y).length ∧ (pick1 b x y).length ≤ 2 := by cases b <;> simp [pick1]
theorem pick_mem {b : Bool} {x y l : List S71} (h : l ∈ pick1 b x y) : l = x ∨ l = y := by
  cases b <;> simp [pick1] at h <;> simp [h]
theorem pick_plant {t u : Bool} {A B C D : List S71} (fA : Few A) (fB : Few B) (fC : Few C) (fD : Few D) : Plant (pick1 t A B) (pick1 u C D) := by
  have h1 := pick_len t A B
  have h2 := pick_len u C D
  refine ⟨h1.1, by omega, h2.1, by omega, fun x hx => ?_, fun x hx => ?_⟩
  · rcases pick_mem hx with rfl | rfl
    · exact few_cb fA
    · exact few_cb fB
  · rcases pick_mem hx with rfl | rfl
    · exact few_cb fC
    · exact few_cb fD
theorem demFs_sub {ps : List (List S71)} (h : ∀ x ∈ ps, cb x = 0) (m n : Nat) : demFs ps (m + n) ≤ demFs ps m + demFs ps n := by
  induction ps with
  | nil => simp [demFs]
  | cons r l ih =>
    have i1 := ih fun x hx => h x (List.mem_cons_of_mem _ hx)
    have i2 := mst_sub (bds_of (h r List.mem_cons_self)).1 m n
    have e : ∀ n, demFs (r :: l) n = mst (bs r) n + demFs l n := fun n => by simp [demFs]
    rw [e, e, e]
    omega
theorem rowFs_two (C D : List S71) : rowFs [C, D] = conv (lst (bs C)) (lst (bs D)) := rfl
theorem rowFs_one (C : List S71) : rowFs [C] = lst (bs C) := rfl
theorem rowFs_comm (C D : List S71) : rowFs [C, D] = rowFs [D, C] := by
  funext n
  rw [rowFs_two, rowFs_two, conv_comm]
theorem rem_in (a c : Int) (h0 : 0 ≤ a) (h1 : a < 256) (hc : 0 < c) : ∃ n : Nat, Int.tmod (wrap64 a) c = (n : Int) ∧ (n : Int) < c := by
  rw [show wrap64 a = a by unfold wrap64; omega]
  have := Int.tmod_nonneg c h0
  have := Int.tmod_lt_of_pos a hc
  exact ⟨(Int.tmod a c).toNat, by omega, by omega⟩
end Go.Proofs.Ythoeindopljmkaa.P
end
section
namespace Go.Proofs.Ythoeindopljmkaa.P
open Go.RowKit Go.Proofs.YthoeindopljmkaaW.PrintWords Go.Proofs.YthoeindopljmkaaW.PrintLast Go.Proofs.YthoeindopljmkaaW.PrintMore
set_option linter.unusedSimpArgs false
open Pm
theorem order_ev {a b c d : List S86} (ha : U8s a) (hb : U8s b) (hc : U8s c) (hd : U8s d) (t u : Bool) (x : Int) (hx : 0 ≤ x ∧ x < 256) : Ev (fun k => pianolalaw04_PumpOrder.f k a b c d t u x) true := by
 obtain ⟨A, B, C, D, fA, fB, fC, fD, he⟩ := engine_f ha hb hc hd
 obtain ⟨n, hn, hn40⟩ := rem_in x 40 hx.1 hx.2 (by omega)
 unfold pianolalaw04_PumpOrder.f
 refine Ev.bind (he t true) ?_
 rw [hn]
 have hP := pick_plant (t := t) (u := true) fA fB fC fD
 have e2 : pick1 true C D = [C, D] := rfl
 rw [e2] at hP ⊢
 have hQ : Plant (pick1 t A B) [D, C] := ⟨hP.p0, hP.p3, by simp, by simp, hP.p, fun y hy => hP.r y (by simp at hy ⊢; exact hy.symm)⟩
 have hC1 : Plant (pick1 t A B) [C] := ⟨hP.p0, hP.p3, by simp, by simp, hP.p, fun y hy => hP.r y (by simp at hy ⊢; exact .inl hy)⟩
 have hD1 : Plant (pick1 t A B) [D] := ⟨hP.p0, hP.p3, by simp, by simp, hP.p, fun y hy => hP.r y (by simp at hy ⊢; exact .inr hy)⟩
 have g0 : rd_L4 [C, D] 1 = D := rfl
 have g1 : rd_L4 [C, D] 0 = C := rfl
 have z : ∀ rs, Plant (pick1 t A B) rs → pln (pick1 t A B) rs n = 0 := fun rs h => pln_zero.2 ⟨h, by omega, by omega⟩
 simp only [g0, g1, List.length_cons, List.length_nil]
 have l1 : (1 : Int) < ((0 + 1 + 1 : Nat) : Int) := by omega
 have l0 : (0 : Int) < ((0 + 1 + 1 : Nat) : Int) := by omega
 simp only [if_pos l1, if_pos l0, Row_f, z _ hP, z _ hQ, Option.bind_some, if_true]
 have d1 := Drop_f (pick1 t A B) [C, D] n
 have d2 := Drop_f (pick1 t A B) [D, C] n
 rw [if_pos (z _ hP)] at d1
 rw [if_pos (z _ hQ)] at d2
 refine Ev.bind d1 ?_
 refine Ev.bind d2 ?_
 rw [rowFs_comm D C]
 simp only [if_true, bne_self_eq_false]
 refine Ev.step (fun k => by rw [pianolalaw04_PumpOrder.j0, if_neg (by simp)]) ?_
 refine Ev.bind (Delay_f _ _ _) ?_
 refine Ev.bind (Delay_f _ _ _) ?_
 have ed : dly (pick1 t A B) [D, C] n = dly (pick1 t A B) [C, D] n := by rw [dly_pos (z _ hP), dly_pos (z _ hQ), rowFs_comm D C]
 rw [ed]
 have l2 : (1 : Int) ≤ ((0 + 1 + 1 : Nat) : Int) := by omega
 simp only [List.length_cons, List.length_nil, if_pos l2, List.take_succ_cons, List.take_zero, List.drop_succ_cons, List.drop_zero]
 have d3 := Drop_f (pick1 t A B) [C] n
 have d4 := Drop_f (pick1 t A B) [D] n
 rw [if_pos (z _ hC1)] at d3
 rw [if_pos (z _ hD1)] at d4
 refine Ev.bind d3 ?_
 refine Ev.bind d4 ?_
 simp only [if_true]
 have q1 := lst_line (bds_of (hP.r C (by simp))).1
 have q2 := lst_line (bds_of (hP.r D (by simp))).1
 obtain ⟨m1, m2⟩ := drop_two (demFs_sub hP.p) q1 q2 n
 rw [rowFs_two, rowFs_one, rowFs_one, Int.toNat_natCast]
 have b1 : (dropF (demFs (pick1 t A B)) (lst (bs C)) (n + 1)).1 ≤ 1000000000000 := drop_le (by omega) fun m hm => by
  have := pl_bd hC1 m (by omega)
  rw [rowFs_one] at this
  omega
 have b2 : (dropF (demFs (pick1 t A B)) (lst (bs D)) (n + 1)).1 ≤ 1000000000000 := drop_le (by omega) fun m hm => by
  have := pl_bd hD1 m (by omega)
  rw [rowFs_one] at this
  omega
 have c1 := drop_nonneg (demFs (pick1 t A B)) (lst (bs C)) (n + 1)
 have c2 := drop_nonneg (demFs (pick1 t A B)) (lst (bs D)) (n + 1)
 rw [mx_max, show wrap64 ((dropF (demFs (pick1 t A B)) (lst (bs C)) (n + 1)).1 + (dropF (demFs (pick1 t A B)) (lst (bs D)) (n + 1)).1) = (dropF (demFs (pick1 t A B)) (lst (bs C)) (n + 1)).1 + (dropF (demFs (pick1 t A B)) (lst (bs D)) (n + 1)).1 by unfold wrap64; omega]
 simp only [if_pos (show (dropF (demFs (pick1 t A B)) (conv (lst (bs C)) (lst (bs D))) (n + 1)).1 ≥ max (dropF (demFs (pick1 t A B)) (lst (bs C)) (n + 1)).1 (dropF (demFs (pick1 t A B)) (lst (bs D)) (n + 1)).1 from m1), if_pos m2]
 exact Ev.now _
end Go.Proofs.Ythoeindopljmkaa.P
namespace Go.Proofs.Ythoeindopljmkaa.Pure
open P Go.Proofs.YthoeindopljmkaaW.PrintWords
theorem PumpOrder (a b c d : List S86) (t u : Bool) (x : Int) (ha : U8f a) (hb : U8f b) (hc : U8f c) (hd : U8f d) (hx : (Lit.int .u8 x).wf = true) : ∃ k, pianolalaw04_PumpOrder.f k a b c d t u x = some true :=
  (order_ev (u8s_of ha) (u8s_of hb) (u8s_of hc) (u8s_of hd) t u x (u8_wf hx)).rounds
end Go.Proofs.Ythoeindopljmkaa.Pure
end
