/- Words and contracts for a claim. -/
import Derived.Test.YthoeindopljmkaaPumpLacks7

section
open List (setIfInBounds_toArray set_cons_zero set_cons_succ)
section
namespace Go.Proofs.Ythoeindopljmkaa.P
open Go.RowKit Go.Proofs.YthoeindopljmkaaW.PrintWords Go.Proofs.YthoeindopljmkaaW.PrintLast Go.Proofs.YthoeindopljmkaaW.PrintMore
attribute [local go_sem] max2_int min2_int max_two min_two max_three min_three max_four min_four
set_option linter.unusedVariables false
set_option linter.unusedSimpArgs false
mutual
def pianolaref04_Lacks.l0 : Nat → Int → Int → List (List (S90)) → List (List (S90)) → List (List Int) → List (List Int) → Option (List Int × List Int × Int)
  | 0, _, _, _, _, _, _ => none
  | k + 1, x8, x9, x366000, x366001, x367000, x367001 => if x9 < (x366000.length : Int) then (if 0 ≤ x9 then (if x9 < (x367000.length : Int) then ((pianolaref04_keeps.f k (rd_L5 x366000 x9) (rd_L6 x367000 x9)).bind fun t372 => (if t372 = true then (pianolaref04_Lacks.l0 k x8 (wrap64 (x9 + 1)) x366000 x366001 x367000 x367001) else (some (([] : List Int), ([] : List Int), 21)))) else (none)) else (none)) else (pianolaref04_Lacks.l1 k x8 0 x366000 x366001 x367000 x367001)
def pianolaref04_Lacks.l1 : Nat → Int → Int → List (List (S90)) → List (List (S90)) → List (List Int) → List (List Int) → Option (List Int × List Int × Int)
  | 0, _, _, _, _, _, _ => none
  | k + 1, x8, x10, x366000, x366001, x367000, x367001 => if x10 < (x366001.length : Int) then (if 0 ≤ x10 then (if x10 < (x367001.length : Int) then ((pianolaref04_has.f k (rd_L5 x366001 x10) (rd_L6 x367001 x10)).bind fun t375 => (if t375 = true then (pianolaref04_Lacks.l1 k x8 (wrap64 (x10 + 1)) x366000 x366001 x367000 x367001) else (some (([] : List Int), ([] : List Int), 21)))) else (none)) else (none)) else (if 0 ≤ (x366001.length : Int) then (if ((x366001.length : Int) : Int).toNat ≤ 35184372088832 then (pianolaref04_Lacks.l2 k x8 (List.replicate ((x366001.length : Int) : Int).toNat 0) ([] : List Int) ([] : List Int) ([] : List Int) 0 0 0 x367000 x367001) else (none)) else (none))
def pianolaref04_Lacks.l2 : Nat → Int → List Int → List Int → List Int → List Int → Int → Int → Int → List (List Int) → List (List Int) → Option (List Int × List Int × Int)
  | 0, _, _, _, _, _, _, _, _, _, _ => none
  | k + 1, x8, x11, x12, x13, x14, x15, x16, x17, x367000, x367001 => if x17 < x8 then (pianolaref04_Lacks.l3 k x8 x11 x12 x13 x14 x15 x16 x17 0 x367000 x367001) else (pianolaref04_Lacks.l5 k x8 x12 x13 x14 ([] : List Int) 0)
def pianolaref04_Lacks.l3 : Nat → Int → List Int → List Int → List Int → List Int → Int → Int → Int → Int → List (List Int) → List (List Int) → Option (List Int × List Int × Int)
  | 0, _, _, _, _, _, _, _, _, _, _, _ => none
  | k + 1, x8, x11, x12, x13, x14, x15, x16, x17, x18, x367000, x367001 => if x18 < (x367000.length : Int) then (if 0 < (x11.length : Int) then (if 0 ≤ x18 then (if 0 ≤ x17 then (if x17 < ((rd_L6 x367000 x18).length : Int) then (pianolaref04_Lacks.l3 k x8 (x11.set (0 : Int).toNat (wrap64 ((rd x11 0) + (rd (rd_L6 x367000 x18) x17)))) x12 x13 x14 (wrap64 (x15 + (rd (rd_L6 x367000 x18) x17))) x16 x17 (wrap64 (x18 + 1)) x367000 x367001) else (none)) else (none)) else (none)) else (none)) else (pianolaref04_Lacks.l4 k x8 x11 x12 x13 x14 x15 x16 x17 0 0 x367000 x367001)
def pianolaref04_Lacks.l4 : Nat → Int → List Int → List Int → List Int → List Int → Int → Int → Int → Int → Int → List (List Int) → List (List Int) → Option (List Int × List Int × Int)
  | 0, _, _, _, _, _, _, _, _, _, _, _, _ => none
  | k + 1, x8, x11, x12, x13, x14, x15, x16, x17, x19, x20, x367000, x367001 => if x20 < (x11.length : Int) then (if 0 ≤ x20 then (if x20 < (x367001.length : Int) then (if 0 ≤ x17 then (if x17 < ((rd_L6 x367001 x20).length : Int) then ((some (x11.set (x20 : Int).toNat (wrap64 ((rd x11 x20) - (mn (rd x11 x20) (rd (rd_L6 x367001 x20) x17)))) : List Int)).bind fun y389 => (if (wrap64 (x20 + 1)) < (x11.length : Int) then (if 0 ≤ (wrap64 (x20 + 1)) then ((some (y389.set ((wrap64 (x20 + 1)) : Int).toNat (wrap64 ((rd y389 (wrap64 (x20 + 1))) + (mn (rd x11 x20) (rd (rd_L6 x367001 x20) x17)))) : List Int)).bind fun y391 => (pianolaref04_Lacks.l4 k x8 y391 x12 x13 x14 x15 x16 x17 (wrap64 (x19 + (rd y391 x20))) (wrap64 (x20 + 1)) x367000 x367001)) else (none)) else (pianolaref04_Lacks.l4 k x8 y389 x12 x13 x14 x15 (wrap64 (x16 + (mn (rd x11 x20) (rd (rd_L6 x367001 x20) x17)))) x17 (wrap64 (x19 + (rd y389 x20))) (wrap64 (x20 + 1)) x367000 x367001))) else (none)) else (none)) else (none)) else (none)) else (if x12.length < 17592186044416 then (if x13.length < 17592186044416 then (if x14.length < 17592186044416 then (pianolaref04_Lacks.l2 k x8 x11 (x12 ++ [x19]) (x13 ++ [x15]) (x14 ++ [x16]) x15 x16 (wrap64 (x17 + 1)) x367000 x367001) else (none)) else (none)) else (none))
def pianolaref04_Lacks.l5 : Nat → Int → List Int → List Int → List Int → List Int → Int → Option (List Int × List Int × Int)
  | 0, _, _, _, _, _, _ => none
  | k + 1, x8, x12, x13, x14, x22, x23 => if x23 < x8 then (pianolaref04_Lacks.l6 k x8 x12 x13 x14 x22 x23 0) else (some (x12, x22, 0))
def pianolaref04_Lacks.l6 : Nat → Int → List Int → List Int → List Int → List Int → Int → Int → Option (List Int × List Int × Int)
  | 0, _, _, _, _, _, _, _ => none
  | k + 1, x8, x12, x13, x14, x22, x23, x24 => if (wrap64 (x23 + x24)) < x8 then (if 0 ≤ (wrap64 (x23 + x24)) then (if (wrap64 (x23 + x24)) < (x14.length : Int) then (if 0 ≤ x23 then (if x23 < (x13.length : Int) then (if (rd x14 (wrap64 (x23 + x24))) < (rd x13 x23) then (pianolaref04_Lacks.l6 k x8 x12 x13 x14 x22 x23 (wrap64 (x24 + 1))) else (if (wrap64 (x23 + x24)) = x8 then (if x22.length < 17592186044416 then (pianolaref04_Lacks.l5 k x8 x12 x13 x14 (x22 ++ [(-1)]) (wrap64 (x23 + 1))) else (none)) else (if x22.length < 17592186044416 then (pianolaref04_Lacks.l5 k x8 x12 x13 x14 (x22 ++ [x24]) (wrap64 (x23 + 1))) else (none)))) else (none)) else (none)) else (none)) else (none)) else (if (wrap64 (x23 + x24)) = x8 then (if x22.length < 17592186044416 then (pianolaref04_Lacks.l5 k x8 x12 x13 x14 (x22 ++ [(-1)]) (wrap64 (x23 + 1))) else (none)) else (if x22.length < 17592186044416 then (pianolaref04_Lacks.l5 k x8 x12 x13 x14 (x22 ++ [x24]) (wrap64 (x23 + 1))) else (none)))
end
def pianolaref04_Lacks.f (k : Nat) (l0_0 : List (List (S90))) (l0_1 : List (List (S90))) (l1_0 : List (List Int)) (l1_1 : List (List Int)) : Option (List Int × List Int × Int) := (pianolaref04_Check.f k l0_0 l0_1).bind fun t367 => (if t367 = 0 then ((pianolaref04_shape.f k l0_0 l0_1 l1_0 l1_1).bind fun bt368 => (if bt368.2 = 0 then (pianolaref04_Lacks.l0 k bt368.1 0 l0_0 l0_1 l1_0 l1_1) else (some (([] : List Int), ([] : List Int), bt368.2)))) else (some (([] : List Int), ([] : List Int), t367)))
def pianolaref04_Lacks.T10 : Bool × List (List Nat × List Nat) := (true, [([], []), ([0], [0]), ([], []), ([1, 2], [1, 2]), ([3], [3]), ([], []), ([5], [5]), ([], []), ([6, 7], [6, 7]), ([8], [8]), ([4, 9], [4, 9]), ([10], [10])])
def pianolaref04_Lacks.B10 : List Nat := [0, 1, 0, 7, 15, 0, 32, 0, 224, 480, 1023, 2047]
theorem pianolaref04_Lacks.tab10 : rtab .any (opsOf Try.f37 10) = pianolaref04_Lacks.T10 := by kernel_rfl
theorem pianolaref04_Lacks.bits10 : waitsOk pianolaref04_Lacks.T10.2 pianolaref04_Lacks.B10 = true := by kernel_rfl
def pianolaref04_Lacks.T15 : Bool × List (List Nat × List Nat) := (true, [([], []), ([0], [0]), ([], []), ([1, 2], [1, 2]), ([3], [3]), ([], []), ([5], [5]), ([], []), ([6, 7], [6, 7]), ([8], [8]), ([4, 9], [4, 9]), ([10], [10])])
def pianolaref04_Lacks.B15 : List Nat := [0, 1, 0, 7, 15, 0, 32, 0, 224, 480, 1023, 2047]
theorem pianolaref04_Lacks.tab15 : rtab .any (opsOf Try.f37 15) = pianolaref04_Lacks.T15 := by kernel_rfl
theorem pianolaref04_Lacks.bits15 : waitsOk pianolaref04_Lacks.T15.2 pianolaref04_Lacks.B15 = true := by kernel_rfl
def pianolaref04_Lacks.T26 : Bool × List (List Nat × List Nat) := (true, [([], []), ([0], [0]), ([1], [1]), ([], []), ([3], [3]), ([], []), ([4, 5], [4, 5]), ([6], [6]), ([], []), ([7, 8], [7, 8]), ([9], [9]), ([2, 10], [2, 10]), ([0, 0, 1, 2, 3, 4, 5, 6, 7, 8, 9, 10, 11], [0]), ([12, 11, 0, 1, 2, 3, 4, 5, 6, 7, 8, 9, 10, 11], [11, 12])])
def pianolaref04_Lacks.B26 : List Nat := [0, 1, 3, 0, 8, 0, 56, 120, 0, 504, 1016, 2047, 4095, 8191]
theorem pianolaref04_Lacks.tab26 : rtab .any (opsOf Try.f37 26) = pianolaref04_Lacks.T26 := by kernel_rfl
theorem pianolaref04_Lacks.bits26 : waitsOk pianolaref04_Lacks.T26.2 pianolaref04_Lacks.B26 = true := by kernel_rfl
def pianolaref04_Lacks.T32 : Bool × List (List Nat × List Nat) := (true, [([], []), ([], []), ([0, 1], [0, 1]), ([2], [2]), ([], []), ([4], [4]), ([], []), ([5, 6], [5, 6]), ([7], [7]), ([], []), ([8, 9], [8, 9]), ([10], [10]), ([3, 11], [3, 11]), ([12, 0, 1, 2, 3, 4, 5, 6, 7, 8, 9, 10, 11, 12], [12])])
def pianolaref04_Lacks.B32 : List Nat := [0, 0, 3, 7, 0, 16, 0, 112, 240, 0, 1008, 2032, 4095, 8191]
theorem pianolaref04_Lacks.tab32 : rtab .any (opsOf Try.f37 32) = pianolaref04_Lacks.T32 := by kernel_rfl
theorem pianolaref04_Lacks.bits32 : waitsOk pianolaref04_Lacks.T32.2 pianolaref04_Lacks.B32 = true := by kernel_rfl
def pianolaref04_Lacks.T44 : Bool × List (List Nat × List Nat) := (true, [([], []), ([], []), ([0, 1], [0, 1]), ([], []), ([2, 3], [2, 3]), ([4], [4]), ([5], [5]), ([5], [5]), ([5], [5]), ([7, 8, 5], [5, 7, 8]), ([6, 9, 5], [5, 6, 9]), ([10, 5], [5, 10]), ([5], [5]), ([5], [5]), ([12, 13, 5], [5, 12, 13]), ([14, 5], [5, 14]), ([11, 15, 5], [5, 11, 15]), ([5, 16], [5, 16])])
def pianolaref04_Lacks.B44 : List Nat := [0, 0, 3, 0, 15, 31, 63, 63, 63, 447, 1023, 2047, 63, 63, 12351, 28735, 65535, 131071]
theorem pianolaref04_Lacks.tab44 : rtab .any (opsOf Try.f37 44) = pianolaref04_Lacks.T44 := by kernel_rfl
theorem pianolaref04_Lacks.bits44 : waitsOk pianolaref04_Lacks.T44.2 pianolaref04_Lacks.B44 = true := by kernel_rfl
set_option maxHeartbeats 8000000 in
set_option maxRecDepth 100000 in
theorem pianolaref04_Lacks.calls (k : Nat) (A0_0 : Option Addr) (c0_0 : Nat) (l0_0 : List (List (S90))) (A0_1 : Option Addr) (c0_1 : Nat) (l0_1 : List (List (S90))) (A1_0 : Option Addr) (c1_0 : Nat) (l1_0 : List (List Int)) (A1_1 : Option Addr) (c1_1 : Nat) (l1_1 : List (List Int)) (r1 : List Int) (r2 : List Int) (r3 : Int) (w : World) (hr0_0 : Kd.C (Kd.slice 90 k90) w A0_0 l0_0.length l0_0) (hc0_0 : l0_0.length ≤ c0_0) (hr0_1 : Kd.C (Kd.slice 90 k90) w A0_1 l0_1.length l0_1) (hc0_1 : l0_1.length ≤ c0_1) (hr1_0 : Kd.C (Kd.slice 3 (Kd.int .i64)) w A1_0 l1_0.length l1_0) (hc1_0 : l1_0.length ≤ c1_0) (hr1_1 : Kd.C (Kd.slice 3 (Kd.int .i64)) w A1_1 l1_1.length l1_1) (hc1_1 : l1_1.length ≤ c1_1) (h : pianolaref04_Lacks.f k l0_0 l0_1 l1_0 l1_1 = some (r1, r2, r3)) :
  Calls Try.prog 37 #[.agg #[.slice A0_0 l0_0.length c0_0, .slice A0_1 l0_1.length c0_1], .agg #[.slice A1_0 l1_0.length c1_0, .slice A1_1 l1_1.length c1_1]] w fun e w' => ∃ v0_ v1_ : Value, e = .returned (.tuple #[v0_, v1_, .int .i64 r3]) ∧ Kd.R (Kd.int .i64) 3 w' w.heap.size (fun k_ => some k_ ≠ (v1_ : Value).ownBlock) v0_ r1 ∧ Kd.R (Kd.int .i64) 3 w' w.heap.size (fun k_ => some k_ ≠ (v0_ : Value).ownBlock) v1_ r2 ∧ Below w.heap.size w w' := by
 have hu44 := Try.underlying44
 have hu61 := Try.underlying61
 have HR0_0 := zA hr0_0
 have HC0_0 := zA hc0_0
 clear hr0_0 hc0_0
 have HR0_1 := zA hr0_1
 have HC0_1 := zA hc0_1
 clear hr0_1 hc0_1
 have HR1_0 := zA hr1_0
 have HC1_0 := zA hc1_0
 clear hr1_0 hc1_0
 have HR1_1 := zA hr1_1
 have HC1_1 := zA hc1_1
 clear hr1_1 hc1_1
 have HB := zA (Below.refl w.heap.size w)
 have H : ((pianolaref04_Check.f k l0_0 l0_1).bind fun t367 => (if t367 = 0 then ((pianolaref04_shape.f k l0_0 l0_1 l1_0 l1_1).bind fun bt368 => (if bt368.2 = 0 then (pianolaref04_Lacks.l0 k bt368.1 0 l0_0 l0_1 l1_0 l1_1) else (some (([] : List Int), ([] : List Int), bt368.2)))) else (some (([] : List Int), ([] : List Int), t367)))) = some (r1, r2, r3) := h
 clear h
 replace H := Option.bind_eq_some_iff.mp H
 obtain ⟨t367, A30, H⟩ := H
 replace H : (if t367 = 0 then ((pianolaref04_shape.f k l0_0 l0_1 l1_0 l1_1).bind fun bt368 => (if bt368.2 = 0 then (pianolaref04_Lacks.l0 k bt368.1 0 l0_0 l0_1 l1_0 l1_1) else (some (([] : List Int), ([] : List Int), bt368.2)))) else (some (([] : List Int), ([] : List Int), t367))) = some (r1, r2, r3) := H
 have A3 := zA A30
 clear A30
 by_cases c4 : t367 = 0
 ·
  rw [if_pos c4] at H
  have c4b0 : (t367 == 0) = true := beq_iff_eq.mpr c4
  have c4b1 : (t367 != 0) = false := bne_eq_false_iff_eq.mpr c4
  clear c4
  replace H := Option.bind_eq_some_iff.mp H
  obtain ⟨⟨t368, t369⟩, A50, H⟩ := H
  replace H : (if t369 = 0 then (pianolaref04_Lacks.l0 k t368 0 l0_0 l0_1 l1_0 l1_1) else (some (([] : List Int), ([] : List Int), t369))) = some (r1, r2, r3) := H
  have A5 := zA A50
  clear A50
  by_cases c6 : t369 = 0
  ·
   rw [if_pos c6] at H
   have c6b0 : (t369 == 0) = true := beq_iff_eq.mpr c6
   have c6b1 : (t369 != 0) = false := bne_eq_false_iff_eq.mpr c6
   clear c6
   have H' := zA H
   clear H
   go_enter Try.func37, Try.ntmps37
   go_wp2_with (first | ((with_reducible refine gate_dst (N := 2) rfl ?_); refine box_event ?hg (N := 2) ?hd (cs := #[.slice A0_0 l0_0.length c0_0, .slice A0_1 l0_1.length c0_1]) (t := 44) ?hr ?_; (case hd => rfl); (case hg => rfl); (case hr => first | (go_simp; done) | (go_simp; rfl)); intro gb365 hg w7 hbox hb; have n0_ := zA (below_step (zqA HB.out) hb); have n1_ := zA (hbox); have n2_ := zA ((by rw [hg]; exact (below_size (zqA HB.out)) : w.heap.size ≤ gb365)); have n3_ := zA ((by rw [hg]; exact (below_size (zqA HB.out)) : w.heap.size ≤ gb365)); clear HB; have HB := n0_; have BK365 := n1_; have GW365 := n2_; have GE365 := n3_; clear n0_ n1_ n2_ n3_; clear hb hbox hg) | ((with_reducible refine gate_dst (N := 3) rfl ?_); refine box_event ?hg (N := 3) ?hd (cs := #[.slice A1_0 l1_0.length c1_0, .slice A1_1 l1_1.length c1_1]) (t := 61) ?hr ?_; (case hd => rfl); (case hg => rfl); (case hr => first | (go_simp; done) | (go_simp; rfl)); intro gb366 hg w8 hbox hb; have n0_ := zA (blk_below (g := gb365) (o := .cells #[.slice A0_0 l0_0.length c0_0, .slice A0_1 l0_1.length c0_1] 44 (0, 0)) (zqB BK365.out) hb); have n1_ := zA (below_step (zqG HB.out GE365.out) hb); have n2_ := zA (hbox); have n3_ := zA ((by rw [hg]; exact (below_size (zqG HB.out GE365.out)) : w.heap.size ≤ gb366)); have n4_ := zA ((by rw [hg]; exact (below_size (zqG HB.out GE365.out)) : w.heap.size ≤ gb366)); have n5_ := zA ((by rw [hg]; exact Nat.ne_of_lt (blk_lt (g := gb365) (o := .cells #[.slice A0_0 l0_0.length c0_0, .slice A0_1 l0_1.length c0_1] 44 (0, 0)) (zqB BK365.out)) : gb365 ≠ gb366)); have n6_ := zA ((by rw [hg]; exact Nat.ne_of_gt (blk_lt (g := gb365) (o := .cells #[.slice A0_0 l0_0.length c0_0, .slice A0_1 l0_1.length c0_1] 44 (0, 0)) (zqB BK365.out)) : gb366 ≠ gb365)); clear BK365; clear HB; have BK365 := n0_; have HB := n1_; have BK366 := n2_; have GW366 := n3_; have GE366 := n4_; have NB365_366 := n5_; have NB366_365 := n6_; clear n0_ n1_ n2_ n3_ n4_ n5_ n6_; clear hb hbox hg; have hnb9 := NB365_366.out; have hnc9 := NB366_365.out; have hcz10_0 : w8.cell? ⟨gb365, 0, none⟩ = some (.slice A0_0 l0_0.length c0_0) := (blk_cell BK365.out 0).trans rfl; have hcz10_1 : w8.cell? ⟨gb365, 1, none⟩ = some (.slice A0_1 l0_1.length c0_1) := (blk_cell BK365.out 1).trans rfl; have hfz10_0 := blk_frozen BK365.out 0; have hfz10_1 := blk_frozen BK365.out 1) | ((with_reducible refine gate_callee (f := 35) rfl ?_); refine goesL_ (some 26) rfl rfl Try.func35 (by kernel_rfl) rfl #[.agg #[.slice A0_0 l0_0.length c0_0, .slice A0_1 l0_1.length c0_1]] rfl zqE ?_; (with_reducible refine (pianolaref04_Check.calls k _ _ l0_0 _ _ l0_1 t367 _ ?side1 ?side2 ?side3 ?side4 A3.out).mono ?_); (case side1 => exact zqK (Kd.C_below HR0_0.out HB.out)); (case side2 => exact HC0_0.out); (case side3 => exact zqK (Kd.C_below HR0_1.out HB.out)); (case side4 => exact HC0_1.out); rintro e w11 ⟨rfl, hb⟩; refine ⟨_, rfl, ?_⟩; have n0_ := zA (blk_below (g := gb365) (o := .cells #[.slice A0_0 l0_0.length c0_0, .slice A0_1 l0_1.length c0_1] 44 (0, 0)) (zqB BK365.out) hb); have n1_ := zA (blk_below (g := gb366) (o := .cells #[.slice A1_0 l1_0.length c1_0, .slice A1_1 l1_1.length c1_1] 61 (0, 0)) (zqB BK366.out) hb); have n2_ := zA (below_step (zqH HB.out GE365.out GE366.out) hb); clear BK365; clear BK366; clear HB; have BK365 := n0_; have BK366 := n1_; have HB := n2_; clear n0_ n1_ n2_; (try clear hb); (try clear hb2); (try clear hk); (try clear hi); have hcz12_0 : w11.cell? ⟨gb365, 0, none⟩ = some (.slice A0_0 l0_0.length c0_0) := (blk_cell BK365.out 0).trans rfl; have hcz12_1 : w11.cell? ⟨gb365, 1, none⟩ = some (.slice A0_1 l0_1.length c0_1) := (blk_cell BK365.out 1).trans rfl; have hfz12_0 := blk_frozen BK365.out 0; have hfz12_1 := blk_frozen BK365.out 1; have hcz13_0 : w11.cell? ⟨gb366, 0, none⟩ = some (.slice A1_0 l1_0.length c1_0) := (blk_cell BK366.out 0).trans rfl; have hcz13_1 : w11.cell? ⟨gb366, 1, none⟩ = some (.slice A1_1 l1_1.length c1_1) := (blk_cell BK366.out 1).trans rfl; have hfz13_0 := blk_frozen BK366.out 0; have hfz13_1 := blk_frozen BK366.out 1) | ((with_reducible refine gate_callee (f := 75) rfl ?_); refine goesL_ (some 33) rfl rfl Try.func75 (by kernel_rfl) rfl #[.agg #[.slice A0_0 l0_0.length c0_0, .slice A0_1 l0_1.length c0_1], .agg #[.slice A1_0 l1_0.length c1_0, .slice A1_1 l1_1.length c1_1]] rfl zqE ?_; (with_reducible refine (pianolaref04_shape.calls k _ _ l0_0 _ _ l0_1 (fun k_ => k_ < w.heap.size) _ _ l1_0 (fun k_ => k_ < w.heap.size) _ _ l1_1 t368 t369 _ ?side1 ?side2 ?side3 ?side4 ?side5 ?side6 A5.out).mono ?_); (case side1 => exact zqK (Kd.C_below HR0_0.out HB.out)); (case side2 => exact HC0_0.out); (case side3 => exact zqK (Kd.C_below HR0_1.out HB.out)); (case side4 => exact HC0_1.out); (case side5 => exact Kd.V_mk HC1_0.out (Kd.F_below (Kd.C_F (Kd.heap_slice 3 (Kd.heap_int .i64)) HR1_0.out) (zqH HB.out GE365.out GE366.out))); (case side6 => exact Kd.V_mk HC1_1.out (Kd.F_below (Kd.C_F (Kd.heap_slice 3 (Kd.heap_int .i64)) HR1_1.out) (zqH HB.out GE365.out GE366.out))); rintro e w14 ⟨rfl, hb⟩; refine ⟨_, rfl, ?_⟩; have n0_ := zA (blk_below (g := gb365) (o := .cells #[.slice A0_0 l0_0.length c0_0, .slice A0_1 l0_1.length c0_1] 44 (0, 0)) (zqB BK365.out) hb); have n1_ := zA (blk_below (g := gb366) (o := .cells #[.slice A1_0 l1_0.length c1_0, .slice A1_1 l1_1.length c1_1] 61 (0, 0)) (zqB BK366.out) hb); have n2_ := zA (below_step (zqH HB.out GE365.out GE366.out) hb); clear BK365; clear BK366; clear HB; have BK365 := n0_; have BK366 := n1_; have HB := n2_; clear n0_ n1_ n2_; (try clear hb); (try clear hb2); (try clear hk); (try clear hi)))
   go_loopg [9] k (fun kq v9 w' => ∃ (x9_1 : Int), v9 = .int .i64 x9_1 ∧ Aside0 (pianolaref04_Lacks.l0 kq t368 x9_1 l0_0 l0_1 l1_0 l1_1 = some (r1, r2, r3)) ∧ Aside0 (kq ≤ k) ∧ Aside0 (w'.heap[gb365]? = some (.cells #[(.slice A0_0 l0_0.length c0_0), (.slice A0_1 l0_1.length c0_1)] 44 (0, 0))) ∧ Aside0 (w'.heap[gb366]? = some (.cells #[(.slice A1_0 l1_0.length c1_0), (.slice A1_1 l1_1.length c1_1)] 61 (0, 0))) ∧ Aside0 (Below w.heap.size w w'))
   case atStart => exact ⟨(0), zqQ, H', ⟨Nat.le_refl _⟩, ⟨zqB BK365.out⟩, ⟨zqB BK366.out⟩, ⟨zqH HB.out GE365.out GE366.out⟩⟩
   case round =>
    clear H'
    try clear c1
    try clear p2
    try clear c3
    try clear c4
    try clear c4b0
    try clear c4b1
    try clear c6
    try clear c6b0
    try clear c6b1
    try clear c7
    try clear c9
    try clear hcz10_0
    try clear hcz10_1
    try clear hcz12_0
    try clear hcz12_1
    try clear hcz13_0
    try clear hcz13_1
    try clear hfz10_0
    try clear hfz10_1
    try clear hfz12_0
    try clear hfz12_1
    try clear hfz13_0
    try clear hfz13_1
    obtain ⟨x9_1, rfl, HA, HK1, BK365, BK366, HB⟩ := hrel
    cases gk with
    | zero => exact absurd HA.out (by simp [pianolaref04_Lacks.l0])
    | succ k1 =>
     have H := HA.out
     clear HA
     simp only [pianolaref04_Lacks.l0] at H
     by_cases c15 : x9_1 < (l0_0.length : Int)
     ·
      rw [if_pos c15] at H
      have c15b0 : decide (x9_1 < (l0_0.length : Int)) = true := decide_eq_true c15
      clear c15
      by_cases c16 : 0 ≤ x9_1
      ·
       rw [if_pos c16] at H
       have c16b0 : decide (0 ≤ x9_1) = true := decide_eq_true c16
       clear c16
       by_cases c17 : x9_1 < (l1_0.length : Int)
       ·
        rw [if_pos c17] at H
        have c17b0 : decide (x9_1 < (l1_0.length : Int)) = true := decide_eq_true c17
        clear c17
        replace H := Option.bind_eq_some_iff.mp H
        obtain ⟨t372, A180, H⟩ := H
        replace H : (if t372 = true then (pianolaref04_Lacks.l0 k1 t368 (wrap64 (x9_1 + 1)) l0_0 l0_1 l1_0 l1_1) else (some (([] : List Int), ([] : List Int), 21))) = some (r1, r2, r3) := H
        have A18 := zA A180
        clear A180
        have H' := zA H
        clear H
        have hnb20 := NB365_366.out
        have hnc20 := NB366_365.out
        have hcz21_0 : wr.cell? ⟨gb365, 0, none⟩ = some (.slice A0_0 l0_0.length c0_0) := (blk_cell BK365.out 0).trans rfl
        have hcz21_1 : wr.cell? ⟨gb365, 1, none⟩ = some (.slice A0_1 l0_1.length c0_1) := (blk_cell BK365.out 1).trans rfl
        have hfz21_0 := blk_frozen BK365.out 0
        have hfz21_1 := blk_frozen BK365.out 1
        try go_wp2
        have n0_ := zA (blk_drew BK365.out); have n1_ := zA (blk_drew BK366.out); have n2_ := zA (below_drew1 HB.out); clear BK365 BK366 HB; have BK365 := n0_; have BK366 := n1_; have HB := n2_; clear n0_ n1_ n2_
        have p370 : 0 ≤ (x9_1 : Int) := of_decide_eq_true (zqD)
        have q370 : x9_1 < (l0_0.length : Int) := of_decide_eq_true (zqD)
        obtain ⟨ad370, A370_0, c370_0, e370, hx370_0, hl370_0, hi370_0⟩ := at_L5 HR0_0.out x9_1 p370 q370
        have hw370_0 := hx370_0; cases e370
        replace hx370_0 := (HB.out.cell (World.block_lt_of_cell? w _ hx370_0)).trans hx370_0
        have HR370_0 := zA hi370_0
        have HC370_0 := zA hl370_0
        clear hi370_0 hl370_0; replace p370 := eq_true p370; replace q370 := eq_true q370
        have p371 : 0 ≤ (x9_1 : Int) := of_decide_eq_true (zqD)
        have q371 : x9_1 < (l1_0.length : Int) := of_decide_eq_true (zqD)
        obtain ⟨ad371, A371_0, c371_0, e371, hx371_0, hl371_0, hi371_0⟩ := at_L6 HR1_0.out x9_1 p371 q371
        have hw371_0 := hx371_0; cases e371
        replace hx371_0 := (HB.out.cell (World.block_lt_of_cell? w _ hx371_0)).trans hx371_0
        have HR371_0 := zA hi371_0
        have HC371_0 := zA hl371_0
        clear hi371_0 hl371_0; replace p371 := eq_true p371; replace q371 := eq_true q371
        refine start_ (n := 12) (S := fun w' => w'.cell? ⟨gb365, 0, none⟩ = some (.slice (some ad370) l0_0.length c0_0) ∧ w'.cell? ⟨gb365, 1, none⟩ = some (.slice A0_1 l0_1.length c0_1) ∧ w'.cell? ⟨gb366, 0, none⟩ = some (.slice (some ad371) l1_0.length c1_0) ∧ w'.cell? ⟨gb366, 1, none⟩ = some (.slice A1_1 l1_1.length c1_1) ∧ w'.cell? (ad370.add (x9_1).toNat) = some (.slice A370_0 (rd_L5 l0_0 x9_1).length c370_0) ∧ w'.cell? (ad371.add (x9_1).toNat) = some (.slice A371_0 (rd_L6 l1_0 x9_1).length c371_0)) (ds := []) #[false, false, false, false, false, false, false, false, false, false, false, false] (by kernel_rfl) rfl rfl ⟨(blk_cell BK365.out 0).trans rfl, (blk_cell BK365.out 1).trans rfl, (blk_cell BK366.out 0).trans rfl, (blk_cell BK366.out 1).trans rfl, ((HB.out.cell (World.block_lt_of_cell? w _ hw370_0)).trans hw370_0), ((HB.out.cell (World.block_lt_of_cell? w _ hw371_0)).trans hw371_0)⟩ (fun hHeld => ?_); refine with_tabW pianolaref04_Lacks.tab10 pianolaref04_Lacks.bits10 (fun HT_ HW_ => ?_)
        generalize wr.drew = w22 at BK365 BK366 HB HR370_0 HR371_0 hx370_0 hx371_0 hHeld ⊢
        refine pure_ (i := 0) (N := some 46) (v := ?_) (a' := ?_) #[true, false, false, false, false, false, false, false, false, false, false, false] rfl rfl (any_of HT_.out (by kernel_rfl)) (fun _ _ _ h => h) (Or.inl ⟨by rfl, ?_⟩) ?_ ?_
        rotate_left
        ·
         intro w'
         go_simp
         with_reducible rfl
        rotate_left
        · simp only [Act.put, setIfInBounds_toArray, set_cons_zero, set_cons_succ, i64_w, i32_w]; rfl
        refine pure_ (i := 2) (N := some 48) (v := ?_) (a' := ?_) #[true, false, true, false, false, false, false, false, false, false, false, false] rfl rfl (any_of HT_.out (by kernel_rfl)) (fun _ _ _ h => h) (Or.inl ⟨by rfl, ?_⟩) ?_ ?_
        rotate_left
        ·
         intro w'
         go_simp
         with_reducible rfl
        rotate_left
        · simp only [Act.put, setIfInBounds_toArray, set_cons_zero, set_cons_succ, i64_w, i32_w]; rfl
        refine pure_ (i := 5) (N := some 51) (v := ?_) (a' := ?_) #[true, false, true, false, false, true, false, false, false, false, false, false] rfl rfl (any_of HT_.out (by kernel_rfl)) (fun _ _ _ h => h) (Or.inl ⟨by rfl, ?_⟩) ?_ ?_
        rotate_left
        ·
         intro w'
         go_simp
         with_reducible rfl
        rotate_left
        · simp only [Act.put, setIfInBounds_toArray, set_cons_zero, set_cons_succ, i64_w, i32_w]; rfl
        refine pure_ (i := 7) (N := some 53) (v := ?_) (a' := ?_) #[true, false, true, false, false, true, false, true, false, false, false, false] rfl rfl (any_of HT_.out (by kernel_rfl)) (fun _ _ _ h => h) (Or.inl ⟨by rfl, ?_⟩) ?_ ?_
        rotate_left
        ·
         intro w'
         go_simp
         with_reducible rfl
        rotate_left
        · simp only [Act.put, setIfInBounds_toArray, set_cons_zero, set_cons_succ, i64_w, i32_w]; rfl
        refine take_ (i := 1) (N := some 47) (v := ?_) (a' := ?_) #[true, true, true, false, false, true, false, true, false, false, false, false] rfl rfl (take_ofW HT_.out HW_.out (by kernel_rfl)) (fun _ _ _ h => h) (Or.inl ⟨by rfl, ?_⟩) hHeld ?_ ?_
        rotate_left
        ·
         rintro w' ⟨s0, s1, s2, s3, s4, s5⟩
         go_simp
         with_reducible rfl
        rotate_left
        · simp only [Act.put, setIfInBounds_toArray, set_cons_zero, set_cons_succ, i64_w, i32_w]; rfl
        refine pure_ (i := 3) (N := some 49) (v := ?_) (a' := ?_) #[true, true, true, true, false, true, false, true, false, false, false, false] rfl rfl (any_of HT_.out (by kernel_rfl)) (fun _ _ _ h => h) (Or.inl ⟨by rfl, ?_⟩) ?_ ?_
        rotate_left
        ·
         intro w'
         go_simp
         with_reducible rfl
        rotate_left
        · simp only [Act.put, setIfInBounds_toArray, set_cons_zero, set_cons_succ, i64_w, i32_w]; rfl
        refine take_ (i := 4) (N := some 50) (v := ?_) (a' := ?_) #[true, true, true, true, true, true, false, true, false, false, false, false] rfl rfl (take_ofW HT_.out HW_.out (by kernel_rfl)) (fun _ _ _ h => h) (Or.inl ⟨by rfl, ?_⟩) hHeld ?_ ?_
        rotate_left
        ·
         rintro w' ⟨s0, s1, s2, s3, s4, s5⟩
         go_simp
         with_reducible rfl
        rotate_left
        · simp only [Act.put, setIfInBounds_toArray, set_cons_zero, set_cons_succ, i64_w, i32_w]; rfl
        refine take_ (i := 6) (N := some 52) (v := ?_) (a' := ?_) #[true, true, true, true, true, true, true, true, false, false, false, false] rfl rfl (take_ofW HT_.out HW_.out (by kernel_rfl)) (fun _ _ _ h => h) (Or.inl ⟨by rfl, ?_⟩) hHeld ?_ ?_
        rotate_left
        ·
         rintro w' ⟨s0, s1, s2, s3, s4, s5⟩
         go_simp
         with_reducible rfl
        rotate_left
        · simp only [Act.put, setIfInBounds_toArray, set_cons_zero, set_cons_succ, i64_w, i32_w]; rfl
        refine pure_ (i := 8) (N := some 54) (v := ?_) (a' := ?_) #[true, true, true, true, true, true, true, true, true, false, false, false] rfl rfl (any_of HT_.out (by kernel_rfl)) (fun _ _ _ h => h) (Or.inl ⟨by rfl, ?_⟩) ?_ ?_
        rotate_left
        ·
         intro w'
         go_simp
         with_reducible rfl
        rotate_left
        · simp only [Act.put, setIfInBounds_toArray, set_cons_zero, set_cons_succ, i64_w, i32_w]; rfl
        refine take_ (i := 9) (N := some 55) (v := ?_) (a' := ?_) #[true, true, true, true, true, true, true, true, true, true, false, false] rfl rfl (take_ofW HT_.out HW_.out (by kernel_rfl)) (fun _ _ _ h => h) (Or.inl ⟨by rfl, ?_⟩) hHeld ?_ ?_
        rotate_left
        ·
         rintro w' ⟨s0, s1, s2, s3, s4, s5⟩
         go_simp
         with_reducible rfl
        rotate_left
        · simp only [Act.put, setIfInBounds_toArray, set_cons_zero, set_cons_succ, i64_w, i32_w]; rfl
        refine one_ (i := 10) (N := some 56) #[true, true, true, true, true, true, true, true, true, true, true, false] rfl rfl (one_of HT_.out (by kernel_rfl)) (by decide) (fun K hK => ?_)
        refine goes_ Try.func76 (by kernel_rfl) rfl #[.slice A370_0 (rd_L5 l0_0 x9_1).length c370_0, .slice A371_0 (rd_L6 l1_0 x9_1).length c371_0] (by rfl) rfl rfl zqE ?_
        with_reducible refine (pianolaref04_keeps.calls k1 _ _ (rd_L5 l0_0 x9_1) _ _ (rd_L6 l1_0 x9_1) t372 _ ?side1 ?side2 ?side3 ?side4 A18.out).mono ?_
        (case side1 => exact zqK (Kd.C_below HR370_0.out HB.out))
        (case side2 => exact HC370_0.out)
        (case side3 => exact zqK (Kd.C_below HR371_0.out HB.out))
        (case side4 => exact HC371_0.out)
        rintro e w' ⟨rfl, ⟨nd, rfl⟩⟩
        refine ⟨_, rfl, ?_⟩
        refine hK.out _ _ ⟨(blk_cell BK365.out 0).trans rfl, (blk_cell BK365.out 1).trans rfl, (blk_cell BK366.out 0).trans rfl, (blk_cell BK366.out 1).trans rfl, ((HB.out.cell (World.block_lt_of_cell? w _ hw370_0)).trans hw370_0), ((HB.out.cell (World.block_lt_of_cell? w _ hw371_0)).trans hw371_0)⟩ (fun hHeld => ?_)
        clear hK K; refine norm_ (a' := ?_) ?_ ?_; rotate_left
        · show Act.put _ (some 56) _ = _; simp only [Act.put, setIfInBounds_toArray, set_cons_zero, set_cons_succ, i64_w, i32_w]; rfl
        refine pure_ (i := 11) (N := some 57) (v := ?_) (a' := ?_) #[true, true, true, true, true, true, true, true, true, true, true, true] rfl rfl (any_of HT_.out (by kernel_rfl)) (fun _ _ _ h => h) (Or.inl ⟨by rfl, ?_⟩) ?_ ?_
        rotate_left
        ·
         intro w'
         go_simp
         with_reducible rfl
        rotate_left
        · simp only [Act.put, setIfInBounds_toArray, set_cons_zero, set_cons_succ, i64_w, i32_w]; rfl
        refine done_ (done_of HT_.out (by kernel_rfl)) ?_
        have H := H'.out
        clear H'
        by_cases c19 : t372 = true
        ·
         subst c19
         have H1 : (pianolaref04_Lacks.l0 k1 t368 (wrap64 (x9_1 + 1)) l0_0 l0_1 l1_0 l1_1) = some (r1, r2, r3) := by rw [if_pos rfl] at H; exact H
         clear H; have H := H1; clear H1
         have H' := zA H
         clear H
         try go_wp2
         go_roundg k1
         case measure => have := HK1.out; omega
         case rel => exact ⟨(wrap64 (x9_1 + 1)), zqQ, H', ⟨by have := HK1.out; omega⟩, ⟨zqB BK365.out⟩, ⟨zqB BK366.out⟩, ⟨zqH HB.out GE365.out GE366.out⟩⟩
        ·
         replace c19 := Bool.eq_false_iff.mpr c19
         subst c19
         have H1 : (some (([] : List Int), ([] : List Int), 21)) = some (r1, r2, r3) := by rw [if_neg (show ¬ (false = true) by decide)] at H; exact H
         clear H; have H := H1; clear H1
         simp only [Option.some.injEq, Prod.mk.injEq] at H
         obtain ⟨rfl, rfl, rfl⟩ := H
         try go_wp2
         go_ret3
         exact ⟨_, _, zqR, by first | exact Kd.R_nil _ _ _ _ _ | exact Kd.N_nil _ _ _ _ _ | exact Kd.V_nil _ _ _ _ _ | exact Kd.Q_nil _ _ _ _ _ | exact Kd.S_nil _ _ _ _ _, by first | exact Kd.R_nil _ _ _ _ _ | exact Kd.N_nil _ _ _ _ _ | exact Kd.V_nil _ _ _ _ _ | exact Kd.Q_nil _ _ _ _ _ | exact Kd.S_nil _ _ _ _ _, zqH HB.out GE365.out GE366.out⟩
       ·
        rw [if_neg c17] at H
        exact absurd H (by simp)
      ·
       rw [if_neg c16] at H
       exact absurd H (by simp)
     ·
      rw [if_neg c15] at H
      have c15b0 : decide (x9_1 < (l0_0.length : Int)) = false := decide_eq_false c15
      clear c15
      have H' := zA H
      clear H
      have hnb26 := NB365_366.out
      have hnc26 := NB366_365.out
      have hcz27_0 : wr.cell? ⟨gb365, 0, none⟩ = some (.slice A0_0 l0_0.length c0_0) := (blk_cell BK365.out 0).trans rfl
      have hcz27_1 : wr.cell? ⟨gb365, 1, none⟩ = some (.slice A0_1 l0_1.length c0_1) := (blk_cell BK365.out 1).trans rfl
      have hfz27_0 := blk_frozen BK365.out 0
      have hfz27_1 := blk_frozen BK365.out 1
      go_wp2
      go_loopg [10] k1 (fun kq v10 w' => ∃ (x10_2 : Int), v10 = .int .i64 x10_2 ∧ Aside0 (pianolaref04_Lacks.l1 kq t368 x10_2 l0_0 l0_1 l1_0 l1_1 = some (r1, r2, r3)) ∧ Aside0 (kq ≤ k1) ∧ Aside0 (w'.heap[gb365]? = some (.cells #[(.slice A0_0 l0_0.length c0_0), (.slice A0_1 l0_1.length c0_1)] 44 (0, 0))) ∧ Aside0 (w'.heap[gb366]? = some (.cells #[(.slice A1_0 l1_0.length c1_0), (.slice A1_1 l1_1.length c1_1)] 61 (0, 0))) ∧ Aside0 (Below w.heap.size w w'))
      case atStart => exact ⟨(0), zqQ, H', ⟨Nat.le_refl _⟩, ⟨zqB BK365.out⟩, ⟨zqB BK366.out⟩, ⟨zqH HB.out GE365.out GE366.out⟩⟩
      case round =>
       clear H'
       try clear c1
       try clear c2
       try clear p2
       try clear c3
       try clear p3
       try clear q3
       try clear hx3
       try clear c4
       try clear c4b0
       try clear c4b1
       try clear c6
       try clear c6b0
       try clear c6b1
       try clear p6
       try clear c7
       try clear c9
       try clear c15
       try clear c15b0
       try clear c16
       try clear c16b0
       try clear c17
       try clear c17b0
       try clear c19
       try clear c20
       try clear c23
       try clear c26
       try clear hcz10_0
       try clear hcz10_1
       try clear hcz12_0
       try clear hcz12_1
       try clear hcz13_0
       try clear hcz13_1
       try clear hcz21_0
       try clear hcz21_1
       try clear hcz24_0
       try clear hcz24_1
       try clear hcz27_0
       try clear hcz27_1
       try clear hfz10_0
       try clear hfz10_1
       try clear hfz12_0
       try clear hfz12_1
       try clear hfz13_0
       try clear hfz13_1
       try clear hfz21_0
       try clear hfz21_1
       try clear hfz24_0
       try clear hfz24_1
       try clear hfz27_0
       try clear hfz27_1
       try clear hx370_0
       try clear hx371_0
       try clear p2
       try clear p370
       try clear p371
       try clear q370
       try clear q371
       obtain ⟨x10_2, rfl, HA, HK2, BK365, BK366, HB⟩ := hrel
       cases gk with
       | zero => exact absurd HA.out (by simp [pianolaref04_Lacks.l1])
       | succ k2 =>
        have H := HA.out
        clear HA
        simp only [pianolaref04_Lacks.l1] at H
        by_cases c28 : x10_2 < (l0_1.length : Int)
        ·
         rw [if_pos c28] at H
         have c28b0 : decide (x10_2 < (l0_1.length : Int)) = true := decide_eq_true c28
         clear c28
         by_cases c29 : 0 ≤ x10_2
         ·
          rw [if_pos c29] at H
          have c29b0 : decide (0 ≤ x10_2) = true := decide_eq_true c29
          clear c29
          by_cases c30 : x10_2 < (l1_1.length : Int)
          ·
           rw [if_pos c30] at H
           have c30b0 : decide (x10_2 < (l1_1.length : Int)) = true := decide_eq_true c30
           clear c30
           replace H := Option.bind_eq_some_iff.mp H
           obtain ⟨t375, A310, H⟩ := H
           replace H : (if t375 = true then (pianolaref04_Lacks.l1 k2 t368 (wrap64 (x10_2 + 1)) l0_0 l0_1 l1_0 l1_1) else (some (([] : List Int), ([] : List Int), 21))) = some (r1, r2, r3) := H
           have A31 := zA A310
           clear A310
           have H' := zA H
           clear H
           have hnb33 := NB365_366.out
           have hnc33 := NB366_365.out
           have hcz34_0 : wr.cell? ⟨gb365, 0, none⟩ = some (.slice A0_0 l0_0.length c0_0) := (blk_cell BK365.out 0).trans rfl
           have hcz34_1 : wr.cell? ⟨gb365, 1, none⟩ = some (.slice A0_1 l0_1.length c0_1) := (blk_cell BK365.out 1).trans rfl
           have hfz34_0 := blk_frozen BK365.out 0
           have hfz34_1 := blk_frozen BK365.out 1
           try go_wp2
           have n0_ := zA (blk_drew BK365.out); have n1_ := zA (blk_drew BK366.out); have n2_ := zA (below_drew1 HB.out); clear BK365 BK366 HB; have BK365 := n0_; have BK366 := n1_; have HB := n2_; clear n0_ n1_ n2_
           have p373 : 0 ≤ (x10_2 : Int) := of_decide_eq_true (zqD)
           have q373 : x10_2 < (l0_1.length : Int) := of_decide_eq_true (zqD)
           obtain ⟨ad373, A373_0, c373_0, e373, hx373_0, hl373_0, hi373_0⟩ := at_L5 HR0_1.out x10_2 p373 q373
           have hw373_0 := hx373_0; cases e373
           replace hx373_0 := (HB.out.cell (World.block_lt_of_cell? w _ hx373_0)).trans hx373_0
           have HR373_0 := zA hi373_0
           have HC373_0 := zA hl373_0
           clear hi373_0 hl373_0; replace p373 := eq_true p373; replace q373 := eq_true q373
           have p374 : 0 ≤ (x10_2 : Int) := of_decide_eq_true (zqD)
           have q374 : x10_2 < (l1_1.length : Int) := of_decide_eq_true (zqD)
           obtain ⟨ad374, A374_0, c374_0, e374, hx374_0, hl374_0, hi374_0⟩ := at_L6 HR1_1.out x10_2 p374 q374
           have hw374_0 := hx374_0; cases e374
           replace hx374_0 := (HB.out.cell (World.block_lt_of_cell? w _ hx374_0)).trans hx374_0
           have HR374_0 := zA hi374_0
           have HC374_0 := zA hl374_0
           clear hi374_0 hl374_0; replace p374 := eq_true p374; replace q374 := eq_true q374
           refine start_ (n := 12) (S := fun w' => w'.cell? ⟨gb365, 0, none⟩ = some (.slice A0_0 l0_0.length c0_0) ∧ w'.cell? ⟨gb365, 1, none⟩ = some (.slice (some ad373) l0_1.length c0_1) ∧ w'.cell? ⟨gb366, 0, none⟩ = some (.slice A1_0 l1_0.length c1_0) ∧ w'.cell? ⟨gb366, 1, none⟩ = some (.slice (some ad374) l1_1.length c1_1) ∧ w'.cell? (ad373.add (x10_2).toNat) = some (.slice A373_0 (rd_L5 l0_1 x10_2).length c373_0) ∧ w'.cell? (ad374.add (x10_2).toNat) = some (.slice A374_0 (rd_L6 l1_1 x10_2).length c374_0)) (ds := []) #[false, false, false, false, false, false, false, false, false, false, false, false] (by kernel_rfl) rfl rfl ⟨(blk_cell BK365.out 0).trans rfl, (blk_cell BK365.out 1).trans rfl, (blk_cell BK366.out 0).trans rfl, (blk_cell BK366.out 1).trans rfl, ((HB.out.cell (World.block_lt_of_cell? w _ hw373_0)).trans hw373_0), ((HB.out.cell (World.block_lt_of_cell? w _ hw374_0)).trans hw374_0)⟩ (fun hHeld => ?_); refine with_tabW pianolaref04_Lacks.tab15 pianolaref04_Lacks.bits15 (fun HT_ HW_ => ?_)
           generalize wr.drew = w35 at BK365 BK366 HB HR373_0 HR374_0 hx373_0 hx374_0 hHeld ⊢
           refine pure_ (i := 0) (N := some 65) (v := ?_) (a' := ?_) #[true, false, false, false, false, false, false, false, false, false, false, false] rfl rfl (any_of HT_.out (by kernel_rfl)) (fun _ _ _ h => h) (Or.inl ⟨by rfl, ?_⟩) ?_ ?_
           rotate_left
           ·
            intro w'
            go_simp
            with_reducible rfl
           rotate_left
           · simp only [Act.put, setIfInBounds_toArray, set_cons_zero, set_cons_succ, i64_w, i32_w]; rfl
           refine pure_ (i := 2) (N := some 67) (v := ?_) (a' := ?_) #[true, false, true, false, false, false, false, false, false, false, false, false] rfl rfl (any_of HT_.out (by kernel_rfl)) (fun _ _ _ h => h) (Or.inl ⟨by rfl, ?_⟩) ?_ ?_
           rotate_left
           ·
            intro w'
            go_simp
            with_reducible rfl
           rotate_left
           · simp only [Act.put, setIfInBounds_toArray, set_cons_zero, set_cons_succ, i64_w, i32_w]; rfl
           refine pure_ (i := 5) (N := some 70) (v := ?_) (a' := ?_) #[true, false, true, false, false, true, false, false, false, false, false, false] rfl rfl (any_of HT_.out (by kernel_rfl)) (fun _ _ _ h => h) (Or.inl ⟨by rfl, ?_⟩) ?_ ?_
           rotate_left
           ·
            intro w'
            go_simp
            with_reducible rfl
           rotate_left
           · simp only [Act.put, setIfInBounds_toArray, set_cons_zero, set_cons_succ, i64_w, i32_w]; rfl
           refine pure_ (i := 7) (N := some 72) (v := ?_) (a' := ?_) #[true, false, true, false, false, true, false, true, false, false, false, false] rfl rfl (any_of HT_.out (by kernel_rfl)) (fun _ _ _ h => h) (Or.inl ⟨by rfl, ?_⟩) ?_ ?_
           rotate_left
           ·
            intro w'
            go_simp
            with_reducible rfl
           rotate_left
           · simp only [Act.put, setIfInBounds_toArray, set_cons_zero, set_cons_succ, i64_w, i32_w]; rfl
           refine take_ (i := 1) (N := some 66) (v := ?_) (a' := ?_) #[true, true, true, false, false, true, false, true, false, false, false, false] rfl rfl (take_ofW HT_.out HW_.out (by kernel_rfl)) (fun _ _ _ h => h) (Or.inl ⟨by rfl, ?_⟩) hHeld ?_ ?_
           rotate_left
           ·
            rintro w' ⟨s0, s1, s2, s3, s4, s5⟩
            go_simp
            with_reducible rfl
           rotate_left
           · simp only [Act.put, setIfInBounds_toArray, set_cons_zero, set_cons_succ, i64_w, i32_w]; rfl
           refine pure_ (i := 3) (N := some 68) (v := ?_) (a' := ?_) #[true, true, true, true, false, true, false, true, false, false, false, false] rfl rfl (any_of HT_.out (by kernel_rfl)) (fun _ _ _ h => h) (Or.inl ⟨by rfl, ?_⟩) ?_ ?_
           rotate_left
           ·
            intro w'
            go_simp
            with_reducible rfl
           rotate_left
           · simp only [Act.put, setIfInBounds_toArray, set_cons_zero, set_cons_succ, i64_w, i32_w]; rfl
           refine take_ (i := 4) (N := some 69) (v := ?_) (a' := ?_) #[true, true, true, true, true, true, false, true, false, false, false, false] rfl rfl (take_ofW HT_.out HW_.out (by kernel_rfl)) (fun _ _ _ h => h) (Or.inl ⟨by rfl, ?_⟩) hHeld ?_ ?_
           rotate_left
           ·
            rintro w' ⟨s0, s1, s2, s3, s4, s5⟩
            go_simp
            with_reducible rfl
           rotate_left
           · simp only [Act.put, setIfInBounds_toArray, set_cons_zero, set_cons_succ, i64_w, i32_w]; rfl
           refine take_ (i := 6) (N := some 71) (v := ?_) (a' := ?_) #[true, true, true, true, true, true, true, true, false, false, false, false] rfl rfl (take_ofW HT_.out HW_.out (by kernel_rfl)) (fun _ _ _ h => h) (Or.inl ⟨by rfl, ?_⟩) hHeld ?_ ?_
           rotate_left
           ·
            rintro w' ⟨s0, s1, s2, s3, s4, s5⟩
            go_simp
            with_reducible rfl
           rotate_left
           · simp only [Act.put, setIfInBounds_toArray, set_cons_zero, set_cons_succ, i64_w, i32_w]; rfl
           refine pure_ (i := 8) (N := some 73) (v := ?_) (a' := ?_) #[true, true, true, true, true, true, true, true, true, false, false, false] rfl rfl (any_of HT_.out (by kernel_rfl)) (fun _ _ _ h => h) (Or.inl ⟨by rfl, ?_⟩) ?_ ?_
           rotate_left
           ·
            intro w'
            go_simp
            with_reducible rfl
           rotate_left
           · simp only [Act.put, setIfInBounds_toArray, set_cons_zero, set_cons_succ, i64_w, i32_w]; rfl
           refine take_ (i := 9) (N := some 74) (v := ?_) (a' := ?_) #[true, true, true, true, true, true, true, true, true, true, false, false] rfl rfl (take_ofW HT_.out HW_.out (by kernel_rfl)) (fun _ _ _ h => h) (Or.inl ⟨by rfl, ?_⟩) hHeld ?_ ?_
           rotate_left
           ·
            rintro w' ⟨s0, s1, s2, s3, s4, s5⟩
            go_simp
            with_reducible rfl
           rotate_left
           · simp only [Act.put, setIfInBounds_toArray, set_cons_zero, set_cons_succ, i64_w, i32_w]; rfl
           refine one_ (i := 10) (N := some 75) #[true, true, true, true, true, true, true, true, true, true, true, false] rfl rfl (one_of HT_.out (by kernel_rfl)) (by decide) (fun K hK => ?_)
           refine goes_ Try.func77 (by kernel_rfl) rfl #[.slice A373_0 (rd_L5 l0_1 x10_2).length c373_0, .slice A374_0 (rd_L6 l1_1 x10_2).length c374_0] (by rfl) rfl rfl zqE ?_
           with_reducible refine (pianolaref04_has.calls k2 _ _ (rd_L5 l0_1 x10_2) _ _ (rd_L6 l1_1 x10_2) t375 _ ?side1 ?side2 ?side3 ?side4 A31.out).mono ?_
           (case side1 => exact zqK (Kd.C_below HR373_0.out HB.out))
           (case side2 => exact HC373_0.out)
           (case side3 => exact zqK (Kd.C_below HR374_0.out HB.out))
           (case side4 => exact HC374_0.out)
           rintro e w' ⟨rfl, ⟨nd, rfl⟩⟩
           refine ⟨_, rfl, ?_⟩
           refine hK.out _ _ ⟨(blk_cell BK365.out 0).trans rfl, (blk_cell BK365.out 1).trans rfl, (blk_cell BK366.out 0).trans rfl, (blk_cell BK366.out 1).trans rfl, ((HB.out.cell (World.block_lt_of_cell? w _ hw373_0)).trans hw373_0), ((HB.out.cell (World.block_lt_of_cell? w _ hw374_0)).trans hw374_0)⟩ (fun hHeld => ?_)
           clear hK K; refine norm_ (a' := ?_) ?_ ?_; rotate_left
           · show Act.put _ (some 75) _ = _; simp only [Act.put, setIfInBounds_toArray, set_cons_zero, set_cons_succ, i64_w, i32_w]; rfl
           refine pure_ (i := 11) (N := some 76) (v := ?_) (a' := ?_) #[true, true, true, true, true, true, true, true, true, true, true, true] rfl rfl (any_of HT_.out (by kernel_rfl)) (fun _ _ _ h => h) (Or.inl ⟨by rfl, ?_⟩) ?_ ?_
           rotate_left
           ·
            intro w'
            go_simp
            with_reducible rfl
           rotate_left
           · simp only [Act.put, setIfInBounds_toArray, set_cons_zero, set_cons_succ, i64_w, i32_w]; rfl
           refine done_ (done_of HT_.out (by kernel_rfl)) ?_
           have H := H'.out
           clear H'
           by_cases c32 : t375 = true
           ·
            subst c32
            have H1 : (pianolaref04_Lacks.l1 k2 t368 (wrap64 (x10_2 + 1)) l0_0 l0_1 l1_0 l1_1) = some (r1, r2, r3) := by rw [if_pos rfl] at H; exact H
            clear H; have H := H1; clear H1
            have H' := zA H
            clear H
            try go_wp2
            go_roundg k2
            case measure => have := HK1.out; have := HK2.out; omega
            case rel => exact ⟨(wrap64 (x10_2 + 1)), zqQ, H', ⟨by have := HK1.out; have := HK2.out; omega⟩, ⟨zqB BK365.out⟩, ⟨zqB BK366.out⟩, ⟨zqH HB.out GE365.out GE366.out⟩⟩
           ·
            replace c32 := Bool.eq_false_iff.mpr c32
            subst c32
            have H1 : (some (([] : List Int), ([] : List Int), 21)) = some (r1, r2, r3) := by rw [if_neg (show ¬ (false = true) by decide)] at H; exact H
            clear H; have H := H1; clear H1
            simp only [Option.some.injEq, Prod.mk.injEq] at H
            obtain ⟨rfl, rfl, rfl⟩ := H
            try go_wp2
            go_ret3
            exact ⟨_, _, zqR, by first | exact Kd.R_nil _ _ _ _ _ | exact Kd.N_nil _ _ _ _ _ | exact Kd.V_nil _ _ _ _ _ | exact Kd.Q_nil _ _ _ _ _ | exact Kd.S_nil _ _ _ _ _, by first | exact Kd.R_nil _ _ _ _ _ | exact Kd.N_nil _ _ _ _ _ | exact Kd.V_nil _ _ _ _ _ | exact Kd.Q_nil _ _ _ _ _ | exact Kd.S_nil _ _ _ _ _, zqH HB.out GE365.out GE366.out⟩
          ·
           rw [if_neg c30] at H
           exact absurd H (by simp)
         ·
          rw [if_neg c29] at H
          exact absurd H (by simp)
        ·
         rw [if_neg c28] at H
         have c28b0 : decide (x10_2 < (l0_1.length : Int)) = false := decide_eq_false c28
         clear c28
         by_cases c39 : 0 ≤ (l0_1.length : Int)
         ·
          rw [if_pos c39] at H
          have c39b0 := eq_true c39
          have c39b1 : decide (0 ≤ (l0_1.length : Int)) = true := decide_eq_true c39
          clear c39
          by_cases c40 : ((l0_1.length : Int) : Int).toNat ≤ 35184372088832
          ·
           rw [if_pos c40] at H
           have c40b0 := eq_true c40
           have c40b1 : decide (((l0_1.length : Int) : Int).toNat ≤ 35184372088832) = true := decide_eq_true c40
           clear c40
           obtain ⟨y376, hy376⟩ : ∃ y_ : List Int, y_ = (List.replicate ((l0_1.length : Int) : Int).toNat 0) := ⟨_, rfl⟩
           replace H : (pianolaref04_Lacks.l2 k2 t368 y376 ([] : List Int) ([] : List Int) ([] : List Int) 0 0 0 l1_0 l1_1) = some (r1, r2, r3) := zqF hy376 H
           have Ny376 := zA hy376
           clear hy376
           have H' := zA H
           clear H
           have hnb41 := NB365_366.out
           have hnc41 := NB366_365.out
           have hcz42_0 : wr.cell? ⟨gb365, 0, none⟩ = some (.slice A0_0 l0_0.length c0_0) := (blk_cell BK365.out 0).trans rfl
           have hcz42_1 : wr.cell? ⟨gb365, 1, none⟩ = some (.slice A0_1 l0_1.length c0_1) := (blk_cell BK365.out 1).trans rfl
           have hfz42_0 := blk_frozen BK365.out 0
           have hfz42_1 := blk_frozen BK365.out 1
           go_wp2_with (first | ((with_reducible refine gate_dst (N := 80) rfl ?_); refine Kd.R_make (Kd.int .i64) _ 3 rfl (N := 80) rfl 30 _ _ rfl (l0_1.length : Int) rfl rfl Try.underlying30 (.int .i64 0) 8 info3 rfl (by decide) (by omega) 0 (ok := fun _ => True) (okp := fun _ => True) rfl (fun _ hk => hk) trivial (of_decide_eq_true (zqD)) (Nat.le_trans (Nat.mul_le_mul_right _ (of_decide_eq_true (zqD) : (l0_1.length : Int).toNat ≤ 35184372088832)) (by omega)) (Below.refl _ _) (Nat.le_refl _) ?_; intro v377 w43 ho44 hb hg_ hnew_; clear hg_ hnew_; (first | rw [← Ny376.out] at ho44 | (simp only [Int.reduceToNat] at ho44; rw [← Ny376.out] at ho44)); have n0_ := zA (Kd.R_lower ho44 (below_size (zqH HB.out GE365.out GE366.out))); have n1_ := zA (blk_below (g := gb365) (o := .cells #[.slice A0_0 l0_0.length c0_0, .slice A0_1 l0_1.length c0_1] 44 (0, 0)) (zqB BK365.out) hb); have n2_ := zA (blk_below (g := gb366) (o := .cells #[.slice A1_0 l1_0.length c1_0, .slice A1_1 l1_1.length c1_1] 61 (0, 0)) (zqB BK366.out) hb); have n3_ := zA (below_step (zqH HB.out GE365.out GE366.out) hb); clear BK365; clear BK366; clear HB; have HO378 := n0_; have BK365 := n1_; have BK366 := n2_; have HB := n3_; clear n0_ n1_ n2_ n3_; clear hb ho44))
           go_loopg [12, 13, 14, 15, 16, 17] k2 (fun kq v12 v13 v14 v15 v16 v17 w' => ∃ (x11_3 : List Int) (x12_3 : List Int) (x13_3 : List Int) (x14_3 : List Int) (x15_3 : Int) (x16_3 : Int) (x17_3 : Int), v15 = .int .i64 x15_3 ∧ v16 = .int .i64 x16_3 ∧ v17 = .int .i64 x17_3 ∧ Aside0 (pianolaref04_Lacks.l2 kq t368 x11_3 x12_3 x13_3 x14_3 x15_3 x16_3 x17_3 l1_0 l1_1 = some (r1, r2, r3)) ∧ Aside0 (kq ≤ k2) ∧ Aside0 (Kd.R (Kd.int .i64) 3 w' w.heap.size (fun k_ => some k_ ≠ (v12 : Value).ownBlock ∧ some k_ ≠ (v13 : Value).ownBlock ∧ some k_ ≠ (v14 : Value).ownBlock) v377 x11_3) ∧ Aside0 (Kd.R (Kd.int .i64) 3 w' w.heap.size (fun k_ => some k_ ≠ (v377 : Value).ownBlock ∧ some k_ ≠ (v13 : Value).ownBlock ∧ some k_ ≠ (v14 : Value).ownBlock) v12 x12_3) ∧ Aside0 (Kd.R (Kd.int .i64) 3 w' w.heap.size (fun k_ => some k_ ≠ (v377 : Value).ownBlock ∧ some k_ ≠ (v12 : Value).ownBlock ∧ some k_ ≠ (v14 : Value).ownBlock) v13 x13_3) ∧ Aside0 (Kd.R (Kd.int .i64) 3 w' w.heap.size (fun k_ => some k_ ≠ (v377 : Value).ownBlock ∧ some k_ ≠ (v12 : Value).ownBlock ∧ some k_ ≠ (v13 : Value).ownBlock) v14 x14_3) ∧ Aside0 (w'.heap[gb365]? = some (.cells #[(.slice A0_0 l0_0.length c0_0), (.slice A0_1 l0_1.length c0_1)] 44 (0, 0))) ∧ Aside0 (w'.heap[gb366]? = some (.cells #[(.slice A1_0 l1_0.length c1_0), (.slice A1_1 l1_1.length c1_1)] 61 (0, 0))) ∧ Aside0 (Below w.heap.size w w'))
           case atStart => exact ⟨(y376), (([] : List Int)), (([] : List Int)), (([] : List Int)), (0), (0), (0), zqQ, zqQ, zqQ, H', ⟨Nat.le_refl _⟩, ⟨by (with_reducible repeat (first | apply Kd.R_alloc | apply Kd.R_drewN | apply Kd.R_drew)); exact Kd.R_mono HO378.out (fun _ hk => ⟨(by simp [Value.ownBlock]), ⟨(by simp [Value.ownBlock]), (by simp [Value.ownBlock])⟩⟩)⟩, ⟨by first | exact Kd.R_nil _ _ _ _ _ | exact Kd.N_nil _ _ _ _ _ | exact Kd.V_nil _ _ _ _ _ | exact Kd.Q_nil _ _ _ _ _ | exact Kd.S_nil _ _ _ _ _⟩, ⟨by first | exact Kd.R_nil _ _ _ _ _ | exact Kd.N_nil _ _ _ _ _ | exact Kd.V_nil _ _ _ _ _ | exact Kd.Q_nil _ _ _ _ _ | exact Kd.S_nil _ _ _ _ _⟩, ⟨by first | exact Kd.R_nil _ _ _ _ _ | exact Kd.N_nil _ _ _ _ _ | exact Kd.V_nil _ _ _ _ _ | exact Kd.Q_nil _ _ _ _ _ | exact Kd.S_nil _ _ _ _ _⟩, ⟨zqB BK365.out⟩, ⟨zqB BK366.out⟩, ⟨zqH HB.out GE365.out GE366.out⟩⟩
           case round =>
            clear H'
            try clear c1
            try clear c2
            try clear p2
            try clear c3
            try clear p3
            try clear q3
            try clear hx3
            try clear c4
            try clear c4b0
            try clear c4b1
            try clear c6
            try clear c6b0
            try clear c6b1
            try clear p6
            try clear c7
            try clear c9
            try clear c15
            try clear c15b0
            try clear c16
            try clear c16b0
            try clear c17
            try clear c17b0
            try clear c19
            try clear c20
            try clear c23
            try clear c26
            try clear c28
            try clear c28b0
            try clear c29
            try clear c29b0
            try clear c30
            try clear c30b0
            try clear c32
            try clear c33
            try clear c36
            try clear c37
            try clear p37
            try clear q37
            try clear hx37
            try clear c39
            try clear c39b0
            try clear c39b1
            try clear c40
            try clear c40b0
            try clear c40b1
            try clear c41
            try clear hcz10_0
            try clear hcz10_1
            try clear hcz12_0
            try clear hcz12_1
            try clear hcz13_0
            try clear hcz13_1
            try clear hcz21_0
            try clear hcz21_1
            try clear hcz24_0
            try clear hcz24_1
            try clear hcz27_0
            try clear hcz27_1
            try clear hcz34_0
            try clear hcz34_1
            try clear hcz37_0
            try clear hcz37_1
            try clear hcz42_0
            try clear hcz42_1
            try clear hfz10_0
            try clear hfz10_1
            try clear hfz12_0
            try clear hfz12_1
            try clear hfz13_0
            try clear hfz13_1
            try clear hfz21_0
            try clear hfz21_1
            try clear hfz24_0
            try clear hfz24_1
            try clear hfz27_0
            try clear hfz27_1
            try clear hfz34_0
            try clear hfz34_1
            try clear hfz37_0
            try clear hfz37_1
            try clear hfz42_0
            try clear hfz42_1
            try clear hx370_0
            try clear hx371_0
            try clear hx373_0
            try clear hx374_0
            try clear p2
            try clear p3
            try clear p370
            try clear p371
            try clear p373
            try clear p374
            try clear p6
            try clear q3
            try clear q370
            try clear q371
            try clear q373
            try clear q374
            obtain ⟨x11_3, x12_3, x13_3, x14_3, x15_3, x16_3, x17_3, rfl, rfl, rfl, HA, HK3, HO_11, HO_12, HO_13, HO_14, BK365, BK366, HB⟩ := hrel
            cases gk with
            | zero => exact absurd HA.out (by simp [pianolaref04_Lacks.l2])
            | succ k3 =>
             have H := HA.out
             clear HA
             simp only [pianolaref04_Lacks.l2] at H
             by_cases c45 : x17_3 < t368
             ·
              rw [if_pos c45] at H
              have c45b0 : decide (x17_3 < t368) = true := decide_eq_true c45
              clear c45
              have H' := zA H
              clear H
              go_wp2
              go_loopg [15, 18] k3 (fun kq v15 v18 w' => ∃ (x11_4 : List Int) (x15_4 : Int) (x18_4 : Int), v15 = .int .i64 x15_4 ∧ v18 = .int .i64 x18_4 ∧ Aside0 (pianolaref04_Lacks.l3 kq t368 x11_4 x12_3 x13_3 x14_3 x15_4 x16_3 x17_3 x18_4 l1_0 l1_1 = some (r1, r2, r3)) ∧ Aside0 (kq ≤ k3) ∧ Aside0 (Kd.R (Kd.int .i64) 3 w' w.heap.size (fun k_ => some k_ ≠ (u12 : Value).ownBlock ∧ some k_ ≠ (u13 : Value).ownBlock ∧ some k_ ≠ (u14 : Value).ownBlock) v377 x11_4) ∧ Aside0 (Kd.R (Kd.int .i64) 3 w' w.heap.size (fun k_ => some k_ ≠ (v377 : Value).ownBlock ∧ some k_ ≠ (u13 : Value).ownBlock ∧ some k_ ≠ (u14 : Value).ownBlock) u12 x12_3) ∧ Aside0 (Kd.R (Kd.int .i64) 3 w' w.heap.size (fun k_ => some k_ ≠ (v377 : Value).ownBlock ∧ some k_ ≠ (u12 : Value).ownBlock ∧ some k_ ≠ (u14 : Value).ownBlock) u13 x13_3) ∧ Aside0 (Kd.R (Kd.int .i64) 3 w' w.heap.size (fun k_ => some k_ ≠ (v377 : Value).ownBlock ∧ some k_ ≠ (u12 : Value).ownBlock ∧ some k_ ≠ (u13 : Value).ownBlock) u14 x14_3) ∧ Aside0 (w'.heap[gb365]? = some (.cells #[(.slice A0_0 l0_0.length c0_0), (.slice A0_1 l0_1.length c0_1)] 44 (0, 0))) ∧ Aside0 (w'.heap[gb366]? = some (.cells #[(.slice A1_0 l1_0.length c1_0), (.slice A1_1 l1_1.length c1_1)] 61 (0, 0))) ∧ Aside0 (Below w.heap.size w w'))
              case atStart => exact ⟨(x11_3), (x15_3), (0), zqQ, zqQ, H', ⟨Nat.le_refl _⟩, ⟨zqC HO_11.out⟩, ⟨zqC HO_12.out⟩, ⟨zqC HO_13.out⟩, ⟨zqC HO_14.out⟩, ⟨zqB BK365.out⟩, ⟨zqB BK366.out⟩, ⟨zqH HB.out GE365.out GE366.out⟩⟩
              case round =>
               clear H'
               try clear c1
               try clear c2
               try clear p2
               try clear c3
               try clear p3
               try clear q3
               try clear hx3
               try clear c4
               try clear c4b0
               try clear c4b1
               try clear c6
               try clear c6b0
               try clear c6b1
               try clear p6
               try clear c7
               try clear c9
               try clear c15
               try clear c15b0
               try clear c16
               try clear c16b0
               try clear c17
               try clear c17b0
               try clear c19
               try clear c20
               try clear c23
               try clear c26
               try clear c28
               try clear c28b0
               try clear c29
               try clear c29b0
               try clear c30
               try clear c30b0
               try clear c32
               try clear c33
               try clear c36
               try clear c37
               try clear p37
               try clear q37
               try clear hx37
               try clear c39
               try clear c39b0
               try clear c39b1
               try clear c40
               try clear c40b0
               try clear c40b1
               try clear c41
               try clear c45
               try clear c45b0
               try clear hcz10_0
               try clear hcz10_1
               try clear hcz12_0
               try clear hcz12_1
               try clear hcz13_0
               try clear hcz13_1
               try clear hcz21_0
               try clear hcz21_1
               try clear hcz24_0
               try clear hcz24_1
               try clear hcz27_0
               try clear hcz27_1
               try clear hcz34_0
               try clear hcz34_1
               try clear hcz37_0
               try clear hcz37_1
               try clear hcz42_0
               try clear hcz42_1
               try clear hfz10_0
               try clear hfz10_1
               try clear hfz12_0
               try clear hfz12_1
               try clear hfz13_0
               try clear hfz13_1
               try clear hfz21_0
               try clear hfz21_1
               try clear hfz24_0
               try clear hfz24_1
               try clear hfz27_0
               try clear hfz27_1
               try clear hfz34_0
               try clear hfz34_1
               try clear hfz37_0
               try clear hfz37_1
               try clear hfz42_0
               try clear hfz42_1
               try clear hx370_0
               try clear hx371_0
               try clear hx373_0
               try clear hx374_0
               try clear p2
               try clear p3
               try clear p37
               try clear p370
               try clear p371
               try clear p373
               try clear p374
               try clear p6
               try clear q3
               try clear q37
               try clear q370
               try clear q371
               try clear q373
               try clear q374
               obtain ⟨x11_4, x15_4, x18_4, rfl, rfl, HA, HK4, HO_11, HO_12, HO_13, HO_14, BK365, BK366, HB⟩ := hrel
               cases gk with
               | zero => exact absurd HA.out (by simp [pianolaref04_Lacks.l3])
               | succ k4 =>
                have H := HA.out
                clear HA
                simp only [pianolaref04_Lacks.l3] at H
                by_cases c46 : x18_4 < (l1_0.length : Int)
                ·
                 rw [if_pos c46] at H
                 have c46b0 : decide (x18_4 < (l1_0.length : Int)) = true := decide_eq_true c46
                 clear c46
                 by_cases c47 : 0 < (x11_4.length : Int)
                 ·
                  rw [if_pos c47] at H
                  have c47b0 : decide (0 < (x11_4.length : Int)) = true := decide_eq_true c47
                  have c47b1 : decide (0 < x11_4.length) = true := decide_eq_true (by omega)
                  clear c47
                  by_cases c48 : 0 ≤ x18_4
                  ·
                   rw [if_pos c48] at H
                   have c48b0 : decide (0 ≤ x18_4) = true := decide_eq_true c48
                   clear c48
                   by_cases c49 : 0 ≤ x17_3
                   ·
                    rw [if_pos c49] at H
                    have c49b0 : decide (0 ≤ x17_3) = true := decide_eq_true c49
                    clear c49
                    by_cases c50 : x17_3 < ((rd_L6 l1_0 x18_4).length : Int)
                    ·
                     rw [if_pos c50] at H
                     have c50b0 : decide (x17_3 < ((rd_L6 l1_0 x18_4).length : Int)) = true := decide_eq_true c50
                     clear c50
                     obtain ⟨y382, hy382⟩ : ∃ y_ : List Int, y_ = (x11_4.set (0 : Int).toNat (wrap64 ((rd x11_4 0) + (rd (rd_L6 l1_0 x18_4) x17_3)))) := ⟨_, rfl⟩
                     replace H : (pianolaref04_Lacks.l3 k4 t368 y382 x12_3 x13_3 x14_3 (wrap64 (x15_4 + (rd (rd_L6 l1_0 x18_4) x17_3))) x16_3 x17_3 (wrap64 (x18_4 + 1)) l1_0 l1_1) = some (r1, r2, r3) := zqF hy382 H
                     have Ny382 := zA hy382
                     clear hy382
                     have H' := zA H
                     clear H
                     have hnb52 := NB366_365.out
                     have hnc52 := NB365_366.out
                     have hcz53_0 : wr.cell? ⟨gb366, 0, none⟩ = some (.slice A1_0 l1_0.length c1_0) := (blk_cell BK366.out 0).trans rfl
                     have hcz53_1 : wr.cell? ⟨gb366, 1, none⟩ = some (.slice A1_1 l1_1.length c1_1) := (blk_cell BK366.out 1).trans rfl
                     have hfz53_0 := blk_frozen BK366.out 0
                     have hfz53_1 := blk_frozen BK366.out 1
                     try go_wp2
                     have n0_ := zA (Kd.R_drew HO_11.out); have n1_ := zA (Kd.R_drew HO_12.out); have n2_ := zA (Kd.R_drew HO_13.out); have n3_ := zA (Kd.R_drew HO_14.out); have n4_ := zA (blk_drew BK365.out); have n5_ := zA (blk_drew BK366.out); have n6_ := zA (below_drew1 HB.out); clear HO_11 HO_12 HO_13 HO_14 BK365 BK366 HB; have HO_11 := n0_; have HO_12 := n1_; have HO_13 := n2_; have HO_14 := n3_; have BK365 := n4_; have BK366 := n5_; have HB := n6_; clear n0_ n1_ n2_ n3_ n4_ n5_ n6_
                     obtain ⟨Ao55, co55, eo55⟩ := Kd.R_slice HO_11.out
                     (first | subst eo55 | (injection eo55 with f1_ f2_ f3_; have f4_ := f1_.symm; have f5_ := f3_.symm; clear f1_ f2_ f3_; subst f4_; subst f5_))
                     have p379 : 0 ≤ (0 : Int) := (by omega)
                     have q379 : 0 < (x11_4.length : Int) := of_decide_eq_true (zqD)
                     obtain ⟨ad379, e379, hx379_0⟩ := Kd.at_int (Kd.R_reads' HO_11.out).2.2 0 p379 q379
                     cases e379
                     have qi379 : (0 < x11_4.length) = True := eq_true (by omega)
                     (try rw [show ((0 : Int)).toNat = 0 from rfl] at hx379_0)
                     (try rw [Addr.add_zero'] at hx379_0)
                     replace p379 := eq_true p379; replace q379 := eq_true q379
                     have p380 : 0 ≤ (x18_4 : Int) := of_decide_eq_true (zqD)
                     have q380 : x18_4 < (l1_0.length : Int) := of_decide_eq_true (zqD)
                     obtain ⟨ad380, A380_0, c380_0, e380, hx380_0, hl380_0, hi380_0⟩ := at_L6 HR1_0.out x18_4 p380 q380
                     have hw380_0 := hx380_0; cases e380
                     replace hx380_0 := (HB.out.cell (World.block_lt_of_cell? w _ hx380_0)).trans hx380_0
                     have HR380_0 := zA hi380_0
                     have HC380_0 := zA hl380_0
                     clear hi380_0 hl380_0; replace p380 := eq_true p380; replace q380 := eq_true q380
                     have p381 : 0 ≤ (x17_3 : Int) := of_decide_eq_true (zqD)
                     have q381 : x17_3 < ((rd_L6 l1_0 x18_4).length : Int) := of_decide_eq_true (zqD)
                     obtain ⟨ad381, e381, hx381_0⟩ := Kd.at_int HR380_0.out x17_3 p381 q381
                     have hw381_0 := hx381_0; cases e381
                     replace hx381_0 := (HB.out.cell (World.block_lt_of_cell? w _ hx381_0)).trans hx381_0
                     replace p381 := eq_true p381; replace q381 := eq_true q381
                     have p51 : 0 ≤ (0 : Int) := (by omega)
                     have q51 : (0 : Int) < ((x11_4.length : Int) : Int) := of_decide_eq_true (zqD)
                     have qi51 : (0 < x11_4.length) = True := eq_true (by omega)
                     obtain ⟨go51, co51, eo51, gb51, gl51, cl51, HG51⟩ := Kd.R_form HO_11.out (by omega)
                     (first | cases eo51 | (injection eo51 with ea_ en_ ec_; (first | subst ea_ | (injection ea_ with ea_; subst ea_)); subst ec_; clear en_))
                     have GB51 := zA gb51
                     have GG51 := zA HG51
                     clear gb51 gl51 HG51
                     (first | simp only [add_plain] at hx379_0 | skip)
                     obtain ⟨hx51_0, hf51_0⟩ := Kd.R_celln 0 HO_11.out (0 : Int) p51 q51
                     (try rw [show ((0 : Int)).toNat = 0 from rfl] at hx51_0)
                     (try simp only [Nat.reduceMul, Nat.zero_mul, Nat.zero_add, Nat.reduceAdd] at hx51_0)
                     (try rw [show ((0 : Int)).toNat = 0 from rfl] at hf51_0)
                     (try simp only [Nat.reduceMul, Nat.zero_mul, Nat.zero_add, Nat.reduceAdd] at hf51_0)
                     replace p51 := eq_true p51; replace q51 := eq_true q51
                     have HP56 := Kd.R_putn HO_11.out (0 : Int) (wrap64 ((rd x11_4 0) + (rd (rd_L6 l1_0 x18_4) x17_3)))
                     rw [← Ny382.out] at HP56
                     have HQ56 := zA HP56
                     clear HP56
                     refine start_ (n := 14) (S := fun w' => w'.cell? ⟨gb366, 0, none⟩ = some (.slice (some ad380) l1_0.length c1_0) ∧ w'.cell? ⟨gb366, 1, none⟩ = some (.slice A1_1 l1_1.length c1_1) ∧ w'.cell? ⟨go51, 0, none⟩ = some (.int .i64 (rd x11_4 0)) ∧ w'.cell? (ad380.add (x18_4).toNat) = some (.slice (some ad381) (rd_L6 l1_0 x18_4).length c380_0) ∧ w'.cell? (ad381.add (x17_3).toNat) = some (.int .i64 (rd (rd_L6 l1_0 x18_4) x17_3))) (ds := [13]) #[false, false, false, false, false, false, false, false, false, false, false, false, false, false] (by kernel_rfl) rfl rfl ⟨(blk_cell BK366.out 0).trans rfl, (blk_cell BK366.out 1).trans rfl, hx379_0, ((HB.out.cell (World.block_lt_of_cell? w _ hw380_0)).trans hw380_0), ((HB.out.cell (World.block_lt_of_cell? w _ hw381_0)).trans hw381_0)⟩ (fun hHeld => ?_); refine with_tabW pianolaref04_Lacks.tab26 pianolaref04_Lacks.bits26 (fun HT_ HW_ => ?_)
                     generalize wr.drew = w54 at HO_11 HO_12 HO_13 HO_14 BK365 BK366 HB GG51 HQ56 HR380_0 hf51_0 hx379_0 hx380_0 hx381_0 hx51_0 hHeld ⊢
                     refine pure_ (i := 0) (N := some 93) (v := ?_) (a' := ?_) #[true, false, false, false, false, false, false, false, false, false, false, false, false, false] rfl rfl (any_of HT_.out (by kernel_rfl)) (fun _ _ _ h => h) (Or.inl ⟨by rfl, ?_⟩) ?_ ?_
                     rotate_left
                     ·
                      intro w'
                      go_simp
                      with_reducible rfl
                     rotate_left
                     · simp only [Act.put, setIfInBounds_toArray, set_cons_zero, set_cons_succ, i64_w, i32_w]; rfl
                     refine pure_ (i := 1) (N := some 94) (v := ?_) (a' := ?_) #[true, true, false, false, false, false, false, false, false, false, false, false, false, false] rfl rfl (any_of HT_.out (by kernel_rfl)) (fun _ _ _ h => h) (Or.inl ⟨by rfl, ?_⟩) ?_ ?_
                     rotate_left
                     ·
                      intro w'
                      go_simp
                      with_reducible rfl
                     rotate_left
                     · simp only [Act.put, setIfInBounds_toArray, set_cons_zero, set_cons_succ, i64_w, i32_w]; rfl
                     refine pure_ (i := 3) (N := some 96) (v := ?_) (a' := ?_) #[true, true, false, true, false, false, false, false, false, false, false, false, false, false] rfl rfl (any_of HT_.out (by kernel_rfl)) (fun _ _ _ h => h) (Or.inl ⟨by rfl, ?_⟩) ?_ ?_
                     rotate_left
                     ·
                      intro w'
                      go_simp
                      with_reducible rfl
                     rotate_left
                     · simp only [Act.put, setIfInBounds_toArray, set_cons_zero, set_cons_succ, i64_w, i32_w]; rfl
                     refine pure_ (i := 5) (N := some 98) (v := ?_) (a' := ?_) #[true, true, false, true, false, true, false, false, false, false, false, false, false, false] rfl rfl (any_of HT_.out (by kernel_rfl)) (fun _ _ _ h => h) (Or.inl ⟨by rfl, ?_⟩) ?_ ?_
                     rotate_left
                     ·
                      intro w'
                      go_simp
                      with_reducible rfl
                     rotate_left
                     · simp only [Act.put, setIfInBounds_toArray, set_cons_zero, set_cons_succ, i64_w, i32_w]; rfl
                     refine pure_ (i := 8) (N := some 101) (v := ?_) (a' := ?_) #[true, true, false, true, false, true, false, false, true, false, false, false, false, false] rfl rfl (any_of HT_.out (by kernel_rfl)) (fun _ _ _ h => h) (Or.inl ⟨by rfl, ?_⟩) ?_ ?_
                     rotate_left
                     ·
                      intro w'
                      go_simp
                      with_reducible rfl
                     rotate_left
                     · simp only [Act.put, setIfInBounds_toArray, set_cons_zero, set_cons_succ, i64_w, i32_w]; rfl
                     refine take_ (i := 2) (N := some 95) (v := ?_) (a' := ?_) #[true, true, true, true, false, true, false, false, true, false, false, false, false, false] rfl rfl (take_ofW HT_.out HW_.out (by kernel_rfl)) (fun _ _ _ h => h) (Or.inl ⟨by rfl, ?_⟩) hHeld ?_ ?_
                     rotate_left
                     ·
                      rintro w' ⟨s0, s1, s2, s3, s4⟩
                      go_simp
                      with_reducible rfl
                     rotate_left
                     · simp only [Act.put, setIfInBounds_toArray, set_cons_zero, set_cons_succ, i64_w, i32_w]; rfl
                     refine take_ (i := 4) (N := some 97) (v := ?_) (a' := ?_) #[true, true, true, true, true, true, false, false, true, false, false, false, false, false] rfl rfl (take_ofW HT_.out HW_.out (by kernel_rfl)) (fun _ _ _ h => h) (Or.inl ⟨by rfl, ?_⟩) hHeld ?_ ?_
                     rotate_left
                     ·
                      rintro w' ⟨s0, s1, s2, s3, s4⟩
                      go_simp
                      with_reducible rfl
                     rotate_left
                     · simp only [Act.put, setIfInBounds_toArray, set_cons_zero, set_cons_succ, i64_w, i32_w]; rfl
                     refine pure_ (i := 6) (N := some 99) (v := ?_) (a' := ?_) #[true, true, true, true, true, true, true, false, true, false, false, false, false, false] rfl rfl (any_of HT_.out (by kernel_rfl)) (fun _ _ _ h => h) (Or.inl ⟨by rfl, ?_⟩) ?_ ?_
                     rotate_left
                     ·
                      intro w'
                      go_simp
                      with_reducible rfl
                     rotate_left
                     · simp only [Act.put, setIfInBounds_toArray, set_cons_zero, set_cons_succ, i64_w, i32_w]; rfl
                     refine take_ (i := 7) (N := some 100) (v := ?_) (a' := ?_) #[true, true, true, true, true, true, true, true, true, false, false, false, false, false] rfl rfl (take_ofW HT_.out HW_.out (by kernel_rfl)) (fun _ _ _ h => h) (Or.inl ⟨by rfl, ?_⟩) hHeld ?_ ?_
                     rotate_left
                     ·
                      rintro w' ⟨s0, s1, s2, s3, s4⟩
                      go_simp
                      with_reducible rfl
                     rotate_left
                     · simp only [Act.put, setIfInBounds_toArray, set_cons_zero, set_cons_succ, i64_w, i32_w]; rfl
                     refine pure_ (i := 9) (N := some 102) (v := ?_) (a' := ?_) #[true, true, true, true, true, true, true, true, true, true, false, false, false, false] rfl rfl (any_of HT_.out (by kernel_rfl)) (fun _ _ _ h => h) (Or.inl ⟨by rfl, ?_⟩) ?_ ?_
                     rotate_left
                     ·
                      intro w'
                      go_simp
                      with_reducible rfl
                     rotate_left
                     · simp only [Act.put, setIfInBounds_toArray, set_cons_zero, set_cons_succ, i64_w, i32_w]; rfl
                     refine take_ (i := 10) (N := some 103) (v := ?_) (a' := ?_) #[true, true, true, true, true, true, true, true, true, true, true, false, false, false] rfl rfl (take_ofW HT_.out HW_.out (by kernel_rfl)) (fun _ _ _ h => h) (Or.inl ⟨by rfl, ?_⟩) hHeld ?_ ?_
                     rotate_left
                     ·
                      rintro w' ⟨s0, s1, s2, s3, s4⟩
                      go_simp
                      with_reducible rfl
                     rotate_left
                     · simp only [Act.put, setIfInBounds_toArray, set_cons_zero, set_cons_succ, i64_w, i32_w]; rfl
                     refine pure_ (i := 11) (N := some 104) (v := ?_) (a' := ?_) #[true, true, true, true, true, true, true, true, true, true, true, true, false, false] rfl rfl (any_of HT_.out (by kernel_rfl)) (fun _ _ _ h => h) (Or.inl ⟨by rfl, ?_⟩) ?_ ?_
                     rotate_left
                     ·
                      intro w'
                      go_simp
                      with_reducible rfl
                     rotate_left
                     · simp only [Act.put, setIfInBounds_toArray, set_cons_zero, set_cons_succ, i64_w, i32_w]; rfl
                     refine pure_ (i := 12) (N := some 105) (v := ?_) (a' := ?_) #[true, true, true, true, true, true, true, true, true, true, true, true, true, false] rfl rfl (any_of HT_.out (by kernel_rfl)) (fun _ _ _ h => h) (Or.inl ⟨by rfl, ?_⟩) ?_ ?_
                     rotate_left
                     ·
                      intro w'
                      go_simp
                      with_reducible rfl
                     rotate_left
                     · simp only [Act.put, setIfInBounds_toArray, set_cons_zero, set_cons_succ, i64_w, i32_w]; rfl
                     refine last_ (i := 13) (N := none) #[true, true, true, true, true, true, true, true, true, true, true, true, true, true] rfl rfl (one_of HT_.out (by kernel_rfl)) (by decide) (fun K hK => ?_)
                     refine skip_ (w1 := ?_) (by rfl) rfl ?_ ?_
                     rotate_left
                     ·
                      go_simp
                      rfl
                     refine hK.out _ _ ?_
                     clear hK K
                     refine done_ (done_of HT_.out (by kernel_rfl)) ?_
                     have hcz57_0 : w54.cell? ⟨gb366, 0, none⟩ = some (.slice (some ad380) l1_0.length c1_0) := (blk_cell BK366.out 0).trans rfl
                     have hcz57_1 : w54.cell? ⟨gb366, 1, none⟩ = some (.slice A1_1 l1_1.length c1_1) := (blk_cell BK366.out 1).trans rfl
                     have hfz57_0 := blk_frozen BK366.out 0
                     have hfz57_1 := blk_frozen BK366.out 1
                     have p383 : 0 ≤ (x18_4 : Int) := of_decide_eq_true (zqD)
                     have q383 : x18_4 < (l1_0.length : Int) := of_decide_eq_true (zqD)
                     obtain ⟨ad383, A383_0, c383_0, e383, hx383_0, hl383_0, hi383_0⟩ := at_L6 HR1_0.out x18_4 p383 q383
                     obtain rfl : ad380 = ad383 := (by injection e383)
                     have hn383_0 : ad380.block ≠ go51 := Nat.ne_of_lt (Nat.lt_of_lt_of_le (by have := World.block_lt_of_cell? _ _ hx383_0; first | rwa [add_block] at this | exact this) GB51.out)
                     replace hx383_0 := (HB.out.cell (World.block_lt_of_cell? w _ hx383_0)).trans hx383_0
                     have HR383_0 := zA hi383_0
                     have HC383_0 := zA hl383_0
                     clear hi383_0 hl383_0
                     replace hx383_0 := (cell_far (p := ⟨go51, 0, none⟩) (by first | (rw [add_block]; exact hn383_0) | (show (Addr.add _ _).block ≠ _; rw [add_block]; exact hn383_0) | exact hn383_0) (.int .i64 (wrap64 ((rd x11_4 0) + (rd (rd_L6 l1_0 x18_4) x17_3))))).trans hx383_0
                     clear hn383_0; replace p383 := eq_true p383; replace q383 := eq_true q383
                     have p384 : 0 ≤ (x17_3 : Int) := of_decide_eq_true (zqD)
                     have q384 : x17_3 < ((rd_L6 l1_0 x18_4).length : Int) := of_decide_eq_true (zqD)
                     obtain ⟨ad384, e384, hx384_0⟩ := Kd.at_int HR383_0.out x17_3 p384 q384
                     cases e384
                     have hn384_0 : ad384.block ≠ go51 := Nat.ne_of_lt (Nat.lt_of_lt_of_le (by have := World.block_lt_of_cell? _ _ hx384_0; first | rwa [add_block] at this | exact this) GB51.out)
                     replace hx384_0 := (HB.out.cell (World.block_lt_of_cell? w _ hx384_0)).trans hx384_0
                     replace hx384_0 := (cell_far (p := ⟨go51, 0, none⟩) (by first | (rw [add_block]; exact hn384_0) | (show (Addr.add _ _).block ≠ _; rw [add_block]; exact hn384_0) | exact hn384_0) (.int .i64 (wrap64 ((rd x11_4 0) + (rd (rd_L6 l1_0 x18_4) x17_3))))).trans hx384_0
                     clear hn384_0; replace p384 := eq_true p384; replace q384 := eq_true q384
                     have hn366_ : gb366 ≠ go51 := (by have h_ := Kd.R_ne HO_11.out BK366.out (by decide); intro e_; exact h_ (by rw [e_]; rfl))
                     replace hcz57_0 := (cell_far (p := ⟨go51, 0, none⟩) hn366_ (.int .i64 (wrap64 ((rd x11_4 0) + (rd (rd_L6 l1_0 x18_4) x17_3))))).trans hcz57_0
                     clear hn366_
                     try go_wp2
                     go_roundg k4
                     case measure => have := HK1.out; have := HK2.out; have := HK3.out; have := HK4.out; omega
                     case rel => exact ⟨(y382), (wrap64 (x15_4 + (rd (rd_L6 l1_0 x18_4) x17_3))), (wrap64 (x18_4 + 1)), zqQ, zqQ, H', ⟨by have := HK1.out; have := HK2.out; have := HK3.out; have := HK4.out; omega⟩, ⟨zqC HQ56.out⟩, ⟨by (with_reducible repeat (first | apply Kd.R_alloc | apply Kd.R_drewN | apply Kd.R_drew)); exact Kd.R_mono (Kd.R_far (p := ⟨go51, 0, none⟩) (Kd.R_mono HO_12.out (fun k_ hk => (⟨hk, fun e_ => hk.1 (by rw [e_]; rfl)⟩ : _ ∧ k_ ≠ go51))) (fun _ hk => hk.2) (.int .i64 (wrap64 ((rd x11_4 0) + (rd (rd_L6 l1_0 x18_4) x17_3))))) (fun _ hk => ⟨hk.1.1, ⟨hk.1.2.1, hk.1.2.2⟩⟩)⟩, ⟨by (with_reducible repeat (first | apply Kd.R_alloc | apply Kd.R_drewN | apply Kd.R_drew)); exact Kd.R_mono (Kd.R_far (p := ⟨go51, 0, none⟩) (Kd.R_mono HO_13.out (fun k_ hk => (⟨hk, fun e_ => hk.1 (by rw [e_]; rfl)⟩ : _ ∧ k_ ≠ go51))) (fun _ hk => hk.2) (.int .i64 (wrap64 ((rd x11_4 0) + (rd (rd_L6 l1_0 x18_4) x17_3))))) (fun _ hk => ⟨hk.1.1, ⟨hk.1.2.1, hk.1.2.2⟩⟩)⟩, ⟨by (with_reducible repeat (first | apply Kd.R_alloc | apply Kd.R_drewN | apply Kd.R_drew)); exact Kd.R_mono (Kd.R_far (p := ⟨go51, 0, none⟩) (Kd.R_mono HO_14.out (fun k_ hk => (⟨hk, fun e_ => hk.1 (by rw [e_]; rfl)⟩ : _ ∧ k_ ≠ go51))) (fun _ hk => hk.2) (.int .i64 (wrap64 ((rd x11_4 0) + (rd (rd_L6 l1_0 x18_4) x17_3))))) (fun _ hk => ⟨hk.1.1, ⟨hk.1.2.1, hk.1.2.2⟩⟩)⟩, ⟨by (with_reducible repeat (first | refine blk_drewN ?_ _ | refine blk_drew ?_ | refine blk_alloc ?_ _)); refine blk_far ?_ (by have h_ := Kd.R_ne HO_11.out BK365.out (by decide); intro e_; exact h_ (by rw [e_]; rfl)) _; (with_reducible repeat (first | refine blk_drewN ?_ _ | refine blk_drew ?_ | refine blk_alloc ?_ _)); exact BK365.out⟩, ⟨by (with_reducible repeat (first | refine blk_drewN ?_ _ | refine blk_drew ?_ | refine blk_alloc ?_ _)); refine blk_far ?_ (by have h_ := Kd.R_ne HO_11.out BK366.out (by decide); intro e_; exact h_ (by rw [e_]; rfl)) _; (with_reducible repeat (first | refine blk_drewN ?_ _ | refine blk_drew ?_ | refine blk_alloc ?_ _)); exact BK366.out⟩, ⟨zqI HB.out GB51.out GE365.out GE366.out⟩⟩
                    ·
                     rw [if_neg c50] at H
                     exact absurd H (by simp)
                   ·
                    rw [if_neg c49] at H
                    exact absurd H (by simp)
                  ·
                   rw [if_neg c48] at H
                   exact absurd H (by simp)
                 ·
                  rw [if_neg c47] at H
                  exact absurd H (by simp)
                ·
                 rw [if_neg c46] at H
                 have c46b0 : decide (x18_4 < (l1_0.length : Int)) = false := decide_eq_false c46
                 clear c46
                 have H' := zA H
                 clear H
                 have hnb58 := NB366_365.out
                 have hnc58 := NB365_366.out
                 have hcz59_0 : wr.cell? ⟨gb366, 0, none⟩ = some (.slice A1_0 l1_0.length c1_0) := (blk_cell BK366.out 0).trans rfl
                 have hcz59_1 : wr.cell? ⟨gb366, 1, none⟩ = some (.slice A1_1 l1_1.length c1_1) := (blk_cell BK366.out 1).trans rfl
                 have hfz59_0 := blk_frozen BK366.out 0
                 have hfz59_1 := blk_frozen BK366.out 1
                 go_wp2
                 go_loopg [16, 19, 20] k4 (fun kq v16 v19 v20 w' => ∃ (x11_5 : List Int) (x16_5 : Int) (x19_5 : Int) (x20_5 : Int), v16 = .int .i64 x16_5 ∧ v19 = .int .i64 x19_5 ∧ v20 = .int .i64 x20_5 ∧ Aside0 (pianolaref04_Lacks.l4 kq t368 x11_5 x12_3 x13_3 x14_3 x15_4 x16_5 x17_3 x19_5 x20_5 l1_0 l1_1 = some (r1, r2, r3)) ∧ Aside0 (kq ≤ k4) ∧ Aside0 (Kd.R (Kd.int .i64) 3 w' w.heap.size (fun k_ => some k_ ≠ (u12 : Value).ownBlock ∧ some k_ ≠ (u13 : Value).ownBlock ∧ some k_ ≠ (u14 : Value).ownBlock) v377 x11_5) ∧ Aside0 (Kd.R (Kd.int .i64) 3 w' w.heap.size (fun k_ => some k_ ≠ (v377 : Value).ownBlock ∧ some k_ ≠ (u13 : Value).ownBlock ∧ some k_ ≠ (u14 : Value).ownBlock) u12 x12_3) ∧ Aside0 (Kd.R (Kd.int .i64) 3 w' w.heap.size (fun k_ => some k_ ≠ (v377 : Value).ownBlock ∧ some k_ ≠ (u12 : Value).ownBlock ∧ some k_ ≠ (u14 : Value).ownBlock) u13 x13_3) ∧ Aside0 (Kd.R (Kd.int .i64) 3 w' w.heap.size (fun k_ => some k_ ≠ (v377 : Value).ownBlock ∧ some k_ ≠ (u12 : Value).ownBlock ∧ some k_ ≠ (u13 : Value).ownBlock) u14 x14_3) ∧ Aside0 (w'.heap[gb365]? = some (.cells #[(.slice A0_0 l0_0.length c0_0), (.slice A0_1 l0_1.length c0_1)] 44 (0, 0))) ∧ Aside0 (w'.heap[gb366]? = some (.cells #[(.slice A1_0 l1_0.length c1_0), (.slice A1_1 l1_1.length c1_1)] 61 (0, 0))) ∧ Aside0 (Below w.heap.size w w'))
                 case atStart => exact ⟨(x11_4), (x16_3), (0), (0), zqQ, zqQ, zqQ, H', ⟨Nat.le_refl _⟩, ⟨zqC HO_11.out⟩, ⟨zqC HO_12.out⟩, ⟨zqC HO_13.out⟩, ⟨zqC HO_14.out⟩, ⟨zqB BK365.out⟩, ⟨zqB BK366.out⟩, ⟨zqH HB.out GE365.out GE366.out⟩⟩
                 case round =>
                  clear H'
                  try clear c1
                  try clear c2
                  try clear p2
                  try clear c3
                  try clear p3
                  try clear q3
                  try clear hx3
                  try clear qi3
                  try clear c4
                  try clear c4b0
                  try clear c4b1
                  try clear c5
                  try clear p5
                  try clear q5
                  try clear hx5
                  try clear qi5
                  try clear hf5
                  try clear c6
                  try clear c6b0
                  try clear c6b1
                  try clear p6
                  try clear c7
                  try clear c9
                  try clear c15
                  try clear c15b0
                  try clear c16
                  try clear c16b0
                  try clear c17
                  try clear c17b0
                  try clear c19
                  try clear c20
                  try clear c23
                  try clear c26
                  try clear c28
                  try clear c28b0
                  try clear c29
                  try clear c29b0
                  try clear c30
                  try clear c30b0
                  try clear c32
                  try clear c33
                  try clear c36
                  try clear c37
                  try clear p37
                  try clear q37
                  try clear hx37
                  try clear qi37
                  try clear c38
                  try clear p38
                  try clear q38
                  try clear hx38
                  try clear c39
                  try clear c39b0
                  try clear c39b1
                  try clear c40
                  try clear c40b0
                  try clear c40b1
                  try clear c41
                  try clear c45
                  try clear c45b0
                  try clear c46
                  try clear c46b0
                  try clear c47
                  try clear c47b0
                  try clear c47b1
                  try clear c48
                  try clear c48b0
                  try clear c49
                  try clear c49b0
                  try clear c50
                  try clear c50b0
                  try clear p51
                  try clear q51
                  try clear hx51
                  try clear qi51
                  try clear hf51
                  try clear c52
                  try clear c58
                  try clear hcz10_0
                  try clear hcz10_1
                  try clear hcz12_0
                  try clear hcz12_1
                  try clear hcz13_0
                  try clear hcz13_1
                  try clear hcz21_0
                  try clear hcz21_1
                  try clear hcz24_0
                  try clear hcz24_1
                  try clear hcz27_0
                  try clear hcz27_1
                  try clear hcz34_0
                  try clear hcz34_1
                  try clear hcz37_0
                  try clear hcz37_1
                  try clear hcz42_0
                  try clear hcz42_1
                  try clear hcz53_0
                  try clear hcz53_1
                  try clear hcz57_0
                  try clear hcz57_1
                  try clear hcz59_0
                  try clear hcz59_1
                  try clear hfz10_0
                  try clear hfz10_1
                  try clear hfz12_0
                  try clear hfz12_1
                  try clear hfz13_0
                  try clear hfz13_1
                  try clear hfz21_0
                  try clear hfz21_1
                  try clear hfz24_0
                  try clear hfz24_1
                  try clear hfz27_0
                  try clear hfz27_1
                  try clear hfz34_0
                  try clear hfz34_1
                  try clear hfz37_0
                  try clear hfz37_1
                  try clear hfz42_0
                  try clear hfz42_1
                  try clear hfz53_0
                  try clear hfz53_1
                  try clear hfz57_0
                  try clear hfz57_1
                  try clear hfz59_0
                  try clear hfz59_1
                  try clear hx370_0
                  try clear hx371_0
                  try clear hx373_0
                  try clear hx374_0
                  try clear hx379_0
                  try clear hx380_0
                  try clear hx381_0
                  try clear hx383_0
                  try clear hx384_0
                  try clear hx51_0
                  try clear p2
                  try clear p3
                  try clear p37
                  try clear p370
                  try clear p371
                  try clear p373
                  try clear p374
                  try clear p379
                  try clear p380
                  try clear p381
                  try clear p383
                  try clear p384
                  try clear p51
                  try clear p6
                  try clear q3
                  try clear q37
                  try clear q370
                  try clear q371
                  try clear q373
                  try clear q374
                  try clear q379
                  try clear q380
                  try clear q381
                  try clear q383
                  try clear q384
                  try clear q51
                  obtain ⟨x11_5, x16_5, x19_5, x20_5, rfl, rfl, rfl, HA, HK5, HO_11, HO_12, HO_13, HO_14, BK365, BK366, HB⟩ := hrel
                  cases gk with
                  | zero => exact absurd HA.out (by simp [pianolaref04_Lacks.l4])
                  | succ k5 =>
                   have H := HA.out
                   clear HA
                   simp only [pianolaref04_Lacks.l4] at H
                   by_cases c60 : x20_5 < (x11_5.length : Int)
                   ·
                    rw [if_pos c60] at H
                    have c60b0 : decide (x20_5 < (x11_5.length : Int)) = true := decide_eq_true c60
                    clear c60
                    by_cases c61 : 0 ≤ x20_5
                    ·
                     rw [if_pos c61] at H
                     have c61b0 : decide (0 ≤ x20_5) = true := decide_eq_true c61
                     clear c61
                     by_cases c62 : x20_5 < (l1_1.length : Int)
                     ·
                      rw [if_pos c62] at H
                      have c62b0 : decide (x20_5 < (l1_1.length : Int)) = true := decide_eq_true c62
                      clear c62
                      by_cases c63 : 0 ≤ x17_3
                      ·
                       rw [if_pos c63] at H
                       have c63b0 : decide (0 ≤ x17_3) = true := decide_eq_true c63
                       clear c63
                       by_cases c64 : x17_3 < ((rd_L6 l1_1 x20_5).length : Int)
                       ·
                        rw [if_pos c64] at H
                        have c64b0 : decide (x17_3 < ((rd_L6 l1_1 x20_5).length : Int)) = true := decide_eq_true c64
                        clear c64
                        obtain ⟨ji65, hji65⟩ : ∃ j_ : Int, (mn (rd x11_5 x20_5) (rd (rd_L6 l1_1 x20_5) x17_3)) = j_ := ⟨_, rfl⟩
                        replace H : ((some (x11_5.set (x20_5 : Int).toNat (wrap64 ((rd x11_5 x20_5) - (ji65))) : List Int)).bind fun y389 => (if (wrap64 (x20_5 + 1)) < (x11_5.length : Int) then (if 0 ≤ (wrap64 (x20_5 + 1)) then ((some (y389.set ((wrap64 (x20_5 + 1)) : Int).toNat (wrap64 ((rd y389 (wrap64 (x20_5 + 1))) + (ji65))) : List Int)).bind fun y391 => (pianolaref04_Lacks.l4 k5 t368 y391 x12_3 x13_3 x14_3 x15_4 x16_5 x17_3 (wrap64 (x19_5 + (rd y391 x20_5))) (wrap64 (x20_5 + 1)) l1_0 l1_1)) else (none)) else (pianolaref04_Lacks.l4 k5 t368 y389 x12_3 x13_3 x14_3 x15_4 (wrap64 (x16_5 + (ji65))) x17_3 (wrap64 (x19_5 + (rd y389 x20_5))) (wrap64 (x20_5 + 1)) l1_0 l1_1))) = some (r1, r2, r3) := by first | (rw [hji65] at H; exact H) | (simp only [hji65] at H ⊢; exact H)
                        have hji65_ : (if (rd (rd_L6 l1_1 x20_5) x17_3) < (rd x11_5 x20_5) then (rd (rd_L6 l1_1 x20_5) x17_3) else (rd x11_5 x20_5)) = ji65 := hji65
                        obtain ⟨y389, hy389⟩ : ∃ y_ : List Int, y_ = (x11_5.set (x20_5 : Int).toNat (wrap64 ((rd x11_5 x20_5) - (ji65)))) := ⟨_, rfl⟩
                        replace H : (if (wrap64 (x20_5 + 1)) < (x11_5.length : Int) then (if 0 ≤ (wrap64 (x20_5 + 1)) then ((some (y389.set ((wrap64 (x20_5 + 1)) : Int).toNat (wrap64 ((rd y389 (wrap64 (x20_5 + 1))) + (ji65))) : List Int)).bind fun y391 => (pianolaref04_Lacks.l4 k5 t368 y391 x12_3 x13_3 x14_3 x15_4 x16_5 x17_3 (wrap64 (x19_5 + (rd y391 x20_5))) (wrap64 (x20_5 + 1)) l1_0 l1_1)) else (none)) else (pianolaref04_Lacks.l4 k5 t368 y389 x12_3 x13_3 x14_3 x15_4 (wrap64 (x16_5 + (ji65))) x17_3 (wrap64 (x19_5 + (rd y389 x20_5))) (wrap64 (x20_5 + 1)) l1_0 l1_1)) = some (r1, r2, r3) := zqF hy389 H
                        have Ny389 := zA hy389
                        clear hy389
                        have H' := zA H
                        clear H
                        obtain ⟨Ao71, co71, eo71⟩ := Kd.R_slice HO_11.out
                        subst eo71
                        try go_wp2
                        have n0_ := zA (Kd.R_drew HO_11.out); have n1_ := zA (Kd.R_drew HO_12.out); have n2_ := zA (Kd.R_drew HO_13.out); have n3_ := zA (Kd.R_drew HO_14.out); have n4_ := zA (blk_drew BK365.out); have n5_ := zA (blk_drew BK366.out); have n6_ := zA (below_drew1 HB.out); clear HO_11 HO_12 HO_13 HO_14 BK365 BK366 HB; have HO_11 := n0_; have HO_12 := n1_; have HO_13 := n2_; have HO_14 := n3_; have BK365 := n4_; have BK366 := n5_; have HB := n6_; clear n0_ n1_ n2_ n3_ n4_ n5_ n6_
                        have p385 : 0 ≤ (x20_5 : Int) := of_decide_eq_true (zqD)
                        have q385 : x20_5 < (x11_5.length : Int) := of_decide_eq_true (zqD)
                        obtain ⟨ad385, e385, hx385_0⟩ := Kd.at_int (Kd.R_reads' HO_11.out).2.2 x20_5 p385 q385
                        cases e385; replace p385 := eq_true p385; replace q385 := eq_true q385
                        have p386 : 0 ≤ (x20_5 : Int) := of_decide_eq_true (zqD)
                        have q386 : x20_5 < (l1_1.length : Int) := of_decide_eq_true (zqD)
                        obtain ⟨ad386, A386_0, c386_0, e386, hx386_0, hl386_0, hi386_0⟩ := at_L6 HR1_1.out x20_5 p386 q386
                        have hw386_0 := hx386_0; cases e386
                        replace hx386_0 := (HB.out.cell (World.block_lt_of_cell? w _ hx386_0)).trans hx386_0
                        have HR386_0 := zA hi386_0
                        have HC386_0 := zA hl386_0
                        clear hi386_0 hl386_0; replace p386 := eq_true p386; replace q386 := eq_true q386
                        have p387 : 0 ≤ (x17_3 : Int) := of_decide_eq_true (zqD)
                        have q387 : x17_3 < ((rd_L6 l1_1 x20_5).length : Int) := of_decide_eq_true (zqD)
                        obtain ⟨ad387, e387, hx387_0⟩ := Kd.at_int HR386_0.out x17_3 p387 q387
                        have hw387_0 := hx387_0; cases e387
                        replace hx387_0 := (HB.out.cell (World.block_lt_of_cell? w _ hx387_0)).trans hx387_0
                        replace p387 := eq_true p387; replace q387 := eq_true q387
                        refine start_ (n := 14) (S := fun w' => w'.cell? ⟨gb366, 0, none⟩ = some (.slice A1_0 l1_0.length c1_0) ∧ w'.cell? ⟨gb366, 1, none⟩ = some (.slice (some ad386) l1_1.length c1_1) ∧ w'.cell? (ad385.add (x20_5).toNat) = some (.int .i64 (rd x11_5 x20_5)) ∧ w'.cell? (ad386.add (x20_5).toNat) = some (.slice (some ad387) (rd_L6 l1_1 x20_5).length c386_0) ∧ w'.cell? (ad387.add (x17_3).toNat) = some (.int .i64 (rd (rd_L6 l1_1 x20_5) x17_3))) (ds := []) #[false, false, false, false, false, false, false, false, false, false, false, false, false, false] (by kernel_rfl) rfl rfl ⟨(blk_cell BK366.out 0).trans rfl, (blk_cell BK366.out 1).trans rfl, hx385_0, ((HB.out.cell (World.block_lt_of_cell? w _ hw386_0)).trans hw386_0), ((HB.out.cell (World.block_lt_of_cell? w _ hw387_0)).trans hw387_0)⟩ (fun hHeld => ?_); refine with_tabW pianolaref04_Lacks.tab32 pianolaref04_Lacks.bits32 (fun HT_ HW_ => ?_)
                        generalize wr.drew = w72 at HO_11 HO_12 HO_13 HO_14 BK365 BK366 HB HR386_0 hx385_0 hx386_0 hx387_0 hHeld ⊢
                        refine pure_ (i := 0) (N := some 122) (v := ?_) (a' := ?_) #[true, false, false, false, false, false, false, false, false, false, false, false, false, false] rfl rfl (any_of HT_.out (by kernel_rfl)) (fun _ _ _ h => h) (Or.inl ⟨by rfl, ?_⟩) ?_ ?_
                        rotate_left
                        ·
                         intro w'
                         go_simp
                         with_reducible rfl
                        rotate_left
                        · simp only [Act.put, setIfInBounds_toArray, set_cons_zero, set_cons_succ, i64_w, i32_w]; rfl
                        refine pure_ (i := 1) (N := some 123) (v := ?_) (a' := ?_) #[true, true, false, false, false, false, false, false, false, false, false, false, false, false] rfl rfl (any_of HT_.out (by kernel_rfl)) (fun _ _ _ h => h) (Or.inl ⟨by rfl, ?_⟩) ?_ ?_
                        rotate_left
                        ·
                         intro w'
                         go_simp
                         with_reducible rfl
                        rotate_left
                        · simp only [Act.put, setIfInBounds_toArray, set_cons_zero, set_cons_succ, i64_w, i32_w]; rfl
                        refine pure_ (i := 2) (N := some 124) (v := ?_) (a' := ?_) #[true, true, true, false, false, false, false, false, false, false, false, false, false, false] rfl rfl (any_of HT_.out (by kernel_rfl)) (fun _ _ _ h => h) (Or.inl ⟨by rfl, ?_⟩) ?_ ?_
                        rotate_left
                        ·
                         intro w'
                         go_simp
                         with_reducible rfl
                        rotate_left
                        · simp only [Act.put, setIfInBounds_toArray, set_cons_zero, set_cons_succ, i64_w, i32_w]; rfl
                        refine pure_ (i := 4) (N := some 126) (v := ?_) (a' := ?_) #[true, true, true, false, true, false, false, false, false, false, false, false, false, false] rfl rfl (any_of HT_.out (by kernel_rfl)) (fun _ _ _ h => h) (Or.inl ⟨by rfl, ?_⟩) ?_ ?_
                        rotate_left
                        ·
                         intro w'
                         go_simp
                         with_reducible rfl
                        rotate_left
                        · simp only [Act.put, setIfInBounds_toArray, set_cons_zero, set_cons_succ, i64_w, i32_w]; rfl
                        refine pure_ (i := 6) (N := some 128) (v := ?_) (a' := ?_) #[true, true, true, false, true, false, true, false, false, false, false, false, false, false] rfl rfl (any_of HT_.out (by kernel_rfl)) (fun _ _ _ h => h) (Or.inl ⟨by rfl, ?_⟩) ?_ ?_
                        rotate_left
                        ·
                         intro w'
                         go_simp
                         with_reducible rfl
                        rotate_left
                        · simp only [Act.put, setIfInBounds_toArray, set_cons_zero, set_cons_succ, i64_w, i32_w]; rfl
                        refine pure_ (i := 9) (N := some 131) (v := ?_) (a' := ?_) #[true, true, true, false, true, false, true, false, false, true, false, false, false, false] rfl rfl (any_of HT_.out (by kernel_rfl)) (fun _ _ _ h => h) (Or.inl ⟨by rfl, ?_⟩) ?_ ?_
                        rotate_left
                        ·
                         intro w'
                         go_simp
                         with_reducible rfl
                        rotate_left
                        · simp only [Act.put, setIfInBounds_toArray, set_cons_zero, set_cons_succ, i64_w, i32_w]; rfl
                        refine take_ (i := 3) (N := some 125) (v := ?_) (a' := ?_) #[true, true, true, true, true, false, true, false, false, true, false, false, false, false] rfl rfl (take_ofW HT_.out HW_.out (by kernel_rfl)) (fun _ _ _ h => h) (Or.inl ⟨by rfl, ?_⟩) hHeld ?_ ?_
                        rotate_left
                        ·
                         rintro w' ⟨s0, s1, s2, s3, s4⟩
                         go_simp
                         with_reducible rfl
                        rotate_left
                        · simp only [Act.put, setIfInBounds_toArray, set_cons_zero, set_cons_succ, i64_w, i32_w]; rfl
                        refine take_ (i := 5) (N := some 127) (v := ?_) (a' := ?_) #[true, true, true, true, true, true, true, false, false, true, false, false, false, false] rfl rfl (take_ofW HT_.out HW_.out (by kernel_rfl)) (fun _ _ _ h => h) (Or.inl ⟨by rfl, ?_⟩) hHeld ?_ ?_
                        rotate_left
                        ·
                         rintro w' ⟨s0, s1, s2, s3, s4⟩
                         go_simp
                         with_reducible rfl
                        rotate_left
                        · simp only [Act.put, setIfInBounds_toArray, set_cons_zero, set_cons_succ, i64_w, i32_w]; rfl
                        refine pure_ (i := 7) (N := some 129) (v := ?_) (a' := ?_) #[true, true, true, true, true, true, true, true, false, true, false, false, false, false] rfl rfl (any_of HT_.out (by kernel_rfl)) (fun _ _ _ h => h) (Or.inl ⟨by rfl, ?_⟩) ?_ ?_
                        rotate_left
                        ·
                         intro w'
                         go_simp
                         with_reducible rfl
                        rotate_left
                        · simp only [Act.put, setIfInBounds_toArray, set_cons_zero, set_cons_succ, i64_w, i32_w]; rfl
                        refine take_ (i := 8) (N := some 130) (v := ?_) (a' := ?_) #[true, true, true, true, true, true, true, true, true, true, false, false, false, false] rfl rfl (take_ofW HT_.out HW_.out (by kernel_rfl)) (fun _ _ _ h => h) (Or.inl ⟨by rfl, ?_⟩) hHeld ?_ ?_
                        rotate_left
                        ·
                         rintro w' ⟨s0, s1, s2, s3, s4⟩
                         go_simp
                         with_reducible rfl
                        rotate_left
                        · simp only [Act.put, setIfInBounds_toArray, set_cons_zero, set_cons_succ, i64_w, i32_w]; rfl
                        refine pure_ (i := 10) (N := some 132) (v := ?_) (a' := ?_) #[true, true, true, true, true, true, true, true, true, true, true, false, false, false] rfl rfl (any_of HT_.out (by kernel_rfl)) (fun _ _ _ h => h) (Or.inl ⟨by rfl, ?_⟩) ?_ ?_
                        rotate_left
                        ·
                         intro w'
                         go_simp
                         with_reducible rfl
                        rotate_left
                        · simp only [Act.put, setIfInBounds_toArray, set_cons_zero, set_cons_succ, i64_w, i32_w]; rfl
                        refine take_ (i := 11) (N := some 133) (v := ?_) (a' := ?_) #[true, true, true, true, true, true, true, true, true, true, true, true, false, false] rfl rfl (take_ofW HT_.out HW_.out (by kernel_rfl)) (fun _ _ _ h => h) (Or.inl ⟨by rfl, ?_⟩) hHeld ?_ ?_
                        rotate_left
                        ·
                         rintro w' ⟨s0, s1, s2, s3, s4⟩
                         go_simp
                         with_reducible rfl
                        rotate_left
                        · simp only [Act.put, setIfInBounds_toArray, set_cons_zero, set_cons_succ, i64_w, i32_w]; rfl
                        refine pure_ (i := 12) (N := some 134) (v := ?_) (a' := ?_) #[true, true, true, true, true, true, true, true, true, true, true, true, true, false] rfl rfl (any_of HT_.out (by kernel_rfl)) (fun _ _ _ h => h) (Or.inl ⟨by rfl, ?_⟩) ?_ ?_
                        rotate_left
                        ·
                         intro w'
                         go_simp
                         with_reducible rfl
                        rotate_left
                        · simp only [Act.put, setIfInBounds_toArray, set_cons_zero, set_cons_succ, i64_w, i32_w]; rfl
                        refine pure_ (i := 13) (N := some 21) (v := ?_) (a' := ?_) #[true, true, true, true, true, true, true, true, true, true, true, true, true, true] rfl rfl (any_of HT_.out (by kernel_rfl)) (fun _ _ _ h => h) (Or.inl ⟨by rfl, ?_⟩) ?_ ?_
                        rotate_left
                        ·
                         intro w'
                         go_simp
                         with_reducible rfl
                        rotate_left
                        · simp only [Act.put, setIfInBounds_toArray, set_cons_zero, set_cons_succ, i64_w, i32_w]; rfl
                        refine done_ (done_of HT_.out (by kernel_rfl)) ?_
                        have H := H'.out
                        clear H'
                        by_cases c67 : (wrap64 (x20_5 + 1)) < (x11_5.length : Int)
                        ·
                         rw [if_pos c67] at H
                         have c67b0 : decide ((wrap64 (x20_5 + 1)) < (x11_5.length : Int)) = true := decide_eq_true c67
                         clear c67
                         obtain ⟨ji68, hji68⟩ : ∃ j_ : Int, (wrap64 (x20_5 + 1)) = j_ := ⟨_, rfl⟩
                         replace H : (if 0 ≤ (ji68) then ((some (y389.set ((ji68) : Int).toNat (wrap64 ((rd y389 (ji68)) + (ji65))) : List Int)).bind fun y391 => (pianolaref04_Lacks.l4 k5 t368 y391 x12_3 x13_3 x14_3 x15_4 x16_5 x17_3 (wrap64 (x19_5 + (rd y391 x20_5))) ji68 l1_0 l1_1)) else (none)) = some (r1, r2, r3) := by first | (rw [hji68] at H; exact H) | (simp only [hji68] at H ⊢; exact H)
                         (try rw [hji68] at c67b0)
                         have hji68w : (IntKind.i64.wrap (x20_5 + 1)) = ji68 := (i64_w _).trans hji68
                         by_cases c69 : 0 ≤ (ji68)
                         ·
                          rw [if_pos c69] at H
                          have c69b0 : decide (0 ≤ (ji68)) = true := decide_eq_true c69
                          clear c69
                          obtain ⟨y391, hy391⟩ : ∃ y_ : List Int, y_ = (y389.set ((ji68) : Int).toNat (wrap64 ((rd y389 (ji68)) + (ji65)))) := ⟨_, rfl⟩
                          replace H : (pianolaref04_Lacks.l4 k5 t368 y391 x12_3 x13_3 x14_3 x15_4 x16_5 x17_3 (wrap64 (x19_5 + (rd y391 x20_5))) ji68 l1_0 l1_1) = some (r1, r2, r3) := zqF hy391 H
                          have Ny391 := zA hy391
                          clear hy391
                          have H' := zA H
                          clear H
                          have p388 : 0 ≤ (x20_5 : Int) := of_decide_eq_true (zqD)
                          have q388 : x20_5 < (x11_5.length : Int) := of_decide_eq_true (zqD)
                          obtain ⟨ad388, e388, hx388_0⟩ := Kd.at_int (Kd.R_reads' HO_11.out).2.2 x20_5 p388 q388
                          obtain rfl : ad385 = ad388 := (by injection e388)
                          replace p388 := eq_true p388; replace q388 := eq_true q388
                          have p66 : 0 ≤ (x20_5 : Int) := of_decide_eq_true (zqD)
                          have q66 : (x20_5 : Int) < ((x11_5.length : Int) : Int) := of_decide_eq_true (zqD)
                          obtain ⟨go66, co66, eo66, gb66, gl66, cl66, HG66⟩ := Kd.R_form HO_11.out (by omega)
                          (first | cases eo66 | (injection eo66 with ea_ en_ ec_; (first | subst ea_ | (injection ea_ with ea_; subst ea_)); subst ec_; clear en_))
                          have GB66 := zA gb66
                          have GG66 := zA HG66
                          clear gb66 gl66 HG66
                          (first | simp only [add_plain] at hx385_0 | skip)
                          (first | simp only [add_plain] at hx388_0 | skip)
                          obtain ⟨hx66_0, hf66_0⟩ := Kd.R_celln 0 HO_11.out (x20_5 : Int) p66 q66
                          replace p66 := eq_true p66; replace q66 := eq_true q66
                          obtain ⟨hy73_, hz73_⟩ := Kd.R_celln 0 HO_11.out (x20_5 : Int) (of_decide_eq_true (zqD)) (of_decide_eq_true (zqD))
                          have HP73 := Kd.R_putg HO_11.out (x20_5 : Int) (wrap64 ((rd x11_5 x20_5) - (ji65)))
                          try go_wp2_with (first | ((with_reducible refine gate_store (t := 3) (p := 141) rfl ?_); refine store_event (t := 3) (p := 141) (v := ?vo_w74) (w1 := (w72.setCell ⟨go66, (x20_5 : Int).toNat, none⟩ (.int .i64 (wrap64 ((rd x11_5 x20_5) - (ji65)))))) ?hg ?ho ?hn ?hr ?_; (case ho => rfl); (case hg => rfl); (case hn => rfl); (case hr => first | (go_simp; done) | (go_simp; rfl)); intro w74 hw; have hg : w72.grownBy w74 (some go66) := (by rw [hw]; exact HP73.2); have hp_ : Kd.R (Kd.int .i64) 3 w74 w.heap.size (fun k_ => some k_ ≠ (u12 : Value).ownBlock ∧ some k_ ≠ (u13 : Value).ownBlock ∧ some k_ ≠ (u14 : Value).ownBlock) (.slice (some ⟨go66, 0, none⟩) x11_5.length co71) y389 := (by rw [hw, Ny389.out]; exact HP73.1); clear HP73; have n0_ := zA (hp_); have n1_ := zA (Kd.R_after (v := (.slice (some ⟨go66, 0, none⟩) x11_5.length co71)) (v1 := (.slice (some ⟨go66, 0, none⟩) x11_5.length co71)) (ok := (fun k_ => some k_ ≠ (u13 : Value).ownBlock ∧ some k_ ≠ (u14 : Value).ownBlock)) (by (with_reducible repeat (first | apply Kd.R_alloc | apply Kd.R_drewN | apply Kd.R_drew)); exact Kd.R_mono HO_12.out (fun _ hk => ⟨⟨hk.2.1, hk.2.2⟩, hk.1⟩)) hg (.inl rfl)); have n2_ := zA (Kd.R_after (v := (.slice (some ⟨go66, 0, none⟩) x11_5.length co71)) (v1 := (.slice (some ⟨go66, 0, none⟩) x11_5.length co71)) (ok := (fun k_ => some k_ ≠ (u12 : Value).ownBlock ∧ some k_ ≠ (u14 : Value).ownBlock)) (by (with_reducible repeat (first | apply Kd.R_alloc | apply Kd.R_drewN | apply Kd.R_drew)); exact Kd.R_mono HO_13.out (fun _ hk => ⟨⟨hk.2.1, hk.2.2⟩, hk.1⟩)) hg (.inl rfl)); have n3_ := zA (Kd.R_after (v := (.slice (some ⟨go66, 0, none⟩) x11_5.length co71)) (v1 := (.slice (some ⟨go66, 0, none⟩) x11_5.length co71)) (ok := (fun k_ => some k_ ≠ (u12 : Value).ownBlock ∧ some k_ ≠ (u13 : Value).ownBlock)) (by (with_reducible repeat (first | apply Kd.R_alloc | apply Kd.R_drewN | apply Kd.R_drew)); exact Kd.R_mono HO_14.out (fun _ hk => ⟨⟨hk.2.1, hk.2.2⟩, hk.1⟩)) hg (.inl rfl)); have n4_ := zA (blk_grown (g := gb365) (o := .cells #[.slice A0_0 l0_0.length c0_0, .slice A0_1 l0_1.length c0_1] 44 (0, 0)) (zqB BK365.out) hg (Kd.R_ne HO_11.out BK365.out (by decide))); have n5_ := zA (blk_grown (g := gb366) (o := .cells #[.slice A1_0 l1_0.length c1_0, .slice (some ad386) l1_1.length c1_1] 61 (0, 0)) (zqB BK366.out) hg (Kd.R_ne HO_11.out BK366.out (by decide))); have n6_ := zA ((by rw [hw]; exact below_set (HB.out) GB66.out : Below w.heap.size w w74)); clear HO_11; clear HO_12; clear HO_13; clear HO_14; clear BK365; clear BK366; clear HB; have HO_11 := n0_; have HO_12 := n1_; have HO_13 := n2_; have HO_14 := n3_; have BK365 := n4_; have BK366 := n5_; have HB := n6_; clear n0_ n1_ n2_ n3_ n4_ n5_ n6_; clear hg hw hp_; have p390 : 0 ≤ ((ji68) : Int) := of_decide_eq_true (zqD); have q390 : (ji68) < (y389.length : Int) := (by have h_ : ((ji68) : Int) < ((x11_5.length : Int) : Int) := of_decide_eq_true (zqD); first | (have e_ := (Kd.R_reads' HO_11.out).1; omega) | simpa only [Ny389.out, List.length_set] using h_); have ql390 : (((ji68) : Int) < ((x11_5.length : Int) : Int)) = True := eq_true (of_decide_eq_true (zqD)); obtain ⟨ad390, e390, hx390_0⟩ := Kd.at_int (Kd.R_reads' HO_11.out).2.2 (ji68) p390 q390; obtain rfl : (⟨go66, 0, none⟩ : Addr) = ad390 := (by injection e390); (first | simp only [add_plain] at hx390_0 | simp only [add_at] at hx390_0 | simp only [Addr.add, Nat.zero_add] at hx390_0 | skip); replace p390 := eq_true p390; replace q390 := eq_true q390; have p70 : 0 ≤ ((ji68) : Int) := of_decide_eq_true (zqD); have q70 : ((ji68) : Int) < ((x11_5.length : Int) : Int) := of_decide_eq_true (zqD); obtain ⟨hx70_0, hf70_0⟩ := Kd.R_celln 0 HO_11.out ((ji68) : Int) p70 q70; replace p70 := eq_true p70; replace q70 := eq_true q70; obtain ⟨hy75_, hz75_⟩ := Kd.R_celln 0 HO_11.out ((ji68) : Int) (of_decide_eq_true (zqD)) (of_decide_eq_true (zqD)); have HP75 := Kd.R_putg HO_11.out ((ji68) : Int) (wrap64 ((rd y389 (ji68)) + (ji65)))) | ((with_reducible refine gate_store (t := 3) (p := 154) rfl ?_); refine store_event (t := 3) (p := 154) (v := ?vo_w76) (w1 := (w74.setCell ⟨go66, ((ji68) : Int).toNat, none⟩ (.int .i64 (wrap64 ((rd y389 (ji68)) + (ji65)))))) ?hg ?ho ?hn ?hr ?_; (case ho => rfl); (case hg => rfl); (case hn => rfl); (case hr => first | (go_simp; done) | (go_simp; rfl)); intro w76 hw; have hg : w74.grownBy w76 (some go66) := (by rw [hw]; exact HP75.2); have hp_ : Kd.R (Kd.int .i64) 3 w76 w.heap.size (fun k_ => some k_ ≠ (u12 : Value).ownBlock ∧ some k_ ≠ (u13 : Value).ownBlock ∧ some k_ ≠ (u14 : Value).ownBlock) (.slice (some ⟨go66, 0, none⟩) x11_5.length co71) y391 := (by rw [hw, Ny391.out]; exact HP75.1); clear HP75; have n0_ := zA (hp_); have n1_ := zA (Kd.R_after (v := (.slice (some ⟨go66, 0, none⟩) x11_5.length co71)) (v1 := (.slice (some ⟨go66, 0, none⟩) x11_5.length co71)) (ok := (fun k_ => some k_ ≠ (u13 : Value).ownBlock ∧ some k_ ≠ (u14 : Value).ownBlock)) (zqC HO_12.out) hg (.inl rfl)); have n2_ := zA (Kd.R_after (v := (.slice (some ⟨go66, 0, none⟩) x11_5.length co71)) (v1 := (.slice (some ⟨go66, 0, none⟩) x11_5.length co71)) (ok := (fun k_ => some k_ ≠ (u12 : Value).ownBlock ∧ some k_ ≠ (u14 : Value).ownBlock)) (zqC HO_13.out) hg (.inl rfl)); have n3_ := zA (Kd.R_after (v := (.slice (some ⟨go66, 0, none⟩) x11_5.length co71)) (v1 := (.slice (some ⟨go66, 0, none⟩) x11_5.length co71)) (ok := (fun k_ => some k_ ≠ (u12 : Value).ownBlock ∧ some k_ ≠ (u13 : Value).ownBlock)) (zqC HO_14.out) hg (.inl rfl)); have n4_ := zA (blk_grown (g := gb365) (o := .cells #[.slice A0_0 l0_0.length c0_0, .slice A0_1 l0_1.length c0_1] 44 (0, 0)) (zqB BK365.out) hg (Kd.R_ne HO_11.out BK365.out (by decide))); have n5_ := zA (blk_grown (g := gb366) (o := .cells #[.slice A1_0 l1_0.length c1_0, .slice (some ad386) l1_1.length c1_1] 61 (0, 0)) (zqB BK366.out) hg (Kd.R_ne HO_11.out BK366.out (by decide))); have n6_ := zA ((by rw [hw]; exact below_set (HB.out) GB66.out : Below w.heap.size w w76)); clear HO_11; clear HO_12; clear HO_13; clear HO_14; clear BK365; clear BK366; clear HB; have HO_11 := n0_; have HO_12 := n1_; have HO_13 := n2_; have HO_14 := n3_; have BK365 := n4_; have BK366 := n5_; have HB := n6_; clear n0_ n1_ n2_ n3_ n4_ n5_ n6_; clear hg hw hp_; have p392 : 0 ≤ (x20_5 : Int) := of_decide_eq_true (zqD); have q392 : x20_5 < (y391.length : Int) := (by have h_ : (x20_5 : Int) < ((x11_5.length : Int) : Int) := of_decide_eq_true (zqD); first | (have e_ := (Kd.R_reads' HO_11.out).1; omega) | simpa only [Ny389.out, Ny391.out, List.length_set] using h_); have ql392 : ((x20_5 : Int) < ((x11_5.length : Int) : Int)) = True := eq_true (of_decide_eq_true (zqD)); obtain ⟨ad392, e392, hx392_0⟩ := Kd.at_int (Kd.R_reads' HO_11.out).2.2 x20_5 p392 q392; obtain rfl : (⟨go66, 0, none⟩ : Addr) = ad392 := (by injection e392); (first | simp only [add_plain] at hx392_0 | simp only [add_at] at hx392_0 | simp only [Addr.add, Nat.zero_add] at hx392_0 | skip); replace p392 := eq_true p392; replace q392 := eq_true q392))
                          go_roundg k5
                          case measure => have := HK1.out; have := HK2.out; have := HK3.out; have := HK4.out; have := HK5.out; omega
                          case rel => exact ⟨(y391), (x16_5), (wrap64 (x19_5 + (rd y391 x20_5))), (ji68), zqQ, zqQ, (by first | rfl | (simp; done) | (simp only [← hji68] <;> (first | rfl | simp)) | (simp [*]; done)), H', ⟨by have := HK1.out; have := HK2.out; have := HK3.out; have := HK4.out; have := HK5.out; omega⟩, ⟨zqC HO_11.out⟩, ⟨by (with_reducible repeat (first | apply Kd.R_alloc | apply Kd.R_drewN | apply Kd.R_drew)); exact Kd.R_mono HO_12.out (fun _ hk => ⟨hk.2, ⟨hk.1.1, hk.1.2⟩⟩)⟩, ⟨by (with_reducible repeat (first | apply Kd.R_alloc | apply Kd.R_drewN | apply Kd.R_drew)); exact Kd.R_mono HO_13.out (fun _ hk => ⟨hk.2, ⟨hk.1.1, hk.1.2⟩⟩)⟩, ⟨by (with_reducible repeat (first | apply Kd.R_alloc | apply Kd.R_drewN | apply Kd.R_drew)); exact Kd.R_mono HO_14.out (fun _ hk => ⟨hk.2, ⟨hk.1.1, hk.1.2⟩⟩)⟩, ⟨zqB BK365.out⟩, ⟨zqB BK366.out⟩, ⟨zqH HB.out GE365.out GE366.out⟩⟩
                         ·
                          rw [if_neg c69] at H
                          exact absurd H (by simp)
                        ·
                         rw [if_neg c67] at H
                         have c67b0 : decide ((wrap64 (x20_5 + 1)) < (x11_5.length : Int)) = false := decide_eq_false c67
                         clear c67
                         have H' := zA H
                         clear H
                         have p388 : 0 ≤ (x20_5 : Int) := of_decide_eq_true (zqD)
                         have q388 : x20_5 < (x11_5.length : Int) := of_decide_eq_true (zqD)
                         obtain ⟨ad388, e388, hx388_0⟩ := Kd.at_int (Kd.R_reads' HO_11.out).2.2 x20_5 p388 q388
                         obtain rfl : ad385 = ad388 := (by injection e388)
                         replace p388 := eq_true p388; replace q388 := eq_true q388
                         have p66 : 0 ≤ (x20_5 : Int) := of_decide_eq_true (zqD)
                         have q66 : (x20_5 : Int) < ((x11_5.length : Int) : Int) := of_decide_eq_true (zqD)
                         obtain ⟨go66, co66, eo66, gb66, gl66, cl66, HG66⟩ := Kd.R_form HO_11.out (by omega)
                         (first | cases eo66 | (injection eo66 with ea_ en_ ec_; (first | subst ea_ | (injection ea_ with ea_; subst ea_)); subst ec_; clear en_))
                         have GB66 := zA gb66
                         have GG66 := zA HG66
                         clear gb66 gl66 HG66
                         (first | simp only [add_plain] at hx385_0 | skip)
                         (first | simp only [add_plain] at hx388_0 | skip)
                         obtain ⟨hx66_0, hf66_0⟩ := Kd.R_celln 0 HO_11.out (x20_5 : Int) p66 q66
                         replace p66 := eq_true p66; replace q66 := eq_true q66
                         obtain ⟨hy79_, hz79_⟩ := Kd.R_celln 0 HO_11.out (x20_5 : Int) (of_decide_eq_true (zqD)) (of_decide_eq_true (zqD))
                         have HP79 := Kd.R_putg HO_11.out (x20_5 : Int) (wrap64 ((rd x11_5 x20_5) - (ji65)))
                         try go_wp2_with (first | ((with_reducible refine gate_store (t := 3) (p := 141) rfl ?_); refine store_event (t := 3) (p := 141) (v := ?vo_w80) (w1 := (w72.setCell ⟨go66, (x20_5 : Int).toNat, none⟩ (.int .i64 (wrap64 ((rd x11_5 x20_5) - (ji65)))))) ?hg ?ho ?hn ?hr ?_; (case ho => rfl); (case hg => rfl); (case hn => rfl); (case hr => first | (go_simp; done) | (go_simp; rfl)); intro w80 hw; have hg : w72.grownBy w80 (some go66) := (by rw [hw]; exact HP79.2); have hp_ : Kd.R (Kd.int .i64) 3 w80 w.heap.size (fun k_ => some k_ ≠ (u12 : Value).ownBlock ∧ some k_ ≠ (u13 : Value).ownBlock ∧ some k_ ≠ (u14 : Value).ownBlock) (.slice (some ⟨go66, 0, none⟩) x11_5.length co71) y389 := (by rw [hw, Ny389.out]; exact HP79.1); clear HP79; have n0_ := zA (hp_); have n1_ := zA (Kd.R_after (v := (.slice (some ⟨go66, 0, none⟩) x11_5.length co71)) (v1 := (.slice (some ⟨go66, 0, none⟩) x11_5.length co71)) (ok := (fun k_ => some k_ ≠ (u13 : Value).ownBlock ∧ some k_ ≠ (u14 : Value).ownBlock)) (by (with_reducible repeat (first | apply Kd.R_alloc | apply Kd.R_drewN | apply Kd.R_drew)); exact Kd.R_mono HO_12.out (fun _ hk => ⟨⟨hk.2.1, hk.2.2⟩, hk.1⟩)) hg (.inl rfl)); have n2_ := zA (Kd.R_after (v := (.slice (some ⟨go66, 0, none⟩) x11_5.length co71)) (v1 := (.slice (some ⟨go66, 0, none⟩) x11_5.length co71)) (ok := (fun k_ => some k_ ≠ (u12 : Value).ownBlock ∧ some k_ ≠ (u14 : Value).ownBlock)) (by (with_reducible repeat (first | apply Kd.R_alloc | apply Kd.R_drewN | apply Kd.R_drew)); exact Kd.R_mono HO_13.out (fun _ hk => ⟨⟨hk.2.1, hk.2.2⟩, hk.1⟩)) hg (.inl rfl)); have n3_ := zA (Kd.R_after (v := (.slice (some ⟨go66, 0, none⟩) x11_5.length co71)) (v1 := (.slice (some ⟨go66, 0, none⟩) x11_5.length co71)) (ok := (fun k_ => some k_ ≠ (u12 : Value).ownBlock ∧ some k_ ≠ (u13 : Value).ownBlock)) (by (with_reducible repeat (first | apply Kd.R_alloc | apply Kd.R_drewN | apply Kd.R_drew)); exact Kd.R_mono HO_14.out (fun _ hk => ⟨⟨hk.2.1, hk.2.2⟩, hk.1⟩)) hg (.inl rfl)); have n4_ := zA (blk_grown (g := gb365) (o := .cells #[.slice A0_0 l0_0.length c0_0, .slice A0_1 l0_1.length c0_1] 44 (0, 0)) (zqB BK365.out) hg (Kd.R_ne HO_11.out BK365.out (by decide))); have n5_ := zA (blk_grown (g := gb366) (o := .cells #[.slice A1_0 l1_0.length c1_0, .slice (some ad386) l1_1.length c1_1] 61 (0, 0)) (zqB BK366.out) hg (Kd.R_ne HO_11.out BK366.out (by decide))); have n6_ := zA ((by rw [hw]; exact below_set (HB.out) GB66.out : Below w.heap.size w w80)); clear HO_11; clear HO_12; clear HO_13; clear HO_14; clear BK365; clear BK366; clear HB; have HO_11 := n0_; have HO_12 := n1_; have HO_13 := n2_; have HO_14 := n3_; have BK365 := n4_; have BK366 := n5_; have HB := n6_; clear n0_ n1_ n2_ n3_ n4_ n5_ n6_; clear hg hw hp_; have p393 : 0 ≤ (x20_5 : Int) := of_decide_eq_true (zqD); have q393 : x20_5 < (y389.length : Int) := (by have h_ : (x20_5 : Int) < ((x11_5.length : Int) : Int) := of_decide_eq_true (zqD); first | (have e_ := (Kd.R_reads' HO_11.out).1; omega) | simpa only [Ny389.out, List.length_set] using h_); have ql393 : ((x20_5 : Int) < ((x11_5.length : Int) : Int)) = True := eq_true (of_decide_eq_true (zqD)); obtain ⟨ad393, e393, hx393_0⟩ := Kd.at_int (Kd.R_reads' HO_11.out).2.2 x20_5 p393 q393; obtain rfl : (⟨go66, 0, none⟩ : Addr) = ad393 := (by injection e393); (first | simp only [add_plain] at hx393_0 | simp only [add_at] at hx393_0 | simp only [Addr.add, Nat.zero_add] at hx393_0 | skip); replace p393 := eq_true p393; replace q393 := eq_true q393))
                         go_roundg k5
                         case measure => have := HK1.out; have := HK2.out; have := HK3.out; have := HK4.out; have := HK5.out; omega
                         case rel => exact ⟨(y389), (wrap64 (x16_5 + (ji65))), (wrap64 (x19_5 + (rd y389 x20_5))), (wrap64 (x20_5 + 1)), (by first | rfl | (simp; done) | (simp only [← hji65] <;> (first | rfl | simp)) | (simp [*]; done)), zqQ, zqQ, H', ⟨by have := HK1.out; have := HK2.out; have := HK3.out; have := HK4.out; have := HK5.out; omega⟩, ⟨zqC HO_11.out⟩, ⟨by (with_reducible repeat (first | apply Kd.R_alloc | apply Kd.R_drewN | apply Kd.R_drew)); exact Kd.R_mono HO_12.out (fun _ hk => ⟨hk.2, ⟨hk.1.1, hk.1.2⟩⟩)⟩, ⟨by (with_reducible repeat (first | apply Kd.R_alloc | apply Kd.R_drewN | apply Kd.R_drew)); exact Kd.R_mono HO_13.out (fun _ hk => ⟨hk.2, ⟨hk.1.1, hk.1.2⟩⟩)⟩, ⟨by (with_reducible repeat (first | apply Kd.R_alloc | apply Kd.R_drewN | apply Kd.R_drew)); exact Kd.R_mono HO_14.out (fun _ hk => ⟨hk.2, ⟨hk.1.1, hk.1.2⟩⟩)⟩, ⟨zqB BK365.out⟩, ⟨zqB BK366.out⟩, ⟨zqH HB.out GE365.out GE366.out⟩⟩
                       ·
                        rw [if_neg c64] at H
                        exact absurd H (by simp)
                      ·
                       rw [if_neg c63] at H
                       exact absurd H (by simp)
                     ·
                      rw [if_neg c62] at H
                      exact absurd H (by simp)
                    ·
                     rw [if_neg c61] at H
                     exact absurd H (by simp)
                   ·
                    rw [if_neg c60] at H
                    have c60b0 : decide (x20_5 < (x11_5.length : Int)) = false := decide_eq_false c60
                    clear c60
                    by_cases c81 : x12_3.length < 17592186044416
                    ·
                     rw [if_pos c81] at H
                     have LMc81 := zA c81
                     clear c81
                     obtain ⟨y394, hy394⟩ : ∃ y_ : List Int, y_ = (x12_3 ++ [x19_5]) := ⟨_, rfl⟩
                     replace H : (if x13_3.length < 17592186044416 then (if x14_3.length < 17592186044416 then (pianolaref04_Lacks.l2 k5 t368 x11_5 y394 (x13_3 ++ [x15_4]) (x14_3 ++ [x16_5]) x15_4 x16_5 (wrap64 (x17_3 + 1)) l1_0 l1_1) else (none)) else (none)) = some (r1, r2, r3) := zqF hy394 H
                     have Ny394 := zA hy394
                     clear hy394
                     by_cases c82 : x13_3.length < 17592186044416
                     ·
                      rw [if_pos c82] at H
                      have LMc82 := zA c82
                      clear c82
                      obtain ⟨y397, hy397⟩ : ∃ y_ : List Int, y_ = (x13_3 ++ [x15_4]) := ⟨_, rfl⟩
                      replace H : (if x14_3.length < 17592186044416 then (pianolaref04_Lacks.l2 k5 t368 x11_5 y394 y397 (x14_3 ++ [x16_5]) x15_4 x16_5 (wrap64 (x17_3 + 1)) l1_0 l1_1) else (none)) = some (r1, r2, r3) := zqF hy397 H
                      have Ny397 := zA hy397
                      clear hy397
                      by_cases c83 : x14_3.length < 17592186044416
                      ·
                       rw [if_pos c83] at H
                       have LMc83 := zA c83
                       clear c83
                       obtain ⟨y400, hy400⟩ : ∃ y_ : List Int, y_ = (x14_3 ++ [x16_5]) := ⟨_, rfl⟩
                       replace H : (pianolaref04_Lacks.l2 k5 t368 x11_5 y394 y397 y400 x15_4 x16_5 (wrap64 (x17_3 + 1)) l1_0 l1_1) = some (r1, r2, r3) := zqF hy400 H
                       have Ny400 := zA hy400
                       clear hy400
                       have H' := zA H
                       clear H
                       obtain ⟨Ao84, co84, eo84⟩ := Kd.R_slice HO_11.out
                       subst eo84
                       go_wp2_with (first | ((with_reducible refine gate_builtin (b := .append) (xs := #[.tmp 164, .tmp 166]) rfl ?_); at_builtin; refine Kd.R_append (Kd.int .i64) (w0 := w) w.heap.size rfl (.tmp 164) (.tmp 166) 30 3 (.int .i64 0) 8 rfl Try.underlying30 info3 rfl (by decide) (by omega) u12 x12_3 x19_5 [.int .i64 x19_5] (fun k_ => some k_ ≠ (.slice Ao84 x11_5.length co84 : Value).ownBlock ∧ some k_ ≠ (u13 : Value).ownBlock ∧ some k_ ≠ (u14 : Value).ownBlock) (fun _ => False) rfl rfl ?aP (fun _ hk => hk.elim) ?aF ?aO ?aB ?aS ?aL ?_; (case aP => exact rfl); (case aB => exact (zqH HB.out GE365.out GE366.out)); (case aF => exact (fun k_ hk => ⟨Kd.fresh' (Kd.R_lt (zqC HO_11.out)) k_ hk, Kd.fresh' (Kd.R_lt (zqC HO_13.out)) k_ hk, Kd.fresh' (Kd.R_lt (zqC HO_14.out)) k_ hk⟩)); (case aO => exact (zqC HO_12.out)); (case aS => exact (below_size (zqH HB.out GE365.out GE366.out))); (case aL => have := LMc81.out; omega); intro v395 w85 ho hb hg hat; rw [← Ny394.out] at ho; have n0_ := zA (Kd.R_after (ok := (fun k_ => some k_ ≠ (u13 : Value).ownBlock ∧ some k_ ≠ (u14 : Value).ownBlock)) (by (with_reducible repeat (first | apply Kd.R_alloc | apply Kd.R_drewN | apply Kd.R_drew)); exact Kd.R_mono HO_11.out (fun _ hk => ⟨⟨hk.2.1, hk.2.2⟩, hk.1⟩)) hg hat); have n1_ := zA (Kd.R_after (ok := (fun k_ => some k_ ≠ (.slice Ao84 x11_5.length co84 : Value).ownBlock ∧ some k_ ≠ (u14 : Value).ownBlock)) (by (with_reducible repeat (first | apply Kd.R_alloc | apply Kd.R_drewN | apply Kd.R_drew)); exact Kd.R_mono HO_13.out (fun _ hk => ⟨⟨hk.1, hk.2.2⟩, hk.2.1⟩)) hg hat); have n2_ := zA (Kd.R_after (ok := (fun k_ => some k_ ≠ (.slice Ao84 x11_5.length co84 : Value).ownBlock ∧ some k_ ≠ (u13 : Value).ownBlock)) (by (with_reducible repeat (first | apply Kd.R_alloc | apply Kd.R_drewN | apply Kd.R_drew)); exact Kd.R_mono HO_14.out (fun _ hk => ⟨⟨hk.1, hk.2.2⟩, hk.2.1⟩)) hg hat); have n3_ := zA (blk_grown (g := gb365) (o := .cells #[.slice A0_0 l0_0.length c0_0, .slice A0_1 l0_1.length c0_1] 44 (0, 0)) (zqB BK365.out) hg (Kd.R_ne HO_12.out BK365.out (by decide))); have n4_ := zA (blk_grown (g := gb366) (o := .cells #[.slice A1_0 l1_0.length c1_0, .slice A1_1 l1_1.length c1_1] 61 (0, 0)) (zqB BK366.out) hg (Kd.R_ne HO_12.out BK366.out (by decide))); have n5_ := zA (hb); have n6_ := zA (ho); clear HO_11; clear HO_13; clear HO_14; clear BK365; clear BK366; clear HB; clear HO_12; have HO_11 := n0_; have HO_13 := n1_; have HO_14 := n2_; have BK365 := n3_; have BK366 := n4_; have HB := n5_; have HO396 := n6_; clear n0_ n1_ n2_ n3_ n4_ n5_ n6_; clear ho hb hg hat) | ((with_reducible refine gate_builtin (b := .append) (xs := #[.tmp 168, .tmp 170]) rfl ?_); at_builtin; refine Kd.R_append (Kd.int .i64) (w0 := w) w.heap.size rfl (.tmp 168) (.tmp 170) 30 3 (.int .i64 0) 8 rfl Try.underlying30 info3 rfl (by decide) (by omega) u13 x13_3 x15_4 [.int .i64 x15_4] (fun k_ => some k_ ≠ (.slice Ao84 x11_5.length co84 : Value).ownBlock ∧ some k_ ≠ (u14 : Value).ownBlock ∧ some k_ ≠ (v395 : Value).ownBlock) (fun _ => False) rfl rfl ?aP (fun _ hk => hk.elim) ?aF ?aO ?aB ?aS ?aL ?_; (case aP => exact rfl); (case aB => exact (zqH HB.out GE365.out GE366.out)); (case aF => exact (fun k_ hk => ⟨Kd.fresh' (Kd.R_lt (zqC HO_11.out)) k_ hk, Kd.fresh' (Kd.R_lt (zqC HO_14.out)) k_ hk, Kd.fresh' (Kd.R_lt (zqC HO396.out)) k_ hk⟩)); (case aO => exact (by (with_reducible repeat (first | apply Kd.R_alloc | apply Kd.R_drewN | apply Kd.R_drew)); exact Kd.R_mono HO_13.out (fun _ hk => ⟨hk.1.1, ⟨hk.1.2, hk.2⟩⟩))); (case aS => exact (below_size (zqH HB.out GE365.out GE366.out))); (case aL => have := LMc82.out; omega); intro v398 w86 ho hb hg hat; rw [← Ny397.out] at ho; have n0_ := zA (Kd.R_after (ok := (fun k_ => some k_ ≠ (u14 : Value).ownBlock ∧ some k_ ≠ (v395 : Value).ownBlock)) (by (with_reducible repeat (first | apply Kd.R_alloc | apply Kd.R_drewN | apply Kd.R_drew)); exact Kd.R_mono HO_11.out (fun _ hk => ⟨⟨hk.1.2, hk.2⟩, hk.1.1⟩)) hg hat); have n1_ := zA (Kd.R_after (ok := (fun k_ => some k_ ≠ (.slice Ao84 x11_5.length co84 : Value).ownBlock ∧ some k_ ≠ (v395 : Value).ownBlock)) (by (with_reducible repeat (first | apply Kd.R_alloc | apply Kd.R_drewN | apply Kd.R_drew)); exact Kd.R_mono HO_14.out (fun _ hk => ⟨⟨hk.1.1, hk.2⟩, hk.1.2⟩)) hg hat); have n2_ := zA (blk_grown (g := gb365) (o := .cells #[.slice A0_0 l0_0.length c0_0, .slice A0_1 l0_1.length c0_1] 44 (0, 0)) (zqB BK365.out) hg (Kd.R_ne HO_13.out BK365.out (by decide))); have n3_ := zA (blk_grown (g := gb366) (o := .cells #[.slice A1_0 l1_0.length c1_0, .slice A1_1 l1_1.length c1_1] 61 (0, 0)) (zqB BK366.out) hg (Kd.R_ne HO_13.out BK366.out (by decide))); have n4_ := zA (Kd.R_after (ok := (fun k_ => some k_ ≠ (.slice Ao84 x11_5.length co84 : Value).ownBlock ∧ some k_ ≠ (u14 : Value).ownBlock)) (by (with_reducible repeat (first | apply Kd.R_alloc | apply Kd.R_drewN | apply Kd.R_drew)); exact Kd.R_mono HO396.out (fun _ hk => ⟨⟨hk.1, hk.2.2⟩, hk.2.1⟩)) hg hat); have n5_ := zA (hb); have n6_ := zA (ho); clear HO_11; clear HO_14; clear BK365; clear BK366; clear HO396; clear HB; clear HO_13; have HO_11 := n0_; have HO_14 := n1_; have BK365 := n2_; have BK366 := n3_; have HO396 := n4_; have HB := n5_; have HO399 := n6_; clear n0_ n1_ n2_ n3_ n4_ n5_ n6_; clear ho hb hg hat) | ((with_reducible refine gate_builtin (b := .append) (xs := #[.tmp 172, .tmp 174]) rfl ?_); at_builtin; refine Kd.R_append (Kd.int .i64) (w0 := w) w.heap.size rfl (.tmp 172) (.tmp 174) 30 3 (.int .i64 0) 8 rfl Try.underlying30 info3 rfl (by decide) (by omega) u14 x14_3 x16_5 [.int .i64 x16_5] (fun k_ => some k_ ≠ (.slice Ao84 x11_5.length co84 : Value).ownBlock ∧ some k_ ≠ (v395 : Value).ownBlock ∧ some k_ ≠ (v398 : Value).ownBlock) (fun _ => False) rfl rfl ?aP (fun _ hk => hk.elim) ?aF ?aO ?aB ?aS ?aL ?_; (case aP => exact rfl); (case aB => exact (zqH HB.out GE365.out GE366.out)); (case aF => exact (fun k_ hk => ⟨Kd.fresh' (Kd.R_lt (zqC HO_11.out)) k_ hk, Kd.fresh' (Kd.R_lt (zqC HO396.out)) k_ hk, Kd.fresh' (Kd.R_lt (zqC HO399.out)) k_ hk⟩)); (case aO => exact (by (with_reducible repeat (first | apply Kd.R_alloc | apply Kd.R_drewN | apply Kd.R_drew)); exact Kd.R_mono HO_14.out (fun _ hk => ⟨hk.1.1, ⟨hk.1.2, hk.2⟩⟩))); (case aS => exact (below_size (zqH HB.out GE365.out GE366.out))); (case aL => have := LMc83.out; omega); intro v401 w87 ho hb hg hat; rw [← Ny400.out] at ho; have n0_ := zA (Kd.R_after (ok := (fun k_ => some k_ ≠ (v395 : Value).ownBlock ∧ some k_ ≠ (v398 : Value).ownBlock)) (by (with_reducible repeat (first | apply Kd.R_alloc | apply Kd.R_drewN | apply Kd.R_drew)); exact Kd.R_mono HO_11.out (fun _ hk => ⟨⟨hk.1.2, hk.2⟩, hk.1.1⟩)) hg hat); have n1_ := zA (blk_grown (g := gb365) (o := .cells #[.slice A0_0 l0_0.length c0_0, .slice A0_1 l0_1.length c0_1] 44 (0, 0)) (zqB BK365.out) hg (Kd.R_ne HO_14.out BK365.out (by decide))); have n2_ := zA (blk_grown (g := gb366) (o := .cells #[.slice A1_0 l1_0.length c1_0, .slice A1_1 l1_1.length c1_1] 61 (0, 0)) (zqB BK366.out) hg (Kd.R_ne HO_14.out BK366.out (by decide))); have n3_ := zA (Kd.R_after (ok := (fun k_ => some k_ ≠ (.slice Ao84 x11_5.length co84 : Value).ownBlock ∧ some k_ ≠ (v398 : Value).ownBlock)) (by (with_reducible repeat (first | apply Kd.R_alloc | apply Kd.R_drewN | apply Kd.R_drew)); exact Kd.R_mono HO396.out (fun _ hk => ⟨⟨hk.1.1, hk.2⟩, hk.1.2⟩)) hg hat); have n4_ := zA (Kd.R_after (ok := (fun k_ => some k_ ≠ (.slice Ao84 x11_5.length co84 : Value).ownBlock ∧ some k_ ≠ (v395 : Value).ownBlock)) (by (with_reducible repeat (first | apply Kd.R_alloc | apply Kd.R_drewN | apply Kd.R_drew)); exact Kd.R_mono HO399.out (fun _ hk => ⟨⟨hk.1, hk.2.2⟩, hk.2.1⟩)) hg hat); have n5_ := zA (hb); have n6_ := zA (ho); clear HO_11; clear BK365; clear BK366; clear HO396; clear HO399; clear HB; clear HO_14; have HO_11 := n0_; have BK365 := n1_; have BK366 := n2_; have HO396 := n3_; have HO399 := n4_; have HB := n5_; have HO402 := n6_; clear n0_ n1_ n2_ n3_ n4_ n5_ n6_; clear ho hb hg hat))
                       go_roundg k5
                       case measure => have := HK1.out; have := HK2.out; have := HK3.out; have := HK4.out; have := HK5.out; omega
                       case rel => exact ⟨(x11_5), (y394), (y397), (y400), (x15_4), (x16_5), (wrap64 (x17_3 + 1)), zqQ, zqQ, zqQ, H', ⟨by have := HK1.out; have := HK2.out; have := HK3.out; have := HK4.out; have := HK5.out; omega⟩, ⟨by (with_reducible repeat (first | apply Kd.R_alloc | apply Kd.R_drewN | apply Kd.R_drew)); exact Kd.R_mono HO_11.out (fun _ hk => ⟨hk.1.1, ⟨hk.1.2, hk.2⟩⟩)⟩, ⟨by (with_reducible repeat (first | apply Kd.R_alloc | apply Kd.R_drewN | apply Kd.R_drew)); exact Kd.R_mono HO396.out (fun _ hk => ⟨hk.1.1, ⟨hk.1.2, hk.2⟩⟩)⟩, ⟨by (with_reducible repeat (first | apply Kd.R_alloc | apply Kd.R_drewN | apply Kd.R_drew)); exact Kd.R_mono HO399.out (fun _ hk => ⟨hk.1.1, ⟨hk.1.2, hk.2⟩⟩)⟩, ⟨zqC HO402.out⟩, ⟨zqB BK365.out⟩, ⟨zqB BK366.out⟩, ⟨zqH HB.out GE365.out GE366.out⟩⟩
                      ·
                       rw [if_neg c83] at H
                       exact absurd H (by simp)
                     ·
                      rw [if_neg c82] at H
                      exact absurd H (by simp)
                    ·
                     rw [if_neg c81] at H
                     exact absurd H (by simp)
             ·
              rw [if_neg c45] at H
              have c45b0 : decide (x17_3 < t368) = false := decide_eq_false c45
              clear c45
              have H' := zA H
              clear H
              go_wp2
              go_loopg [22, 23] k3 (fun kq v22 v23 w' => ∃ (x22_4 : List Int) (x23_4 : Int), v23 = .int .i64 x23_4 ∧ Aside0 (pianolaref04_Lacks.l5 kq t368 x12_3 x13_3 x14_3 x22_4 x23_4 = some (r1, r2, r3)) ∧ Aside0 (kq ≤ k3) ∧ Aside0 (Kd.R (Kd.int .i64) 3 w' w.heap.size (fun k_ => some k_ ≠ (u13 : Value).ownBlock ∧ some k_ ≠ (u14 : Value).ownBlock ∧ some k_ ≠ (v22 : Value).ownBlock) u12 x12_3) ∧ Aside0 (Kd.R (Kd.int .i64) 3 w' w.heap.size (fun k_ => some k_ ≠ (u12 : Value).ownBlock ∧ some k_ ≠ (u14 : Value).ownBlock ∧ some k_ ≠ (v22 : Value).ownBlock) u13 x13_3) ∧ Aside0 (Kd.R (Kd.int .i64) 3 w' w.heap.size (fun k_ => some k_ ≠ (u12 : Value).ownBlock ∧ some k_ ≠ (u13 : Value).ownBlock ∧ some k_ ≠ (v22 : Value).ownBlock) u14 x14_3) ∧ Aside0 (Kd.R (Kd.int .i64) 3 w' w.heap.size (fun k_ => some k_ ≠ (u12 : Value).ownBlock ∧ some k_ ≠ (u13 : Value).ownBlock ∧ some k_ ≠ (u14 : Value).ownBlock) v22 x22_4) ∧ Aside0 (w'.heap[gb365]? = some (.cells #[(.slice A0_0 l0_0.length c0_0), (.slice A0_1 l0_1.length c0_1)] 44 (0, 0))) ∧ Aside0 (w'.heap[gb366]? = some (.cells #[(.slice A1_0 l1_0.length c1_0), (.slice A1_1 l1_1.length c1_1)] 61 (0, 0))) ∧ Aside0 (Below w.heap.size w w'))
              case atStart => exact ⟨(([] : List Int)), (0), zqQ, H', ⟨Nat.le_refl _⟩, ⟨by (with_reducible repeat (first | apply Kd.R_alloc | apply Kd.R_drewN | apply Kd.R_drew)); exact Kd.R_mono HO_12.out (fun _ hk => ⟨hk.2.1, ⟨hk.2.2, (by simp [Value.ownBlock])⟩⟩)⟩, ⟨by (with_reducible repeat (first | apply Kd.R_alloc | apply Kd.R_drewN | apply Kd.R_drew)); exact Kd.R_mono HO_13.out (fun _ hk => ⟨hk.2.1, ⟨hk.2.2, (by simp [Value.ownBlock])⟩⟩)⟩, ⟨by (with_reducible repeat (first | apply Kd.R_alloc | apply Kd.R_drewN | apply Kd.R_drew)); exact Kd.R_mono HO_14.out (fun _ hk => ⟨hk.2.1, ⟨hk.2.2, (by simp [Value.ownBlock])⟩⟩)⟩, ⟨by first | exact Kd.R_nil _ _ _ _ _ | exact Kd.N_nil _ _ _ _ _ | exact Kd.V_nil _ _ _ _ _ | exact Kd.Q_nil _ _ _ _ _ | exact Kd.S_nil _ _ _ _ _⟩, ⟨zqB BK365.out⟩, ⟨zqB BK366.out⟩, ⟨zqH HB.out GE365.out GE366.out⟩⟩
              case round =>
               clear H'
               try clear c1
               try clear p2
               try clear c3
               try clear p3
               try clear q3
               try clear hx3
               try clear c4
               try clear c5
               try clear p5
               try clear q5
               try clear hx5
               try clear qi5
               try clear hf5
               try clear c6
               try clear p6
               try clear q6
               try clear hx6
               try clear hf6
               try clear p7
               try clear q7
               try clear hx7
               try clear hf7
               try clear c8
               try clear p37
               try clear q37
               try clear hx37
               try clear c38
               try clear p38
               try clear q38
               try clear hx38
               try clear p39
               try clear q39
               try clear hx39
               try clear c45
               try clear c45b0
               try clear c46
               try clear c46b0
               try clear c47
               try clear c47b0
               try clear c47b1
               try clear c48
               try clear c48b0
               try clear c49
               try clear c49b0
               try clear c50
               try clear c50b0
               try clear p51
               try clear q51
               try clear hx51
               try clear qi51
               try clear hf51
               try clear c52
               try clear c58
               try clear c60
               try clear c60b0
               try clear c61
               try clear c61b0
               try clear c62
               try clear c62b0
               try clear c63
               try clear c63b0
               try clear c64
               try clear c64b0
               try clear p64
               try clear p66
               try clear q66
               try clear hx66
               try clear hf66
               try clear c67
               try clear c67b0
               try clear c69
               try clear c69b0
               try clear p70
               try clear q70
               try clear hx70
               try clear hf70
               try clear c81
               try clear c82
               try clear c83
               try clear hcz10_0
               try clear hcz10_1
               try clear hcz12_0
               try clear hcz12_1
               try clear hcz13_0
               try clear hcz13_1
               try clear hcz21_0
               try clear hcz21_1
               try clear hcz24_0
               try clear hcz24_1
               try clear hcz27_0
               try clear hcz27_1
               try clear hcz34_0
               try clear hcz34_1
               try clear hcz37_0
               try clear hcz37_1
               try clear hcz42_0
               try clear hcz42_1
               try clear hcz53_0
               try clear hcz53_1
               try clear hcz57_0
               try clear hcz57_1
               try clear hcz59_0
               try clear hcz59_1
               try clear hfz10_0
               try clear hfz10_1
               try clear hfz12_0
               try clear hfz12_1
               try clear hfz13_0
               try clear hfz13_1
               try clear hfz21_0
               try clear hfz21_1
               try clear hfz24_0
               try clear hfz24_1
               try clear hfz27_0
               try clear hfz27_1
               try clear hfz34_0
               try clear hfz34_1
               try clear hfz37_0
               try clear hfz37_1
               try clear hfz42_0
               try clear hfz42_1
               try clear hfz53_0
               try clear hfz53_1
               try clear hfz57_0
               try clear hfz57_1
               try clear hfz59_0
               try clear hfz59_1
               try clear hx370_0
               try clear hx371_0
               try clear hx373_0
               try clear hx374_0
               try clear hx379_0
               try clear hx380_0
               try clear hx381_0
               try clear hx383_0
               try clear hx384_0
               try clear hx385_0
               try clear hx386_0
               try clear hx387_0
               try clear hx388_0
               try clear hx390_0
               try clear hx392_0
               try clear hx393_0
               try clear hx51_0
               try clear hx66_0
               try clear hx70_0
               try clear p2
               try clear p3
               try clear p37
               try clear p370
               try clear p371
               try clear p373
               try clear p374
               try clear p379
               try clear p380
               try clear p381
               try clear p383
               try clear p384
               try clear p385
               try clear p386
               try clear p387
               try clear p388
               try clear p390
               try clear p392
               try clear p393
               try clear p51
               try clear p6
               try clear p66
               try clear p70
               try clear q3
               try clear q37
               try clear q370
               try clear q371
               try clear q373
               try clear q374
               try clear q379
               try clear q380
               try clear q381
               try clear q383
               try clear q384
               try clear q385
               try clear q386
               try clear q387
               try clear q388
               try clear q390
               try clear q392
               try clear q393
               try clear q51
               try clear q66
               try clear q70
               obtain ⟨x22_4, x23_4, rfl, HA, HK4, HO_12, HO_13, HO_14, HO_22, BK365, BK366, HB⟩ := hrel
               cases gk with
               | zero => exact absurd HA.out (by simp [pianolaref04_Lacks.l5])
               | succ k4 =>
                have H := HA.out
                clear HA
                simp only [pianolaref04_Lacks.l5] at H
                by_cases c88 : x23_4 < t368
                ·
                 rw [if_pos c88] at H
                 have c88b0 : decide (x23_4 < t368) = true := decide_eq_true c88
                 clear c88
                 have H' := zA H
                 clear H
                 go_wp2
                 go_loopg [24] k4 (fun kq v24 w' => ∃ (x24_5 : Int), v24 = .int .i64 x24_5 ∧ Aside0 (pianolaref04_Lacks.l6 kq t368 x12_3 x13_3 x14_3 x22_4 x23_4 x24_5 = some (r1, r2, r3)) ∧ Aside0 (kq ≤ k4) ∧ Aside0 (Kd.R (Kd.int .i64) 3 w' w.heap.size (fun k_ => some k_ ≠ (u13 : Value).ownBlock ∧ some k_ ≠ (u14 : Value).ownBlock ∧ some k_ ≠ (u22 : Value).ownBlock) u12 x12_3) ∧ Aside0 (Kd.R (Kd.int .i64) 3 w' w.heap.size (fun k_ => some k_ ≠ (u12 : Value).ownBlock ∧ some k_ ≠ (u14 : Value).ownBlock ∧ some k_ ≠ (u22 : Value).ownBlock) u13 x13_3) ∧ Aside0 (Kd.R (Kd.int .i64) 3 w' w.heap.size (fun k_ => some k_ ≠ (u12 : Value).ownBlock ∧ some k_ ≠ (u13 : Value).ownBlock ∧ some k_ ≠ (u22 : Value).ownBlock) u14 x14_3) ∧ Aside0 (Kd.R (Kd.int .i64) 3 w' w.heap.size (fun k_ => some k_ ≠ (u12 : Value).ownBlock ∧ some k_ ≠ (u13 : Value).ownBlock ∧ some k_ ≠ (u14 : Value).ownBlock) u22 x22_4) ∧ Aside0 (w'.heap[gb365]? = some (.cells #[(.slice A0_0 l0_0.length c0_0), (.slice A0_1 l0_1.length c0_1)] 44 (0, 0))) ∧ Aside0 (w'.heap[gb366]? = some (.cells #[(.slice A1_0 l1_0.length c1_0), (.slice A1_1 l1_1.length c1_1)] 61 (0, 0))) ∧ Aside0 (Below w.heap.size w w'))
                 case atStart => exact ⟨(0), zqQ, H', ⟨Nat.le_refl _⟩, ⟨zqC HO_12.out⟩, ⟨zqC HO_13.out⟩, ⟨zqC HO_14.out⟩, ⟨zqC HO_22.out⟩, ⟨zqB BK365.out⟩, ⟨zqB BK366.out⟩, ⟨zqH HB.out GE365.out GE366.out⟩⟩
                 case round =>
                  clear H'
                  try clear c1
                  try clear p2
                  try clear c3
                  try clear p3
                  try clear q3
                  try clear hx3
                  try clear c4
                  try clear c5
                  try clear p5
                  try clear q5
                  try clear hx5
                  try clear qi5
                  try clear hf5
                  try clear c6
                  try clear p6
                  try clear q6
                  try clear hx6
                  try clear hf6
                  try clear p7
                  try clear q7
                  try clear hx7
                  try clear hf7
                  try clear c8
                  try clear p37
                  try clear q37
                  try clear hx37
                  try clear c38
                  try clear p38
                  try clear q38
                  try clear hx38
                  try clear p39
                  try clear q39
                  try clear hx39
                  try clear c45
                  try clear c45b0
                  try clear c46
                  try clear c46b0
                  try clear c47
                  try clear c47b0
                  try clear c47b1
                  try clear c48
                  try clear c48b0
                  try clear c49
                  try clear c49b0
                  try clear c50
                  try clear c50b0
                  try clear p51
                  try clear q51
                  try clear hx51
                  try clear qi51
                  try clear hf51
                  try clear c52
                  try clear c58
                  try clear c60
                  try clear c60b0
                  try clear c61
                  try clear c61b0
                  try clear c62
                  try clear c62b0
                  try clear c63
                  try clear c63b0
                  try clear c64
                  try clear c64b0
                  try clear p64
                  try clear p66
                  try clear q66
                  try clear hx66
                  try clear hf66
                  try clear c67
                  try clear c67b0
                  try clear c69
                  try clear c69b0
                  try clear p70
                  try clear q70
                  try clear hx70
                  try clear hf70
                  try clear c81
                  try clear c82
                  try clear c83
                  try clear c88
                  try clear c88b0
                  try clear hcz10_0
                  try clear hcz10_1
                  try clear hcz12_0
                  try clear hcz12_1
                  try clear hcz13_0
                  try clear hcz13_1
                  try clear hcz21_0
                  try clear hcz21_1
                  try clear hcz24_0
                  try clear hcz24_1
                  try clear hcz27_0
                  try clear hcz27_1
                  try clear hcz34_0
                  try clear hcz34_1
                  try clear hcz37_0
                  try clear hcz37_1
                  try clear hcz42_0
                  try clear hcz42_1
                  try clear hcz53_0
                  try clear hcz53_1
                  try clear hcz57_0
                  try clear hcz57_1
                  try clear hcz59_0
                  try clear hcz59_1
                  try clear hfz10_0
                  try clear hfz10_1
                  try clear hfz12_0
                  try clear hfz12_1
                  try clear hfz13_0
                  try clear hfz13_1
                  try clear hfz21_0
                  try clear hfz21_1
                  try clear hfz24_0
                  try clear hfz24_1
                  try clear hfz27_0
                  try clear hfz27_1
                  try clear hfz34_0
                  try clear hfz34_1
                  try clear hfz37_0
                  try clear hfz37_1
                  try clear hfz42_0
                  try clear hfz42_1
                  try clear hfz53_0
                  try clear hfz53_1
                  try clear hfz57_0
                  try clear hfz57_1
                  try clear hfz59_0
                  try clear hfz59_1
                  try clear hx370_0
                  try clear hx371_0
                  try clear hx373_0
                  try clear hx374_0
                  try clear hx379_0
                  try clear hx380_0
                  try clear hx381_0
                  try clear hx383_0
                  try clear hx384_0
                  try clear hx385_0
                  try clear hx386_0
                  try clear hx387_0
                  try clear hx388_0
                  try clear hx390_0
                  try clear hx392_0
                  try clear hx393_0
                  try clear hx51_0
                  try clear hx66_0
                  try clear hx70_0
                  try clear p2
                  try clear p3
                  try clear p37
                  try clear p370
                  try clear p371
                  try clear p373
                  try clear p374
                  try clear p379
                  try clear p38
                  try clear p380
                  try clear p381
                  try clear p383
                  try clear p384
                  try clear p385
                  try clear p386
                  try clear p387
                  try clear p388
                  try clear p39
                  try clear p390
                  try clear p392
                  try clear p393
                  try clear p5
                  try clear p51
                  try clear p6
                  try clear p64
                  try clear p66
                  try clear p7
                  try clear p70
                  try clear q3
                  try clear q37
                  try clear q370
                  try clear q371
                  try clear q373
                  try clear q374
                  try clear q379
                  try clear q38
                  try clear q380
                  try clear q381
                  try clear q383
                  try clear q384
                  try clear q385
                  try clear q386
                  try clear q387
                  try clear q388
                  try clear q39
                  try clear q390
                  try clear q392
                  try clear q393
                  try clear q5
                  try clear q51
                  try clear q6
                  try clear q66
                  try clear q7
                  try clear q70
                  obtain ⟨x24_5, rfl, HA, HK5, HO_12, HO_13, HO_14, HO_22, BK365, BK366, HB⟩ := hrel
                  cases gk with
                  | zero => exact absurd HA.out (by simp [pianolaref04_Lacks.l6])
                  | succ k5 =>
                   have H := HA.out
                   clear HA
                   simp only [pianolaref04_Lacks.l6] at H
                   by_cases c89 : (wrap64 (x23_4 + x24_5)) < t368
                   ·
                    rw [if_pos c89] at H
                    have c89b0 : decide ((wrap64 (x23_4 + x24_5)) < t368) = true := decide_eq_true c89
                    clear c89
                    obtain ⟨ji90, hji90⟩ : ∃ j_ : Int, (wrap64 (x23_4 + x24_5)) = j_ := ⟨_, rfl⟩
                    replace H : (if 0 ≤ (ji90) then (if (ji90) < (x14_3.length : Int) then (if 0 ≤ x23_4 then (if x23_4 < (x13_3.length : Int) then (if (rd x14_3 (ji90)) < (rd x13_3 x23_4) then (pianolaref04_Lacks.l6 k5 t368 x12_3 x13_3 x14_3 x22_4 x23_4 (wrap64 (x24_5 + 1))) else (if (ji90) = t368 then (if x22_4.length < 17592186044416 then (pianolaref04_Lacks.l5 k5 t368 x12_3 x13_3 x14_3 (x22_4 ++ [(-1)]) (wrap64 (x23_4 + 1))) else (none)) else (if x22_4.length < 17592186044416 then (pianolaref04_Lacks.l5 k5 t368 x12_3 x13_3 x14_3 (x22_4 ++ [x24_5]) (wrap64 (x23_4 + 1))) else (none)))) else (none)) else (none)) else (none)) else (none)) = some (r1, r2, r3) := by first | (rw [hji90] at H; exact H) | (simp only [hji90] at H ⊢; exact H)
                    (try rw [hji90] at c89b0)
                    have hji90w : (IntKind.i64.wrap (x23_4 + x24_5)) = ji90 := (i64_w _).trans hji90
                    by_cases c91 : 0 ≤ (ji90)
                    ·
                     rw [if_pos c91] at H
                     have c91b0 : decide (0 ≤ (ji90)) = true := decide_eq_true c91
                     clear c91
                     by_cases c92 : (ji90) < (x14_3.length : Int)
                     ·
                      rw [if_pos c92] at H
                      have c92b0 : decide ((ji90) < (x14_3.length : Int)) = true := decide_eq_true c92
                      clear c92
                      by_cases c93 : 0 ≤ x23_4
                      ·
                       rw [if_pos c93] at H
                       have c93b0 : decide (0 ≤ x23_4) = true := decide_eq_true c93
                       clear c93
                       by_cases c94 : x23_4 < (x13_3.length : Int)
                       ·
                        rw [if_pos c94] at H
                        have c94b0 : decide (x23_4 < (x13_3.length : Int)) = true := decide_eq_true c94
                        clear c94
                        have H' := zA H
                        clear H
                        try go_wp2
                        have n0_ := zA (Kd.R_drew HO_12.out); have n1_ := zA (Kd.R_drew HO_13.out); have n2_ := zA (Kd.R_drew HO_14.out); have n3_ := zA (Kd.R_drew HO_22.out); have n4_ := zA (blk_drew BK365.out); have n5_ := zA (blk_drew BK366.out); have n6_ := zA (below_drew1 HB.out); clear HO_12 HO_13 HO_14 HO_22 BK365 BK366 HB; have HO_12 := n0_; have HO_13 := n1_; have HO_14 := n2_; have HO_22 := n3_; have BK365 := n4_; have BK366 := n5_; have HB := n6_; clear n0_ n1_ n2_ n3_ n4_ n5_ n6_
                        obtain ⟨Ao97, co97, eo97⟩ := Kd.R_slice HO_14.out
                        (first | subst eo97 | (injection eo97 with f1_ f2_ f3_; have f4_ := f1_.symm; have f5_ := f3_.symm; clear f1_ f2_ f3_; subst f4_; subst f5_))
                        have p403 : 0 ≤ ((ji90) : Int) := of_decide_eq_true (zqD)
                        have q403 : (ji90) < (x14_3.length : Int) := of_decide_eq_true (zqD)
                        obtain ⟨ad403, e403, hx403_0⟩ := Kd.at_int (Kd.R_reads' HO_14.out).2.2 (ji90) p403 q403
                        cases e403; replace p403 := eq_true p403; replace q403 := eq_true q403
                        obtain ⟨Ao98, co98, eo98⟩ := Kd.R_slice HO_13.out
                        (first | subst eo98 | (injection eo98 with f1_ f2_ f3_; have f4_ := f1_.symm; have f5_ := f3_.symm; clear f1_ f2_ f3_; subst f4_; subst f5_))
                        have p404 : 0 ≤ (x23_4 : Int) := of_decide_eq_true (zqD)
                        have q404 : x23_4 < (x13_3.length : Int) := of_decide_eq_true (zqD)
                        obtain ⟨ad404, e404, hx404_0⟩ := Kd.at_int (Kd.R_reads' HO_13.out).2.2 x23_4 p404 q404
                        cases e404; replace p404 := eq_true p404; replace q404 := eq_true q404
                        refine start_ (n := 18) (S := fun w' => w'.cell? (ad403.add ((ji90)).toNat) = some (.int .i64 (rd x14_3 (ji90))) ∧ w'.cell? (ad404.add (x23_4).toNat) = some (.int .i64 (rd x13_3 x23_4))) (ds := []) #[false, false, false, false, false, false, false, false, false, false, false, false, false, false, false, false, false, false] (by kernel_rfl) rfl rfl ⟨hx403_0, hx404_0⟩ (fun hHeld => ?_); refine with_tabW pianolaref04_Lacks.tab44 pianolaref04_Lacks.bits44 (fun HT_ HW_ => ?_)
                        generalize wr.drew = w96 at HO_12 HO_13 HO_14 HO_22 BK365 BK366 HB hx403_0 hx404_0 hHeld ⊢
                        refine pure_ (i := 0) (N := some 181) (v := ?_) (a' := ?_) #[true, false, false, false, false, false, false, false, false, false, false, false, false, false, false, false, false, false] rfl rfl (any_of HT_.out (by kernel_rfl)) (fun _ _ _ h => h) (Or.inl ⟨by rfl, ?_⟩) ?_ ?_
                        rotate_left
                        ·
                         intro w'
                         go_simp
                         with_reducible rfl
                        rotate_left
                        · simp only [Act.put, setIfInBounds_toArray, set_cons_zero, set_cons_succ, i64_w, i32_w]; rfl
                        refine pure_ (i := 1) (N := some 182) (v := ?_) (a' := ?_) #[true, true, false, false, false, false, false, false, false, false, false, false, false, false, false, false, false, false] rfl rfl (any_of HT_.out (by kernel_rfl)) (fun _ _ _ h => h) (Or.inl ⟨by rfl, ?_⟩) ?_ ?_
                        rotate_left
                        ·
                         intro w'
                         go_simp
                         with_reducible rfl
                        rotate_left
                        · simp only [Act.put, setIfInBounds_toArray, set_cons_zero, set_cons_succ, i64_w, i32_w]; rfl
                        refine pure_ (i := 2) (N := some 183) (v := ?_) (a' := ?_) #[true, true, true, false, false, false, false, false, false, false, false, false, false, false, false, false, false, false] rfl rfl (any_of HT_.out (by kernel_rfl)) (fun _ _ _ h => h) (Or.inl ⟨by rfl, ?_⟩) ?_ ?_
                        rotate_left
                        ·
                         intro w'
                         go_simp
                         with_reducible rfl
                        rotate_left
                        · simp only [Act.put, setIfInBounds_toArray, set_cons_zero, set_cons_succ, i64_w, i32_w]; rfl
                        refine pure_ (i := 3) (N := some 184) (v := ?_) (a' := ?_) #[true, true, true, true, false, false, false, false, false, false, false, false, false, false, false, false, false, false] rfl rfl (any_of HT_.out (by kernel_rfl)) (fun _ _ _ h => h) (Or.inl ⟨by rfl, ?_⟩) ?_ ?_
                        rotate_left
                        ·
                         intro w'
                         go_simp
                         with_reducible rfl
                        rotate_left
                        · simp only [Act.put, setIfInBounds_toArray, set_cons_zero, set_cons_succ, i64_w, i32_w]; rfl
                        refine pure_ (i := 4) (N := some 185) (v := ?_) (a' := ?_) #[true, true, true, true, true, false, false, false, false, false, false, false, false, false, false, false, false, false] rfl rfl (any_of HT_.out (by kernel_rfl)) (fun _ _ _ h => h) (Or.inl ⟨by rfl, ?_⟩) ?_ ?_
                        rotate_left
                        ·
                         intro w'
                         go_simp
                         with_reducible rfl
                        rotate_left
                        · simp only [Act.put, setIfInBounds_toArray, set_cons_zero, set_cons_succ, i64_w, i32_w]; rfl
                        refine pure_ (i := 5) (N := some 186) (v := ?_) (a' := ?_) #[true, true, true, true, true, true, false, false, false, false, false, false, false, false, false, false, false, false] rfl rfl (any_of HT_.out (by kernel_rfl)) (fun _ _ _ h => h) (Or.inl ⟨by rfl, ?_⟩) ?_ ?_
                        rotate_left
                        ·
                         intro w'
                         go_simp
                         with_reducible rfl
                        rotate_left
                        · simp only [Act.put, setIfInBounds_toArray, set_cons_zero, set_cons_succ, i64_w, i32_w]; rfl
                        refine pure_ (i := 6) (N := some 187) (v := ?_) (a' := ?_) #[true, true, true, true, true, true, true, false, false, false, false, false, false, false, false, false, false, false] rfl rfl (any_of HT_.out (by kernel_rfl)) (fun _ _ _ h => h) (Or.inl ⟨by rfl, ?_⟩) ?_ ?_
                        rotate_left
                        ·
                         intro w'
                         go_simp
                         with_reducible rfl
                        rotate_left
                        · simp only [Act.put, setIfInBounds_toArray, set_cons_zero, set_cons_succ, i64_w, i32_w]; rfl
                        refine pure_ (i := 7) (N := some 188) (v := ?_) (a' := ?_) #[true, true, true, true, true, true, true, true, false, false, false, false, false, false, false, false, false, false] rfl rfl (any_of HT_.out (by kernel_rfl)) (fun _ _ _ h => h) (Or.inl ⟨by rfl, ?_⟩) ?_ ?_
                        rotate_left
                        ·
                         intro w'
                         go_simp
                         with_reducible rfl
                        rotate_left
                        · simp only [Act.put, setIfInBounds_toArray, set_cons_zero, set_cons_succ, i64_w, i32_w]; rfl
                        refine pure_ (i := 8) (N := some 189) (v := ?_) (a' := ?_) #[true, true, true, true, true, true, true, true, true, false, false, false, false, false, false, false, false, false] rfl rfl (any_of HT_.out (by kernel_rfl)) (fun _ _ _ h => h) (Or.inl ⟨by rfl, ?_⟩) ?_ ?_
                        rotate_left
                        ·
                         intro w'
                         go_simp
                         with_reducible rfl
                        rotate_left
                        · simp only [Act.put, setIfInBounds_toArray, set_cons_zero, set_cons_succ, i64_w, i32_w]; rfl
                        refine pure_ (i := 9) (N := some 190) (v := ?_) (a' := ?_) #[true, true, true, true, true, true, true, true, true, true, false, false, false, false, false, false, false, false] rfl rfl (any_of HT_.out (by kernel_rfl)) (fun _ _ _ h => h) (Or.inl ⟨by rfl, ?_⟩) ?_ ?_
                        rotate_left
                        ·
                         intro w'
                         go_simp
                         with_reducible rfl
                        rotate_left
                        · simp only [Act.put, setIfInBounds_toArray, set_cons_zero, set_cons_succ, i64_w, i32_w]; rfl
                        refine pure_ (i := 10) (N := some 191) (v := ?_) (a' := ?_) #[true, true, true, true, true, true, true, true, true, true, true, false, false, false, false, false, false, false] rfl rfl (any_of HT_.out (by kernel_rfl)) (fun _ _ _ h => h) (Or.inl ⟨by rfl, ?_⟩) ?_ ?_
                        rotate_left
                        ·
                         intro w'
                         go_simp
                         with_reducible rfl
                        rotate_left
                        · simp only [Act.put, setIfInBounds_toArray, set_cons_zero, set_cons_succ, i64_w, i32_w]; rfl
                        refine pure_ (i := 12) (N := some 193) (v := ?_) (a' := ?_) #[true, true, true, true, true, true, true, true, true, true, true, false, true, false, false, false, false, false] rfl rfl (any_of HT_.out (by kernel_rfl)) (fun _ _ _ h => h) (Or.inl ⟨by rfl, ?_⟩) ?_ ?_
                        rotate_left
                        ·
                         intro w'
                         go_simp
                         with_reducible rfl
                        rotate_left
                        · simp only [Act.put, setIfInBounds_toArray, set_cons_zero, set_cons_succ, i64_w, i32_w]; rfl
                        refine pure_ (i := 13) (N := some 194) (v := ?_) (a' := ?_) #[true, true, true, true, true, true, true, true, true, true, true, false, true, true, false, false, false, false] rfl rfl (any_of HT_.out (by kernel_rfl)) (fun _ _ _ h => h) (Or.inl ⟨by rfl, ?_⟩) ?_ ?_
                        rotate_left
                        ·
                         intro w'
                         go_simp
                         with_reducible rfl
                        rotate_left
                        · simp only [Act.put, setIfInBounds_toArray, set_cons_zero, set_cons_succ, i64_w, i32_w]; rfl
                        refine pure_ (i := 14) (N := some 195) (v := ?_) (a' := ?_) #[true, true, true, true, true, true, true, true, true, true, true, false, true, true, true, false, false, false] rfl rfl (any_of HT_.out (by kernel_rfl)) (fun _ _ _ h => h) (Or.inl ⟨by rfl, ?_⟩) ?_ ?_
                        rotate_left
                        ·
                         intro w'
                         go_simp
                         with_reducible rfl
                        rotate_left
                        · simp only [Act.put, setIfInBounds_toArray, set_cons_zero, set_cons_succ, i64_w, i32_w]; rfl
                        refine take_ (i := 11) (N := some 192) (v := ?_) (a' := ?_) #[true, true, true, true, true, true, true, true, true, true, true, true, true, true, true, false, false, false] rfl rfl (take_ofW HT_.out HW_.out (by kernel_rfl)) (fun _ _ _ h => h) (Or.inl ⟨by rfl, ?_⟩) hHeld ?_ ?_
                        rotate_left
                        ·
                         rintro w' ⟨s0, s1⟩
                         go_simp
                         with_reducible rfl
                        rotate_left
                        · simp only [Act.put, setIfInBounds_toArray, set_cons_zero, set_cons_succ, i64_w, i32_w]; rfl
                        refine take_ (i := 15) (N := some 196) (v := ?_) (a' := ?_) #[true, true, true, true, true, true, true, true, true, true, true, true, true, true, true, true, false, false] rfl rfl (take_ofW HT_.out HW_.out (by kernel_rfl)) (fun _ _ _ h => h) (Or.inl ⟨by rfl, ?_⟩) hHeld ?_ ?_
                        rotate_left
                        ·
                         rintro w' ⟨s0, s1⟩
                         go_simp
                         with_reducible rfl
                        rotate_left
                        · simp only [Act.put, setIfInBounds_toArray, set_cons_zero, set_cons_succ, i64_w, i32_w]; rfl
                        refine pure_ (i := 16) (N := some 197) (v := ?_) (a' := ?_) #[true, true, true, true, true, true, true, true, true, true, true, true, true, true, true, true, true, false] rfl rfl (any_of HT_.out (by kernel_rfl)) (fun _ _ _ h => h) (Or.inl ⟨by rfl, ?_⟩) ?_ ?_
                        rotate_left
                        ·
                         intro w'
                         go_simp
                         with_reducible rfl
                        rotate_left
                        · simp only [Act.put, setIfInBounds_toArray, set_cons_zero, set_cons_succ, i64_w, i32_w]; rfl
                        refine pure_ (i := 17) (N := some 198) (v := ?_) (a' := ?_) #[true, true, true, true, true, true, true, true, true, true, true, true, true, true, true, true, true, true] rfl rfl (any_of HT_.out (by kernel_rfl)) (fun _ _ _ h => h) (Or.inl ⟨by rfl, ?_⟩) ?_ ?_
                        rotate_left
                        ·
                         intro w'
                         go_simp
                         with_reducible rfl
                        rotate_left
                        · simp only [Act.put, setIfInBounds_toArray, set_cons_zero, set_cons_succ, i64_w, i32_w]; rfl
                        refine done_ (done_of HT_.out (by kernel_rfl)) ?_
                        have H := H'.out
                        clear H'
                        by_cases c95 : (rd x14_3 (ji90)) < (rd x13_3 x23_4)
                        ·
                         rw [if_pos c95] at H
                         have c95b0 : decide ((rd x14_3 (ji90)) < (rd x13_3 x23_4)) = true := decide_eq_true c95
                         (first | rw [c95b0] | simp only [c95b0] | skip)
                         clear c95
                         have H' := zA H
                         clear H
                         try go_wp2
                         go_roundg k5
                         case measure => have := HK1.out; have := HK2.out; have := HK3.out; have := HK4.out; have := HK5.out; omega
                         case rel => exact ⟨(wrap64 (x24_5 + 1)), zqQ, H', ⟨by have := HK1.out; have := HK2.out; have := HK3.out; have := HK4.out; have := HK5.out; omega⟩, ⟨zqC HO_12.out⟩, ⟨zqC HO_13.out⟩, ⟨zqC HO_14.out⟩, ⟨zqC HO_22.out⟩, ⟨zqB BK365.out⟩, ⟨zqB BK366.out⟩, ⟨zqH HB.out GE365.out GE366.out⟩⟩
                        ·
                         rw [if_neg c95] at H
                         have c95b0 : decide ((rd x14_3 (ji90)) < (rd x13_3 x23_4)) = false := decide_eq_false c95
                         (first | rw [c95b0] | simp only [c95b0] | skip)
                         clear c95
                         by_cases c99 : (ji90) = t368
                         ·
                          rw [if_pos c99] at H
                          have c99b0 : ((ji90) == t368) = true := beq_iff_eq.mpr c99
                          have c99b1 : ((ji90) != t368) = false := bne_eq_false_iff_eq.mpr c99
                          clear c99
                          by_cases c100 : x22_4.length < 17592186044416
                          ·
                           rw [if_pos c100] at H
                           have LMc100 := zA c100
                           clear c100
                           obtain ⟨y405, hy405⟩ : ∃ y_ : List Int, y_ = (x22_4 ++ [(-1)]) := ⟨_, rfl⟩
                           replace H : (pianolaref04_Lacks.l5 k5 t368 x12_3 x13_3 x14_3 y405 (wrap64 (x23_4 + 1))) = some (r1, r2, r3) := zqF hy405 H
                           have Ny405 := zA hy405
                           clear hy405
                           have H' := zA H
                           clear H
                           try go_wp2_with (first | ((with_reducible refine gate_builtin (b := .append) (xs := #[.tmp 206, .tmp 208]) rfl ?_); at_builtin; refine Kd.R_append (Kd.int .i64) (w0 := w) w.heap.size rfl (.tmp 206) (.tmp 208) 30 3 (.int .i64 0) 8 rfl Try.underlying30 info3 rfl (by decide) (by omega) u22 x22_4 (-1) [.int .i64 (-1)] (fun k_ => some k_ ≠ (u12 : Value).ownBlock ∧ some k_ ≠ (.slice (some ad404) x13_3.length co98 : Value).ownBlock ∧ some k_ ≠ (.slice (some ad403) x14_3.length co97 : Value).ownBlock) (fun _ => False) rfl rfl ?aP (fun _ hk => hk.elim) ?aF ?aO ?aB ?aS ?aL ?_; (case aP => exact rfl); (case aB => exact (zqH HB.out GE365.out GE366.out)); (case aF => exact (fun k_ hk => ⟨Kd.fresh' (Kd.R_lt (zqC HO_12.out)) k_ hk, Kd.fresh' (Kd.R_lt (zqC HO_13.out)) k_ hk, Kd.fresh' (Kd.R_lt (zqC HO_14.out)) k_ hk⟩)); (case aO => exact (zqC HO_22.out)); (case aS => exact (below_size (zqH HB.out GE365.out GE366.out))); (case aL => have := LMc100.out; omega); intro v406 w104 ho hb hg hat; rw [← Ny405.out] at ho; have n0_ := zA (Kd.R_after (ok := (fun k_ => some k_ ≠ (.slice (some ad404) x13_3.length co98 : Value).ownBlock ∧ some k_ ≠ (.slice (some ad403) x14_3.length co97 : Value).ownBlock)) (by (with_reducible repeat (first | apply Kd.R_alloc | apply Kd.R_drewN | apply Kd.R_drew)); exact Kd.R_mono HO_12.out (fun _ hk => ⟨⟨hk.1, hk.2.1⟩, hk.2.2⟩)) hg hat); have n1_ := zA (Kd.R_after (ok := (fun k_ => some k_ ≠ (u12 : Value).ownBlock ∧ some k_ ≠ (.slice (some ad403) x14_3.length co97 : Value).ownBlock)) (by (with_reducible repeat (first | apply Kd.R_alloc | apply Kd.R_drewN | apply Kd.R_drew)); exact Kd.R_mono HO_13.out (fun _ hk => ⟨⟨hk.1, hk.2.1⟩, hk.2.2⟩)) hg hat); have n2_ := zA (Kd.R_after (ok := (fun k_ => some k_ ≠ (u12 : Value).ownBlock ∧ some k_ ≠ (.slice (some ad404) x13_3.length co98 : Value).ownBlock)) (by (with_reducible repeat (first | apply Kd.R_alloc | apply Kd.R_drewN | apply Kd.R_drew)); exact Kd.R_mono HO_14.out (fun _ hk => ⟨⟨hk.1, hk.2.1⟩, hk.2.2⟩)) hg hat); have n3_ := zA (blk_grown (g := gb365) (o := .cells #[.slice A0_0 l0_0.length c0_0, .slice A0_1 l0_1.length c0_1] 44 (0, 0)) (zqB BK365.out) hg (Kd.R_ne HO_22.out BK365.out (by decide))); have n4_ := zA (blk_grown (g := gb366) (o := .cells #[.slice A1_0 l1_0.length c1_0, .slice A1_1 l1_1.length c1_1] 61 (0, 0)) (zqB BK366.out) hg (Kd.R_ne HO_22.out BK366.out (by decide))); have n5_ := zA (hb); have n6_ := zA (ho); clear HO_12; clear HO_13; clear HO_14; clear BK365; clear BK366; clear HB; clear HO_22; have HO_12 := n0_; have HO_13 := n1_; have HO_14 := n2_; have BK365 := n3_; have BK366 := n4_; have HB := n5_; have HO407 := n6_; clear n0_ n1_ n2_ n3_ n4_ n5_ n6_; clear ho hb hg hat))
                           go_roundg k5
                           case measure => have := HK1.out; have := HK2.out; have := HK3.out; have := HK4.out; have := HK5.out; omega
                           case rel => exact ⟨(y405), (wrap64 (x23_4 + 1)), zqQ, H', ⟨by have := HK1.out; have := HK2.out; have := HK3.out; have := HK4.out; have := HK5.out; omega⟩, ⟨by (with_reducible repeat (first | apply Kd.R_alloc | apply Kd.R_drewN | apply Kd.R_drew)); exact Kd.R_mono HO_12.out (fun _ hk => ⟨hk.1.1, ⟨hk.1.2, hk.2⟩⟩)⟩, ⟨by (with_reducible repeat (first | apply Kd.R_alloc | apply Kd.R_drewN | apply Kd.R_drew)); exact Kd.R_mono HO_13.out (fun _ hk => ⟨hk.1.1, ⟨hk.1.2, hk.2⟩⟩)⟩, ⟨by (with_reducible repeat (first | apply Kd.R_alloc | apply Kd.R_drewN | apply Kd.R_drew)); exact Kd.R_mono HO_14.out (fun _ hk => ⟨hk.1.1, ⟨hk.1.2, hk.2⟩⟩)⟩, ⟨zqC HO407.out⟩, ⟨zqB BK365.out⟩, ⟨zqB BK366.out⟩, ⟨zqH HB.out GE365.out GE366.out⟩⟩
                          ·
                           rw [if_neg c100] at H
                           exact absurd H (by simp)
                         ·
                          rw [if_neg c99] at H
                          have c99b0 : ((ji90) == t368) = false := beq_eq_false_iff_ne.mpr c99
                          have c99b1 : ((ji90) != t368) = true := bne_iff_ne.mpr c99
                          by_cases c105 : x22_4.length < 17592186044416
                          ·
                           rw [if_pos c105] at H
                           have LMc105 := zA c105
                           clear c105
                           obtain ⟨y408, hy408⟩ : ∃ y_ : List Int, y_ = (x22_4 ++ [x24_5]) := ⟨_, rfl⟩
                           replace H : (pianolaref04_Lacks.l5 k5 t368 x12_3 x13_3 x14_3 y408 (wrap64 (x23_4 + 1))) = some (r1, r2, r3) := zqF hy408 H
                           have Ny408 := zA hy408
                           clear hy408
                           have H' := zA H
                           clear H
                           try go_wp2_with (first | ((with_reducible refine gate_builtin (b := .append) (xs := #[.tmp 206, .tmp 208]) rfl ?_); at_builtin; refine Kd.R_append (Kd.int .i64) (w0 := w) w.heap.size rfl (.tmp 206) (.tmp 208) 30 3 (.int .i64 0) 8 rfl Try.underlying30 info3 rfl (by decide) (by omega) u22 x22_4 x24_5 [.int .i64 x24_5] (fun k_ => some k_ ≠ (u12 : Value).ownBlock ∧ some k_ ≠ (.slice (some ad404) x13_3.length co98 : Value).ownBlock ∧ some k_ ≠ (.slice (some ad403) x14_3.length co97 : Value).ownBlock) (fun _ => False) rfl rfl ?aP (fun _ hk => hk.elim) ?aF ?aO ?aB ?aS ?aL ?_; (case aP => exact rfl); (case aB => exact (zqH HB.out GE365.out GE366.out)); (case aF => exact (fun k_ hk => ⟨Kd.fresh' (Kd.R_lt (zqC HO_12.out)) k_ hk, Kd.fresh' (Kd.R_lt (zqC HO_13.out)) k_ hk, Kd.fresh' (Kd.R_lt (zqC HO_14.out)) k_ hk⟩)); (case aO => exact (zqC HO_22.out)); (case aS => exact (below_size (zqH HB.out GE365.out GE366.out))); (case aL => have := LMc105.out; omega); intro v409 w109 ho hb hg hat; rw [← Ny408.out] at ho; have n0_ := zA (Kd.R_after (ok := (fun k_ => some k_ ≠ (.slice (some ad404) x13_3.length co98 : Value).ownBlock ∧ some k_ ≠ (.slice (some ad403) x14_3.length co97 : Value).ownBlock)) (by (with_reducible repeat (first | apply Kd.R_alloc | apply Kd.R_drewN | apply Kd.R_drew)); exact Kd.R_mono HO_12.out (fun _ hk => ⟨⟨hk.1, hk.2.1⟩, hk.2.2⟩)) hg hat); have n1_ := zA (Kd.R_after (ok := (fun k_ => some k_ ≠ (u12 : Value).ownBlock ∧ some k_ ≠ (.slice (some ad403) x14_3.length co97 : Value).ownBlock)) (by (with_reducible repeat (first | apply Kd.R_alloc | apply Kd.R_drewN | apply Kd.R_drew)); exact Kd.R_mono HO_13.out (fun _ hk => ⟨⟨hk.1, hk.2.1⟩, hk.2.2⟩)) hg hat); have n2_ := zA (Kd.R_after (ok := (fun k_ => some k_ ≠ (u12 : Value).ownBlock ∧ some k_ ≠ (.slice (some ad404) x13_3.length co98 : Value).ownBlock)) (by (with_reducible repeat (first | apply Kd.R_alloc | apply Kd.R_drewN | apply Kd.R_drew)); exact Kd.R_mono HO_14.out (fun _ hk => ⟨⟨hk.1, hk.2.1⟩, hk.2.2⟩)) hg hat); have n3_ := zA (blk_grown (g := gb365) (o := .cells #[.slice A0_0 l0_0.length c0_0, .slice A0_1 l0_1.length c0_1] 44 (0, 0)) (zqB BK365.out) hg (Kd.R_ne HO_22.out BK365.out (by decide))); have n4_ := zA (blk_grown (g := gb366) (o := .cells #[.slice A1_0 l1_0.length c1_0, .slice A1_1 l1_1.length c1_1] 61 (0, 0)) (zqB BK366.out) hg (Kd.R_ne HO_22.out BK366.out (by decide))); have n5_ := zA (hb); have n6_ := zA (ho); clear HO_12; clear HO_13; clear HO_14; clear BK365; clear BK366; clear HB; clear HO_22; have HO_12 := n0_; have HO_13 := n1_; have HO_14 := n2_; have BK365 := n3_; have BK366 := n4_; have HB := n5_; have HO410 := n6_; clear n0_ n1_ n2_ n3_ n4_ n5_ n6_; clear ho hb hg hat))
                           go_roundg k5
                           case measure => have := HK1.out; have := HK2.out; have := HK3.out; have := HK4.out; have := HK5.out; omega
                           case rel => exact ⟨(y408), (wrap64 (x23_4 + 1)), zqQ, H', ⟨by have := HK1.out; have := HK2.out; have := HK3.out; have := HK4.out; have := HK5.out; omega⟩, ⟨by (with_reducible repeat (first | apply Kd.R_alloc | apply Kd.R_drewN | apply Kd.R_drew)); exact Kd.R_mono HO_12.out (fun _ hk => ⟨hk.1.1, ⟨hk.1.2, hk.2⟩⟩)⟩, ⟨by (with_reducible repeat (first | apply Kd.R_alloc | apply Kd.R_drewN | apply Kd.R_drew)); exact Kd.R_mono HO_13.out (fun _ hk => ⟨hk.1.1, ⟨hk.1.2, hk.2⟩⟩)⟩, ⟨by (with_reducible repeat (first | apply Kd.R_alloc | apply Kd.R_drewN | apply Kd.R_drew)); exact Kd.R_mono HO_14.out (fun _ hk => ⟨hk.1.1, ⟨hk.1.2, hk.2⟩⟩)⟩, ⟨zqC HO410.out⟩, ⟨zqB BK365.out⟩, ⟨zqB BK366.out⟩, ⟨zqH HB.out GE365.out GE366.out⟩⟩
                          ·
                           rw [if_neg c105] at H
                           exact absurd H (by simp)
                       ·
                        rw [if_neg c94] at H
                        exact absurd H (by simp)
                      ·
                       rw [if_neg c93] at H
                       exact absurd H (by simp)
                     ·
                      rw [if_neg c92] at H
                      exact absurd H (by simp)
                    ·
                     rw [if_neg c91] at H
                     exact absurd H (by simp)
                   ·
                    rw [if_neg c89] at H
                    have c89b0 : decide ((wrap64 (x23_4 + x24_5)) < t368) = false := decide_eq_false c89
                    clear c89
                    have H' := zA H
                    clear H
                    try go_wp2
                    have n0_ := zA (Kd.R_drew HO_12.out); have n1_ := zA (Kd.R_drew HO_13.out); have n2_ := zA (Kd.R_drew HO_14.out); have n3_ := zA (Kd.R_drew HO_22.out); have n4_ := zA (blk_drew BK365.out); have n5_ := zA (blk_drew BK366.out); have n6_ := zA (below_drew1 HB.out); clear HO_12 HO_13 HO_14 HO_22 BK365 BK366 HB; have HO_12 := n0_; have HO_13 := n1_; have HO_14 := n2_; have HO_22 := n3_; have BK365 := n4_; have BK366 := n5_; have HB := n6_; clear n0_ n1_ n2_ n3_ n4_ n5_ n6_
                    refine start_ (n := 18) (S := fun w' => True) (ds := []) #[false, false, false, false, false, false, false, false, false, false, false, false, false, false, false, false, false, false] (by kernel_rfl) rfl rfl trivial (fun hHeld => ?_); refine with_tabW pianolaref04_Lacks.tab44 pianolaref04_Lacks.bits44 (fun HT_ HW_ => ?_)
                    generalize wr.drew = w112 at HO_12 HO_13 HO_14 HO_22 BK365 BK366 HB hHeld ⊢
                    refine pure_ (i := 0) (N := some 181) (v := ?_) (a' := ?_) #[true, false, false, false, false, false, false, false, false, false, false, false, false, false, false, false, false, false] rfl rfl (any_of HT_.out (by kernel_rfl)) (fun _ _ _ h => h) (Or.inl ⟨by rfl, ?_⟩) ?_ ?_
                    rotate_left
                    ·
                     intro w'
                     go_simp
                     with_reducible rfl
                    rotate_left
                    · simp only [Act.put, setIfInBounds_toArray, set_cons_zero, set_cons_succ, i64_w, i32_w]; rfl
                    refine pure_ (i := 1) (N := some 182) (v := ?_) (a' := ?_) #[true, true, false, false, false, false, false, false, false, false, false, false, false, false, false, false, false, false] rfl rfl (any_of HT_.out (by kernel_rfl)) (fun _ _ _ h => h) (Or.inl ⟨by rfl, ?_⟩) ?_ ?_
                    rotate_left
                    ·
                     intro w'
                     go_simp
                     with_reducible rfl
                    rotate_left
                    · simp only [Act.put, setIfInBounds_toArray, set_cons_zero, set_cons_succ, i64_w, i32_w]; rfl
                    refine pure_ (i := 2) (N := some 183) (v := ?_) (a' := ?_) #[true, true, true, false, false, false, false, false, false, false, false, false, false, false, false, false, false, false] rfl rfl (any_of HT_.out (by kernel_rfl)) (fun _ _ _ h => h) (Or.inl ⟨by rfl, ?_⟩) ?_ ?_
                    rotate_left
                    ·
                     intro w'
                     go_simp
                     with_reducible rfl
                    rotate_left
                    · simp only [Act.put, setIfInBounds_toArray, set_cons_zero, set_cons_succ, i64_w, i32_w]; rfl
                    refine pure_ (i := 3) (N := some 184) (v := ?_) (a' := ?_) #[true, true, true, true, false, false, false, false, false, false, false, false, false, false, false, false, false, false] rfl rfl (any_of HT_.out (by kernel_rfl)) (fun _ _ _ h => h) (Or.inl ⟨by rfl, ?_⟩) ?_ ?_
                    rotate_left
                    ·
                     intro w'
                     go_simp
                     with_reducible rfl
                    rotate_left
                    · simp only [Act.put, setIfInBounds_toArray, set_cons_zero, set_cons_succ, i64_w, i32_w]; rfl
                    refine pure_ (i := 4) (N := some 185) (v := ?_) (a' := ?_) #[true, true, true, true, true, false, false, false, false, false, false, false, false, false, false, false, false, false] rfl rfl (any_of HT_.out (by kernel_rfl)) (fun _ _ _ h => h) (Or.inl ⟨by rfl, ?_⟩) ?_ ?_
                    rotate_left
                    ·
                     intro w'
                     go_simp
                     with_reducible rfl
                    rotate_left
                    · simp only [Act.put, setIfInBounds_toArray, set_cons_zero, set_cons_succ, i64_w, i32_w]; rfl
                    refine pure_ (i := 5) (N := some 186) (v := ?_) (a' := ?_) #[true, true, true, true, true, true, false, false, false, false, false, false, false, false, false, false, false, false] rfl rfl (any_of HT_.out (by kernel_rfl)) (fun _ _ _ h => h) (Or.inl ⟨by rfl, ?_⟩) ?_ ?_
                    rotate_left
                    ·
                     intro w'
                     go_simp
                     with_reducible rfl
                    rotate_left
                    · simp only [Act.put, setIfInBounds_toArray, set_cons_zero, set_cons_succ, i64_w, i32_w]; rfl
                    refine pure_ (i := 6) (N := some 187) (v := undef) (a' := ?_) #[true, true, true, true, true, true, true, false, false, false, false, false, false, false, false, false, false, false] rfl rfl (any_of HT_.out (by kernel_rfl)) (fun _ _ _ h => h) (Or.inr ⟨by rfl, rfl⟩) ?_ ?_
                    rotate_left
                    · simp only [Act.put, setIfInBounds_toArray, set_cons_zero, set_cons_succ, i64_w, i32_w]; rfl
                    refine pure_ (i := 7) (N := some 188) (v := undef) (a' := ?_) #[true, true, true, true, true, true, true, true, false, false, false, false, false, false, false, false, false, false] rfl rfl (any_of HT_.out (by kernel_rfl)) (fun _ _ _ h => h) (Or.inr ⟨by rfl, rfl⟩) ?_ ?_
                    rotate_left
                    · simp only [Act.put, setIfInBounds_toArray, set_cons_zero, set_cons_succ, i64_w, i32_w]; rfl
                    refine pure_ (i := 8) (N := some 189) (v := undef) (a' := ?_) #[true, true, true, true, true, true, true, true, true, false, false, false, false, false, false, false, false, false] rfl rfl (any_of HT_.out (by kernel_rfl)) (fun _ _ _ h => h) (Or.inr ⟨by rfl, rfl⟩) ?_ ?_
                    rotate_left
                    · simp only [Act.put, setIfInBounds_toArray, set_cons_zero, set_cons_succ, i64_w, i32_w]; rfl
                    refine pure_ (i := 9) (N := some 190) (v := undef) (a' := ?_) #[true, true, true, true, true, true, true, true, true, true, false, false, false, false, false, false, false, false] rfl rfl (any_of HT_.out (by kernel_rfl)) (fun _ _ _ h => h) (Or.inr ⟨by rfl, rfl⟩) ?_ ?_
                    rotate_left
                    · simp only [Act.put, setIfInBounds_toArray, set_cons_zero, set_cons_succ, i64_w, i32_w]; rfl
                    refine pure_ (i := 10) (N := some 191) (v := undef) (a' := ?_) #[true, true, true, true, true, true, true, true, true, true, true, false, false, false, false, false, false, false] rfl rfl (any_of HT_.out (by kernel_rfl)) (fun _ _ _ h => h) (Or.inr ⟨by rfl, rfl⟩) ?_ ?_
                    rotate_left
                    · simp only [Act.put, setIfInBounds_toArray, set_cons_zero, set_cons_succ, i64_w, i32_w]; rfl
                    refine pure_ (i := 11) (N := some 192) (v := undef) (a' := ?_) #[true, true, true, true, true, true, true, true, true, true, true, true, false, false, false, false, false, false] rfl rfl (any_of HT_.out (by kernel_rfl)) (fun _ _ _ h => h) (Or.inr ⟨by rfl, rfl⟩) ?_ ?_
                    rotate_left
                    · simp only [Act.put, setIfInBounds_toArray, set_cons_zero, set_cons_succ, i64_w, i32_w]; rfl
                    refine pure_ (i := 12) (N := some 193) (v := undef) (a' := ?_) #[true, true, true, true, true, true, true, true, true, true, true, true, true, false, false, false, false, false] rfl rfl (any_of HT_.out (by kernel_rfl)) (fun _ _ _ h => h) (Or.inr ⟨by rfl, rfl⟩) ?_ ?_
                    rotate_left
                    · simp only [Act.put, setIfInBounds_toArray, set_cons_zero, set_cons_succ, i64_w, i32_w]; rfl
                    refine pure_ (i := 13) (N := some 194) (v := undef) (a' := ?_) #[true, true, true, true, true, true, true, true, true, true, true, true, true, true, false, false, false, false] rfl rfl (any_of HT_.out (by kernel_rfl)) (fun _ _ _ h => h) (Or.inr ⟨by rfl, rfl⟩) ?_ ?_
                    rotate_left
                    · simp only [Act.put, setIfInBounds_toArray, set_cons_zero, set_cons_succ, i64_w, i32_w]; rfl
                    refine pure_ (i := 14) (N := some 195) (v := undef) (a' := ?_) #[true, true, true, true, true, true, true, true, true, true, true, true, true, true, true, false, false, false] rfl rfl (any_of HT_.out (by kernel_rfl)) (fun _ _ _ h => h) (Or.inr ⟨by rfl, rfl⟩) ?_ ?_
                    rotate_left
                    · simp only [Act.put, setIfInBounds_toArray, set_cons_zero, set_cons_succ, i64_w, i32_w]; rfl
                    refine pure_ (i := 15) (N := some 196) (v := undef) (a' := ?_) #[true, true, true, true, true, true, true, true, true, true, true, true, true, true, true, true, false, false] rfl rfl (any_of HT_.out (by kernel_rfl)) (fun _ _ _ h => h) (Or.inr ⟨by rfl, rfl⟩) ?_ ?_
                    rotate_left
                    · simp only [Act.put, setIfInBounds_toArray, set_cons_zero, set_cons_succ, i64_w, i32_w]; rfl
                    refine pure_ (i := 16) (N := some 197) (v := undef) (a' := ?_) #[true, true, true, true, true, true, true, true, true, true, true, true, true, true, true, true, true, false] rfl rfl (any_of HT_.out (by kernel_rfl)) (fun _ _ _ h => h) (Or.inr ⟨by rfl, rfl⟩) ?_ ?_
                    rotate_left
                    · simp only [Act.put, setIfInBounds_toArray, set_cons_zero, set_cons_succ, i64_w, i32_w]; rfl
                    refine pure_ (i := 17) (N := some 198) (v := ?_) (a' := ?_) #[true, true, true, true, true, true, true, true, true, true, true, true, true, true, true, true, true, true] rfl rfl (any_of HT_.out (by kernel_rfl)) (fun _ _ _ h => h) (Or.inl ⟨by rfl, ?_⟩) ?_ ?_
                    rotate_left
                    ·
                     intro w'
                     go_simp
                     with_reducible rfl
                    rotate_left
                    · simp only [Act.put, setIfInBounds_toArray, set_cons_zero, set_cons_succ, i64_w, i32_w]; rfl
                    refine done_ (done_of HT_.out (by kernel_rfl)) ?_
                    have H := H'.out
                    clear H'
                    by_cases c110 : (wrap64 (x23_4 + x24_5)) = t368
                    ·
                     rw [if_pos c110] at H
                     have c110b0 : ((wrap64 (x23_4 + x24_5)) == t368) = true := beq_iff_eq.mpr c110
                     have c110b1 : ((wrap64 (x23_4 + x24_5)) != t368) = false := bne_eq_false_iff_eq.mpr c110
                     clear c110
                     by_cases c111 : x22_4.length < 17592186044416
                     ·
                      rw [if_pos c111] at H
                      have LMc111 := zA c111
                      clear c111
                      obtain ⟨y411, hy411⟩ : ∃ y_ : List Int, y_ = (x22_4 ++ [(-1)]) := ⟨_, rfl⟩
                      replace H : (pianolaref04_Lacks.l5 k5 t368 x12_3 x13_3 x14_3 y411 (wrap64 (x23_4 + 1))) = some (r1, r2, r3) := zqF hy411 H
                      have Ny411 := zA hy411
                      clear hy411
                      have H' := zA H
                      clear H
                      try go_wp2_with (first | ((with_reducible refine gate_builtin (b := .append) (xs := #[.tmp 206, .tmp 208]) rfl ?_); at_builtin; refine Kd.R_append (Kd.int .i64) (w0 := w) w.heap.size rfl (.tmp 206) (.tmp 208) 30 3 (.int .i64 0) 8 rfl Try.underlying30 info3 rfl (by decide) (by omega) u22 x22_4 (-1) [.int .i64 (-1)] (fun k_ => some k_ ≠ (u12 : Value).ownBlock ∧ some k_ ≠ (u13 : Value).ownBlock ∧ some k_ ≠ (u14 : Value).ownBlock) (fun _ => False) rfl rfl ?aP (fun _ hk => hk.elim) ?aF ?aO ?aB ?aS ?aL ?_; (case aP => exact rfl); (case aB => exact (zqH HB.out GE365.out GE366.out)); (case aF => exact (fun k_ hk => ⟨Kd.fresh' (Kd.R_lt (zqC HO_12.out)) k_ hk, Kd.fresh' (Kd.R_lt (zqC HO_13.out)) k_ hk, Kd.fresh' (Kd.R_lt (zqC HO_14.out)) k_ hk⟩)); (case aO => exact (zqC HO_22.out)); (case aS => exact (below_size (zqH HB.out GE365.out GE366.out))); (case aL => have := LMc111.out; omega); intro v412 w113 ho hb hg hat; rw [← Ny411.out] at ho; have n0_ := zA (Kd.R_after (ok := (fun k_ => some k_ ≠ (u13 : Value).ownBlock ∧ some k_ ≠ (u14 : Value).ownBlock)) (by (with_reducible repeat (first | apply Kd.R_alloc | apply Kd.R_drewN | apply Kd.R_drew)); exact Kd.R_mono HO_12.out (fun _ hk => ⟨⟨hk.1, hk.2.1⟩, hk.2.2⟩)) hg hat); have n1_ := zA (Kd.R_after (ok := (fun k_ => some k_ ≠ (u12 : Value).ownBlock ∧ some k_ ≠ (u14 : Value).ownBlock)) (by (with_reducible repeat (first | apply Kd.R_alloc | apply Kd.R_drewN | apply Kd.R_drew)); exact Kd.R_mono HO_13.out (fun _ hk => ⟨⟨hk.1, hk.2.1⟩, hk.2.2⟩)) hg hat); have n2_ := zA (Kd.R_after (ok := (fun k_ => some k_ ≠ (u12 : Value).ownBlock ∧ some k_ ≠ (u13 : Value).ownBlock)) (by (with_reducible repeat (first | apply Kd.R_alloc | apply Kd.R_drewN | apply Kd.R_drew)); exact Kd.R_mono HO_14.out (fun _ hk => ⟨⟨hk.1, hk.2.1⟩, hk.2.2⟩)) hg hat); have n3_ := zA (blk_grown (g := gb365) (o := .cells #[.slice A0_0 l0_0.length c0_0, .slice A0_1 l0_1.length c0_1] 44 (0, 0)) (zqB BK365.out) hg (Kd.R_ne HO_22.out BK365.out (by decide))); have n4_ := zA (blk_grown (g := gb366) (o := .cells #[.slice A1_0 l1_0.length c1_0, .slice A1_1 l1_1.length c1_1] 61 (0, 0)) (zqB BK366.out) hg (Kd.R_ne HO_22.out BK366.out (by decide))); have n5_ := zA (hb); have n6_ := zA (ho); clear HO_12; clear HO_13; clear HO_14; clear BK365; clear BK366; clear HB; clear HO_22; have HO_12 := n0_; have HO_13 := n1_; have HO_14 := n2_; have BK365 := n3_; have BK366 := n4_; have HB := n5_; have HO413 := n6_; clear n0_ n1_ n2_ n3_ n4_ n5_ n6_; clear ho hb hg hat))
                      go_roundg k5
                      case measure => have := HK1.out; have := HK2.out; have := HK3.out; have := HK4.out; have := HK5.out; omega
                      case rel => exact ⟨(y411), (wrap64 (x23_4 + 1)), zqQ, H', ⟨by have := HK1.out; have := HK2.out; have := HK3.out; have := HK4.out; have := HK5.out; omega⟩, ⟨by (with_reducible repeat (first | apply Kd.R_alloc | apply Kd.R_drewN | apply Kd.R_drew)); exact Kd.R_mono HO_12.out (fun _ hk => ⟨hk.1.1, ⟨hk.1.2, hk.2⟩⟩)⟩, ⟨by (with_reducible repeat (first | apply Kd.R_alloc | apply Kd.R_drewN | apply Kd.R_drew)); exact Kd.R_mono HO_13.out (fun _ hk => ⟨hk.1.1, ⟨hk.1.2, hk.2⟩⟩)⟩, ⟨by (with_reducible repeat (first | apply Kd.R_alloc | apply Kd.R_drewN | apply Kd.R_drew)); exact Kd.R_mono HO_14.out (fun _ hk => ⟨hk.1.1, ⟨hk.1.2, hk.2⟩⟩)⟩, ⟨zqC HO413.out⟩, ⟨zqB BK365.out⟩, ⟨zqB BK366.out⟩, ⟨zqH HB.out GE365.out GE366.out⟩⟩
                     ·
                      rw [if_neg c111] at H
                      exact absurd H (by simp)
                    ·
                     rw [if_neg c110] at H
                     have c110b0 : ((wrap64 (x23_4 + x24_5)) == t368) = false := beq_eq_false_iff_ne.mpr c110
                     have c110b1 : ((wrap64 (x23_4 + x24_5)) != t368) = true := bne_iff_ne.mpr c110
                     by_cases c114 : x22_4.length < 17592186044416
                     ·
                      rw [if_pos c114] at H
                      have LMc114 := zA c114
                      clear c114
                      obtain ⟨y414, hy414⟩ : ∃ y_ : List Int, y_ = (x22_4 ++ [x24_5]) := ⟨_, rfl⟩
                      replace H : (pianolaref04_Lacks.l5 k5 t368 x12_3 x13_3 x14_3 y414 (wrap64 (x23_4 + 1))) = some (r1, r2, r3) := zqF hy414 H
                      have Ny414 := zA hy414
                      clear hy414
                      have H' := zA H
                      clear H
                      try go_wp2_with (first | ((with_reducible refine gate_builtin (b := .append) (xs := #[.tmp 206, .tmp 208]) rfl ?_); at_builtin; refine Kd.R_append (Kd.int .i64) (w0 := w) w.heap.size rfl (.tmp 206) (.tmp 208) 30 3 (.int .i64 0) 8 rfl Try.underlying30 info3 rfl (by decide) (by omega) u22 x22_4 x24_5 [.int .i64 x24_5] (fun k_ => some k_ ≠ (u12 : Value).ownBlock ∧ some k_ ≠ (u13 : Value).ownBlock ∧ some k_ ≠ (u14 : Value).ownBlock) (fun _ => False) rfl rfl ?aP (fun _ hk => hk.elim) ?aF ?aO ?aB ?aS ?aL ?_; (case aP => exact rfl); (case aB => exact (zqH HB.out GE365.out GE366.out)); (case aF => exact (fun k_ hk => ⟨Kd.fresh' (Kd.R_lt (zqC HO_12.out)) k_ hk, Kd.fresh' (Kd.R_lt (zqC HO_13.out)) k_ hk, Kd.fresh' (Kd.R_lt (zqC HO_14.out)) k_ hk⟩)); (case aO => exact (zqC HO_22.out)); (case aS => exact (below_size (zqH HB.out GE365.out GE366.out))); (case aL => have := LMc114.out; omega); intro v415 w116 ho hb hg hat; rw [← Ny414.out] at ho; have n0_ := zA (Kd.R_after (ok := (fun k_ => some k_ ≠ (u13 : Value).ownBlock ∧ some k_ ≠ (u14 : Value).ownBlock)) (by (with_reducible repeat (first | apply Kd.R_alloc | apply Kd.R_drewN | apply Kd.R_drew)); exact Kd.R_mono HO_12.out (fun _ hk => ⟨⟨hk.1, hk.2.1⟩, hk.2.2⟩)) hg hat); have n1_ := zA (Kd.R_after (ok := (fun k_ => some k_ ≠ (u12 : Value).ownBlock ∧ some k_ ≠ (u14 : Value).ownBlock)) (by (with_reducible repeat (first | apply Kd.R_alloc | apply Kd.R_drewN | apply Kd.R_drew)); exact Kd.R_mono HO_13.out (fun _ hk => ⟨⟨hk.1, hk.2.1⟩, hk.2.2⟩)) hg hat); have n2_ := zA (Kd.R_after (ok := (fun k_ => some k_ ≠ (u12 : Value).ownBlock ∧ some k_ ≠ (u13 : Value).ownBlock)) (by (with_reducible repeat (first | apply Kd.R_alloc | apply Kd.R_drewN | apply Kd.R_drew)); exact Kd.R_mono HO_14.out (fun _ hk => ⟨⟨hk.1, hk.2.1⟩, hk.2.2⟩)) hg hat); have n3_ := zA (blk_grown (g := gb365) (o := .cells #[.slice A0_0 l0_0.length c0_0, .slice A0_1 l0_1.length c0_1] 44 (0, 0)) (zqB BK365.out) hg (Kd.R_ne HO_22.out BK365.out (by decide))); have n4_ := zA (blk_grown (g := gb366) (o := .cells #[.slice A1_0 l1_0.length c1_0, .slice A1_1 l1_1.length c1_1] 61 (0, 0)) (zqB BK366.out) hg (Kd.R_ne HO_22.out BK366.out (by decide))); have n5_ := zA (hb); have n6_ := zA (ho); clear HO_12; clear HO_13; clear HO_14; clear BK365; clear BK366; clear HB; clear HO_22; have HO_12 := n0_; have HO_13 := n1_; have HO_14 := n2_; have BK365 := n3_; have BK366 := n4_; have HB := n5_; have HO416 := n6_; clear n0_ n1_ n2_ n3_ n4_ n5_ n6_; clear ho hb hg hat))
                      go_roundg k5
                      case measure => have := HK1.out; have := HK2.out; have := HK3.out; have := HK4.out; have := HK5.out; omega
                      case rel => exact ⟨(y414), (wrap64 (x23_4 + 1)), zqQ, H', ⟨by have := HK1.out; have := HK2.out; have := HK3.out; have := HK4.out; have := HK5.out; omega⟩, ⟨by (with_reducible repeat (first | apply Kd.R_alloc | apply Kd.R_drewN | apply Kd.R_drew)); exact Kd.R_mono HO_12.out (fun _ hk => ⟨hk.1.1, ⟨hk.1.2, hk.2⟩⟩)⟩, ⟨by (with_reducible repeat (first | apply Kd.R_alloc | apply Kd.R_drewN | apply Kd.R_drew)); exact Kd.R_mono HO_13.out (fun _ hk => ⟨hk.1.1, ⟨hk.1.2, hk.2⟩⟩)⟩, ⟨by (with_reducible repeat (first | apply Kd.R_alloc | apply Kd.R_drewN | apply Kd.R_drew)); exact Kd.R_mono HO_14.out (fun _ hk => ⟨hk.1.1, ⟨hk.1.2, hk.2⟩⟩)⟩, ⟨zqC HO416.out⟩, ⟨zqB BK365.out⟩, ⟨zqB BK366.out⟩, ⟨zqH HB.out GE365.out GE366.out⟩⟩
                     ·
                      rw [if_neg c114] at H
                      exact absurd H (by simp)
                ·
                 rw [if_neg c88] at H
                 have c88b0 : decide (x23_4 < t368) = false := decide_eq_false c88
                 clear c88
                 simp only [Option.some.injEq, Prod.mk.injEq] at H
                 obtain ⟨rfl, rfl, rfl⟩ := H
                 go_wp2
                 go_ret3
                 exact ⟨_, _, zqR, by (with_reducible repeat (first | apply Kd.R_alloc | apply Kd.R_drewN | apply Kd.R_drew)); exact Kd.R_mono HO_12.out (fun _ hk => hk.2.2), by (with_reducible repeat (first | apply Kd.R_alloc | apply Kd.R_drewN | apply Kd.R_drew)); exact Kd.R_mono HO_22.out (fun _ hk => hk.1), zqH HB.out GE365.out GE366.out⟩
          ·
           rw [if_neg c40] at H
           exact absurd H (by simp)
         ·
          rw [if_neg c39] at H
          exact absurd H (by simp)
  ·
   rw [if_neg c6] at H
   have c6b0 : (t369 == 0) = false := beq_eq_false_iff_ne.mpr c6
   have c6b1 : (t369 != 0) = true := bne_iff_ne.mpr c6
   simp only [Option.some.injEq, Prod.mk.injEq] at H
   obtain ⟨rfl, rfl, rfl⟩ := H
   go_enter Try.func37, Try.ntmps37
   go_wp2_with (first | ((with_reducible refine gate_dst (N := 2) rfl ?_); refine box_event ?hg (N := 2) ?hd (cs := #[.slice A0_0 l0_0.length c0_0, .slice A0_1 l0_1.length c0_1]) (t := 44) ?hr ?_; (case hd => rfl); (case hg => rfl); (case hr => first | (go_simp; done) | (go_simp; rfl)); intro gb365 hg w117 hbox hb; have n0_ := zA (below_step (zqA HB.out) hb); have n1_ := zA (hbox); have n2_ := zA ((by rw [hg]; exact (below_size (zqA HB.out)) : w.heap.size ≤ gb365)); have n3_ := zA ((by rw [hg]; exact (below_size (zqA HB.out)) : w.heap.size ≤ gb365)); clear HB; have HB := n0_; have BK365 := n1_; have GW365 := n2_; have GE365 := n3_; clear n0_ n1_ n2_ n3_; clear hb hbox hg) | ((with_reducible refine gate_dst (N := 3) rfl ?_); refine box_event ?hg (N := 3) ?hd (cs := #[.slice A1_0 l1_0.length c1_0, .slice A1_1 l1_1.length c1_1]) (t := 61) ?hr ?_; (case hd => rfl); (case hg => rfl); (case hr => first | (go_simp; done) | (go_simp; rfl)); intro gb366 hg w118 hbox hb; have n0_ := zA (blk_below (g := gb365) (o := .cells #[.slice A0_0 l0_0.length c0_0, .slice A0_1 l0_1.length c0_1] 44 (0, 0)) (zqB BK365.out) hb); have n1_ := zA (below_step (zqG HB.out GE365.out) hb); have n2_ := zA (hbox); have n3_ := zA ((by rw [hg]; exact (below_size (zqG HB.out GE365.out)) : w.heap.size ≤ gb366)); have n4_ := zA ((by rw [hg]; exact (below_size (zqG HB.out GE365.out)) : w.heap.size ≤ gb366)); have n5_ := zA ((by rw [hg]; exact Nat.ne_of_lt (blk_lt (g := gb365) (o := .cells #[.slice A0_0 l0_0.length c0_0, .slice A0_1 l0_1.length c0_1] 44 (0, 0)) (zqB BK365.out)) : gb365 ≠ gb366)); have n6_ := zA ((by rw [hg]; exact Nat.ne_of_gt (blk_lt (g := gb365) (o := .cells #[.slice A0_0 l0_0.length c0_0, .slice A0_1 l0_1.length c0_1] 44 (0, 0)) (zqB BK365.out)) : gb366 ≠ gb365)); clear BK365; clear HB; have BK365 := n0_; have HB := n1_; have BK366 := n2_; have GW366 := n3_; have GE366 := n4_; have NB365_366 := n5_; have NB366_365 := n6_; clear n0_ n1_ n2_ n3_ n4_ n5_ n6_; clear hb hbox hg; have hnb119 := NB365_366.out; have hnc119 := NB366_365.out; have hcz120_0 : w118.cell? ⟨gb365, 0, none⟩ = some (.slice A0_0 l0_0.length c0_0) := (blk_cell BK365.out 0).trans rfl; have hcz120_1 : w118.cell? ⟨gb365, 1, none⟩ = some (.slice A0_1 l0_1.length c0_1) := (blk_cell BK365.out 1).trans rfl; have hfz120_0 := blk_frozen BK365.out 0; have hfz120_1 := blk_frozen BK365.out 1) | ((with_reducible refine gate_callee (f := 35) rfl ?_); refine goesL_ (some 26) rfl rfl Try.func35 (by kernel_rfl) rfl #[.agg #[.slice A0_0 l0_0.length c0_0, .slice A0_1 l0_1.length c0_1]] rfl zqE ?_; (with_reducible refine (pianolaref04_Check.calls k _ _ l0_0 _ _ l0_1 t367 _ ?side1 ?side2 ?side3 ?side4 A3.out).mono ?_); (case side1 => exact zqK (Kd.C_below HR0_0.out HB.out)); (case side2 => exact HC0_0.out); (case side3 => exact zqK (Kd.C_below HR0_1.out HB.out)); (case side4 => exact HC0_1.out); rintro e w121 ⟨rfl, hb⟩; refine ⟨_, rfl, ?_⟩; have n0_ := zA (blk_below (g := gb365) (o := .cells #[.slice A0_0 l0_0.length c0_0, .slice A0_1 l0_1.length c0_1] 44 (0, 0)) (zqB BK365.out) hb); have n1_ := zA (blk_below (g := gb366) (o := .cells #[.slice A1_0 l1_0.length c1_0, .slice A1_1 l1_1.length c1_1] 61 (0, 0)) (zqB BK366.out) hb); have n2_ := zA (below_step (zqH HB.out GE365.out GE366.out) hb); clear BK365; clear BK366; clear HB; have BK365 := n0_; have BK366 := n1_; have HB := n2_; clear n0_ n1_ n2_; (try clear hb); (try clear hb2); (try clear hk); (try clear hi); have hcz122_0 : w121.cell? ⟨gb365, 0, none⟩ = some (.slice A0_0 l0_0.length c0_0) := (blk_cell BK365.out 0).trans rfl; have hcz122_1 : w121.cell? ⟨gb365, 1, none⟩ = some (.slice A0_1 l0_1.length c0_1) := (blk_cell BK365.out 1).trans rfl; have hfz122_0 := blk_frozen BK365.out 0; have hfz122_1 := blk_frozen BK365.out 1; have hcz123_0 : w121.cell? ⟨gb366, 0, none⟩ = some (.slice A1_0 l1_0.length c1_0) := (blk_cell BK366.out 0).trans rfl; have hcz123_1 : w121.cell? ⟨gb366, 1, none⟩ = some (.slice A1_1 l1_1.length c1_1) := (blk_cell BK366.out 1).trans rfl; have hfz123_0 := blk_frozen BK366.out 0; have hfz123_1 := blk_frozen BK366.out 1) | ((with_reducible refine gate_callee (f := 75) rfl ?_); refine goesL_ (some 33) rfl rfl Try.func75 (by kernel_rfl) rfl #[.agg #[.slice A0_0 l0_0.length c0_0, .slice A0_1 l0_1.length c0_1], .agg #[.slice A1_0 l1_0.length c1_0, .slice A1_1 l1_1.length c1_1]] rfl zqE ?_; (with_reducible refine (pianolaref04_shape.calls k _ _ l0_0 _ _ l0_1 (fun k_ => k_ < w.heap.size) _ _ l1_0 (fun k_ => k_ < w.heap.size) _ _ l1_1 t368 t369 _ ?side1 ?side2 ?side3 ?side4 ?side5 ?side6 A5.out).mono ?_); (case side1 => exact zqK (Kd.C_below HR0_0.out HB.out)); (case side2 => exact HC0_0.out); (case side3 => exact zqK (Kd.C_below HR0_1.out HB.out)); (case side4 => exact HC0_1.out); (case side5 => exact Kd.V_mk HC1_0.out (Kd.F_below (Kd.C_F (Kd.heap_slice 3 (Kd.heap_int .i64)) HR1_0.out) (zqH HB.out GE365.out GE366.out))); (case side6 => exact Kd.V_mk HC1_1.out (Kd.F_below (Kd.C_F (Kd.heap_slice 3 (Kd.heap_int .i64)) HR1_1.out) (zqH HB.out GE365.out GE366.out))); rintro e w124 ⟨rfl, hb⟩; refine ⟨_, rfl, ?_⟩; have n0_ := zA (blk_below (g := gb365) (o := .cells #[.slice A0_0 l0_0.length c0_0, .slice A0_1 l0_1.length c0_1] 44 (0, 0)) (zqB BK365.out) hb); have n1_ := zA (blk_below (g := gb366) (o := .cells #[.slice A1_0 l1_0.length c1_0, .slice A1_1 l1_1.length c1_1] 61 (0, 0)) (zqB BK366.out) hb); have n2_ := zA (below_step (zqH HB.out GE365.out GE366.out) hb); clear BK365; clear BK366; clear HB; have BK365 := n0_; have BK366 := n1_; have HB := n2_; clear n0_ n1_ n2_; (try clear hb); (try clear hb2); (try clear hk); (try clear hi)))
   go_ret3
   exact ⟨_, _, zqR, by first | exact Kd.R_nil _ _ _ _ _ | exact Kd.N_nil _ _ _ _ _ | exact Kd.V_nil _ _ _ _ _ | exact Kd.Q_nil _ _ _ _ _ | exact Kd.S_nil _ _ _ _ _, by first | exact Kd.R_nil _ _ _ _ _ | exact Kd.N_nil _ _ _ _ _ | exact Kd.V_nil _ _ _ _ _ | exact Kd.Q_nil _ _ _ _ _ | exact Kd.S_nil _ _ _ _ _, zqH HB.out GE365.out GE366.out⟩
 ·
  rw [if_neg c4] at H
  have c4b0 : (t367 == 0) = false := beq_eq_false_iff_ne.mpr c4
  have c4b1 : (t367 != 0) = true := bne_iff_ne.mpr c4
  simp only [Option.some.injEq, Prod.mk.injEq] at H
  obtain ⟨rfl, rfl, rfl⟩ := H
  go_enter Try.func37, Try.ntmps37
  go_wp2_with (first | ((with_reducible refine gate_dst (N := 2) rfl ?_); refine box_event ?hg (N := 2) ?hd (cs := #[.slice A0_0 l0_0.length c0_0, .slice A0_1 l0_1.length c0_1]) (t := 44) ?hr ?_; (case hd => rfl); (case hg => rfl); (case hr => first | (go_simp; done) | (go_simp; rfl)); intro gb365 hg w125 hbox hb; have n0_ := zA (below_step (zqA HB.out) hb); have n1_ := zA (hbox); have n2_ := zA ((by rw [hg]; exact (below_size (zqA HB.out)) : w.heap.size ≤ gb365)); have n3_ := zA ((by rw [hg]; exact (below_size (zqA HB.out)) : w.heap.size ≤ gb365)); clear HB; have HB := n0_; have BK365 := n1_; have GW365 := n2_; have GE365 := n3_; clear n0_ n1_ n2_ n3_; clear hb hbox hg) | ((with_reducible refine gate_dst (N := 3) rfl ?_); refine box_event ?hg (N := 3) ?hd (cs := #[.slice A1_0 l1_0.length c1_0, .slice A1_1 l1_1.length c1_1]) (t := 61) ?hr ?_; (case hd => rfl); (case hg => rfl); (case hr => first | (go_simp; done) | (go_simp; rfl)); intro gb366 hg w126 hbox hb; have n0_ := zA (blk_below (g := gb365) (o := .cells #[.slice A0_0 l0_0.length c0_0, .slice A0_1 l0_1.length c0_1] 44 (0, 0)) (zqB BK365.out) hb); have n1_ := zA (below_step (zqG HB.out GE365.out) hb); have n2_ := zA (hbox); have n3_ := zA ((by rw [hg]; exact (below_size (zqG HB.out GE365.out)) : w.heap.size ≤ gb366)); have n4_ := zA ((by rw [hg]; exact (below_size (zqG HB.out GE365.out)) : w.heap.size ≤ gb366)); have n5_ := zA ((by rw [hg]; exact Nat.ne_of_lt (blk_lt (g := gb365) (o := .cells #[.slice A0_0 l0_0.length c0_0, .slice A0_1 l0_1.length c0_1] 44 (0, 0)) (zqB BK365.out)) : gb365 ≠ gb366)); have n6_ := zA ((by rw [hg]; exact Nat.ne_of_gt (blk_lt (g := gb365) (o := .cells #[.slice A0_0 l0_0.length c0_0, .slice A0_1 l0_1.length c0_1] 44 (0, 0)) (zqB BK365.out)) : gb366 ≠ gb365)); clear BK365; clear HB; have BK365 := n0_; have HB := n1_; have BK366 := n2_; have GW366 := n3_; have GE366 := n4_; have NB365_366 := n5_; have NB366_365 := n6_; clear n0_ n1_ n2_ n3_ n4_ n5_ n6_; clear hb hbox hg; have hnb127 := NB365_366.out; have hnc127 := NB366_365.out; have hcz128_0 : w126.cell? ⟨gb365, 0, none⟩ = some (.slice A0_0 l0_0.length c0_0) := (blk_cell BK365.out 0).trans rfl; have hcz128_1 : w126.cell? ⟨gb365, 1, none⟩ = some (.slice A0_1 l0_1.length c0_1) := (blk_cell BK365.out 1).trans rfl; have hfz128_0 := blk_frozen BK365.out 0; have hfz128_1 := blk_frozen BK365.out 1) | ((with_reducible refine gate_callee (f := 35) rfl ?_); refine goesL_ (some 26) rfl rfl Try.func35 (by kernel_rfl) rfl #[.agg #[.slice A0_0 l0_0.length c0_0, .slice A0_1 l0_1.length c0_1]] rfl zqE ?_; (with_reducible refine (pianolaref04_Check.calls k _ _ l0_0 _ _ l0_1 t367 _ ?side1 ?side2 ?side3 ?side4 A3.out).mono ?_); (case side1 => exact zqK (Kd.C_below HR0_0.out HB.out)); (case side2 => exact HC0_0.out); (case side3 => exact zqK (Kd.C_below HR0_1.out HB.out)); (case side4 => exact HC0_1.out); rintro e w129 ⟨rfl, hb⟩; refine ⟨_, rfl, ?_⟩; have n0_ := zA (blk_below (g := gb365) (o := .cells #[.slice A0_0 l0_0.length c0_0, .slice A0_1 l0_1.length c0_1] 44 (0, 0)) (zqB BK365.out) hb); have n1_ := zA (blk_below (g := gb366) (o := .cells #[.slice A1_0 l1_0.length c1_0, .slice A1_1 l1_1.length c1_1] 61 (0, 0)) (zqB BK366.out) hb); have n2_ := zA (below_step (zqH HB.out GE365.out GE366.out) hb); clear BK365; clear BK366; clear HB; have BK365 := n0_; have BK366 := n1_; have HB := n2_; clear n0_ n1_ n2_; (try clear hb); (try clear hb2); (try clear hk); (try clear hi)))
  go_ret3
  exact ⟨_, _, zqR, by first | exact Kd.R_nil _ _ _ _ _ | exact Kd.N_nil _ _ _ _ _ | exact Kd.V_nil _ _ _ _ _ | exact Kd.Q_nil _ _ _ _ _ | exact Kd.S_nil _ _ _ _ _, by first | exact Kd.R_nil _ _ _ _ _ | exact Kd.N_nil _ _ _ _ _ | exact Kd.V_nil _ _ _ _ _ | exact Kd.Q_nil _ _ _ _ _ | exact Kd.S_nil _ _ _ _ _, zqH HB.out GE365.out GE366.out⟩
end Go.Proofs.Ythoeindopljmkaa.P
end
end
