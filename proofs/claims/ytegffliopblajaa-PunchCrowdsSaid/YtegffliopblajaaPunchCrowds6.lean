/- Words and contracts for a claim. -/
import Derived.Test.YtegffliopblajaaPunchCrowds5

section
open List (setIfInBounds_toArray set_cons_zero set_cons_succ)
section
namespace Go.Proofs.Ytegffliopblajaa.P
open Go.RowKit Go.Proofs.YtegffliopblajaaW.PrintWords Go.Proofs.YtegffliopblajaaW.PrintLast Go.Proofs.YtegffliopblajaaW.PrintMore
attribute [local go_sem] max2_int min2_int max_two min_two max_three min_three max_four min_four
set_option linter.unusedVariables false
set_option linter.unusedSimpArgs false
mutual
def pianolalaw03_PunchCrowds.l0 : Nat → List Int → Int → List Int → Int → Int → Int → Int → List (S47) → Option (Bool)
  | 0, _, _, _, _, _, _, _, _ => none
  | k + 1, x1, x2, x8, x9, x24, x25, x438000, x438001 => if x25 < x24 then (if x25 < (x1.length : Int) then (if 0 ≤ x25 then (if x8.length < 17592186044416 then (pianolalaw03_PunchCrowds.l0 k x1 x2 (x8 ++ [Int.tmod (wrap64 (rd x1 x25)) 5]) (mx x9 (wrap64 ((Int.tmod (wrap64 (rd x1 x25)) 5) + 1))) x24 (wrap64 (x25 + 1)) x438000 x438001) else (none)) else (none)) else (if x8.length < 17592186044416 then (pianolalaw03_PunchCrowds.l0 k x1 x2 (x8 ++ [x25]) (mx x9 (wrap64 (x25 + 1))) x24 (wrap64 (x25 + 1)) x438000 x438001) else (none))) else ((punch_Verify.f x438000 x438001 x8).bind fun bt445 => ((punch_Crowd.f x438000 x438001 (Int.tmod (wrap64 (x2)) 60)).bind fun bt447 => (if bt447.2 = 0 then ((pianolalaw03_good.f k x438000 x438001 x8).bind fun t451 => (if ((bt445.2 == 0) != t451) = true then (pianolalaw03_PunchCrowds.j1 k x2 bt447.1 true x438000 x438001) else (if bt445.2 = 0 then (if bt445.1 = x9 then (pianolalaw03_PunchCrowds.j1 k x2 bt447.1 (decide ((bt447.1.length : Int) > bt445.1)) x438000 x438001) else (pianolalaw03_PunchCrowds.j1 k x2 bt447.1 true x438000 x438001)) else (if bt445.2 = 14 then (pianolalaw03_PunchCrowds.j1 k x2 bt447.1 false x438000 x438001) else (pianolalaw03_PunchCrowds.j1 k x2 bt447.1 true x438000 x438001))))) else (pianolalaw03_PunchCrowds.j1 k x2 bt447.1 true x438000 x438001))))
def pianolalaw03_PunchCrowds.j1 : Nat → Int → List Int → Bool → Int → List (S47) → Option (Bool)
  | 0, _, _, _, _, _ => none
  | k + 1, x2, x14, x94, x438000, x438001 => if x94 = true then (some false) else (pianolalaw03_PunchCrowds.l1 k x2 x14 x14 (x14.length : Int) 0 x438000 x438001)
def pianolalaw03_PunchCrowds.l1 : Nat → Int → List Int → List Int → Int → Int → Int → List (S47) → Option (Bool)
  | 0, _, _, _, _, _, _, _ => none
  | k + 1, x2, x14, x95, x96, x97, x438000, x438001 => if x97 < x96 then (if 0 ≤ x97 then (if x97 < (x95.length : Int) then (if (rd x95 x97) < 0 then (pianolalaw03_PunchCrowds.j3 k x2 x14 x97 (rd x95 x97) x95 x96 x97 true x438000 x438001) else (if (rd x95 x97) ≥ (x438001.length : Int) then (pianolalaw03_PunchCrowds.j3 k x2 x14 x97 (rd x95 x97) x95 x96 x97 true x438000 x438001) else (if x97 > 0 then (if 0 ≤ (wrap64 (x97 - 1)) then (if (wrap64 (x97 - 1)) < (x14.length : Int) then (if (rd x95 x97) ≤ (rd x14 (wrap64 (x97 - 1))) then (pianolalaw03_PunchCrowds.j3 k x2 x14 x97 (rd x95 x97) x95 x96 x97 true x438000 x438001) else (if 0 ≤ (rd x95 x97) then (if (rd x95 x97) < (x438001.length : Int) then (if ((rd_T47 x438001 (rd x95 x97)).f0) > (Int.tmod (wrap64 (x2)) 60) then (pianolalaw03_PunchCrowds.j3 k x2 x14 x97 (rd x95 x97) x95 x96 x97 true x438000 x438001) else (pianolalaw03_PunchCrowds.j3 k x2 x14 x97 (rd x95 x97) x95 x96 x97 (decide ((wrap64 (((rd_T47 x438001 (rd x95 x97)).f1) + x438000)) ≤ (Int.tmod (wrap64 (x2)) 60))) x438000 x438001)) else (none)) else (none))) else (none)) else (none)) else (if 0 ≤ (rd x95 x97) then (if (rd x95 x97) < (x438001.length : Int) then (if ((rd_T47 x438001 (rd x95 x97)).f0) > (Int.tmod (wrap64 (x2)) 60) then (pianolalaw03_PunchCrowds.j3 k x2 x14 x97 (rd x95 x97) x95 x96 x97 true x438000 x438001) else (pianolalaw03_PunchCrowds.j3 k x2 x14 x97 (rd x95 x97) x95 x96 x97 (decide ((wrap64 (((rd_T47 x438001 (rd x95 x97)).f1) + x438000)) ≤ (Int.tmod (wrap64 (x2)) 60))) x438000 x438001)) else (none)) else (none))))) else (none)) else (none)) else ((pianolalaw03_works.f).bind fun t452 => (some t452))
def pianolalaw03_PunchCrowds.j3 : Nat → Int → List Int → Int → Int → List Int → Int → Int → Bool → Int → List (S47) → Option (Bool)
  | 0, _, _, _, _, _, _, _, _, _, _ => none
  | k + 1, x2, x14, x16, x17, x95, x96, x97, x150, x438000, x438001 => if x150 = true then (some false) else (if 0 ≤ x16 then (if x16 ≤ (x14.length : Int) then ((some (x14.take (x16 : Int).toNat : List Int)).bind fun y459 => (pianolalaw03_PunchCrowds.l2 k x2 x14 x17 x95 x96 x97 y459 (y459.length : Int) 0 x438000 x438001)) else (none)) else (none))
def pianolalaw03_PunchCrowds.l2 : Nat → Int → List Int → Int → List Int → Int → Int → List Int → Int → Int → Int → List (S47) → Option (Bool)
  | 0, _, _, _, _, _, _, _, _, _, _, _ => none
  | k + 1, x2, x14, x17, x95, x96, x97, x153, x154, x155, x438000, x438001 => if x155 < x154 then (if 0 ≤ x155 then (if x155 < (x153.length : Int) then (if 0 ≤ x17 then (if x17 < (x438001.length : Int) then (if 0 ≤ (rd x153 x155) then (if (rd x153 x155) < (x438001.length : Int) then ((pianolalaw03_near.f k ((rd_T47 x438001 x17).f0) ((rd_T47 x438001 x17).f1) ((rd_T47 x438001 (rd x153 x155)).f0) ((rd_T47 x438001 (rd x153 x155)).f1) x438000).bind fun t466 => (if t466 = true then (pianolalaw03_PunchCrowds.l2 k x2 x14 x17 x95 x96 x97 x153 x154 (wrap64 (x155 + 1)) x438000 x438001) else (some false))) else (none)) else (none)) else (none)) else (none)) else (none)) else (none)) else (pianolalaw03_PunchCrowds.l1 k x2 x14 x95 x96 (wrap64 (x97 + 1)) x438000 x438001)
end
def pianolalaw03_PunchCrowds.f (k : Nat) (a0_0 : Int) (l0_1 : List (S82)) (l1 : List Int) (a2 : Int) : Option (Bool) := (pianolalaw03_Lane_made.f k a0_0 l0_1).bind fun bt433 => (pianolalaw03_PunchCrowds.l0 k l1 a2 ([] : List Int) 0 (bt433.2.length : Int) 0 bt433.1 bt433.2)
def pianolalaw03_PunchCrowds.T20 : Bool × List (List Nat × List Nat) := (true, [([], []), ([0], [0]), ([1], [1]), ([2], [2]), ([2], [2]), ([4, 2], [2, 4]), ([5, 2], [2, 5]), ([3, 6, 2], [2, 3, 6]), ([2, 7], [2, 7]), ([8, 2], [8]), ([9], [9]), ([10, 9], [9, 10]), ([11, 9, 9], [9, 11]), ([12], [12]), ([12], [12]), ([12], [12]), ([15, 12], [12, 15]), ([14, 16, 12], [12, 14, 16]), ([17, 12], [12, 17]), ([13, 18, 12], [12, 13, 18]), ([12, 19, 9], [9, 12, 19]), ([9, 20], [9, 20]), ([21, 12], [21]), ([22], [22]), ([23, 22], [22, 23]), ([22], [22]), ([24, 25, 22], [22, 24, 25]), ([26, 22], [22, 26]), ([27, 22], [22, 27]), ([22], [22]), ([29, 22], [22, 29]), ([30, 22], [22, 30]), ([28, 31, 22], [22, 28, 31]), ([22, 32], [22, 32]), ([33, 22], [33]), ([34], [34]), ([35, 34], [34, 35]), ([34], [34]), ([36, 37, 34], [34, 36, 37]), ([38, 34], [34, 38]), ([39, 34], [34, 39]), ([34], [34]), ([41, 34], [34, 41]), ([40, 42, 34], [34, 40, 42]), ([34], [34]), ([44, 34], [34, 44]), ([45, 34], [34, 45]), ([43, 46, 34], [34, 43, 46]), ([34, 47], [34, 47])])
def pianolalaw03_PunchCrowds.B20 : List Nat := [0, 1, 3, 7, 7, 23, 55, 127, 255, 511, 1023, 2047, 4095, 8191, 8191, 8191, 40959, 122879, 253951, 524287, 1048575, 2097151, 4194303, 8388607, 16777215, 8388607, 67108863, 134217727, 268435455, 8388607, 545259519, 1619001343, 4294967295, 8589934591, 17179869183, 34359738367, 68719476735, 34359738367, 274877906943, 549755813887, 1099511627775, 34359738367, 2233382993919, 8796093022207, 34359738367, 17626545782783, 52810917871615, 140737488355327, 281474976710655]
theorem pianolalaw03_PunchCrowds.tab20 : rtab .any (opsOf Try.f9 20) = pianolalaw03_PunchCrowds.T20 := by kernel_rfl
theorem pianolalaw03_PunchCrowds.bits20 : waitsOk pianolalaw03_PunchCrowds.T20.2 pianolalaw03_PunchCrowds.B20 = true := by kernel_rfl
def pianolalaw03_PunchCrowds.T25 : Bool × List (List Nat × List Nat) := (true, [([], []), ([0], [0]), ([], []), ([1, 2], [1, 2]), ([3], [3]), ([], []), ([5], [5]), ([], []), ([6, 7], [6, 7]), ([8], [8]), ([], []), ([10], [10]), ([4, 9, 11], [4, 9, 11]), ([12], [12])])
def pianolalaw03_PunchCrowds.B25 : List Nat := [0, 1, 0, 7, 15, 0, 32, 0, 224, 480, 0, 1024, 4095, 8191]
theorem pianolalaw03_PunchCrowds.tab25 : rtab .any (opsOf Try.f9 25) = pianolalaw03_PunchCrowds.T25 := by kernel_rfl
theorem pianolalaw03_PunchCrowds.bits25 : waitsOk pianolalaw03_PunchCrowds.T25.2 pianolalaw03_PunchCrowds.B25 = true := by kernel_rfl
theorem pianolalaw03_PunchCrowds.j1_no {r : Bool} : ∀ {k : Nat} {x2 : Int} {x14 : List Int} {x438000 : Int} {x438001 : List (S47)}, pianolalaw03_PunchCrowds.j1 k x2 x14 true x438000 x438001 = some r → r = true → False
  | 0, _, _, _, _ => by
    intro h
    simp [pianolalaw03_PunchCrowds.j1] at h
  | k + 1, _, _, _, _ => by
    intro h hr
    rw [pianolalaw03_PunchCrowds.j1, if_pos rfl] at h
    subst hr
    exact absurd (Option.some.inj h) (by decide)
theorem pianolalaw03_PunchCrowds.j3_no {r : Bool} : ∀ {k : Nat} {x2 : Int} {x14 : List Int} {x16 : Int} {x17 : Int} {x95 : List Int} {x96 : Int} {x97 : Int} {x438000 : Int} {x438001 : List (S47)}, pianolalaw03_PunchCrowds.j3 k x2 x14 x16 x17 x95 x96 x97 true x438000 x438001 = some r → r = true → False
  | 0, _, _, _, _, _, _, _, _, _ => by
    intro h
    simp [pianolalaw03_PunchCrowds.j3] at h
  | k + 1, _, _, _, _, _, _, _, _, _ => by
    intro h hr
    rw [pianolalaw03_PunchCrowds.j3, if_pos rfl] at h
    subst hr
    exact absurd (Option.some.inj h) (by decide)
set_option maxHeartbeats 8000000 in
set_option maxRecDepth 100000 in
theorem pianolalaw03_PunchCrowds.calls (k : Nat) (a0_0 : Int) (A0_1 : Option Addr) (c0_1 : Nat) (l0_1 : List (S82)) (A1 : Option Addr) (c1 : Nat) (l1 : List Int) (a2 : Int) (r : Bool) (hrt : r = true) (w : World) (hr0_1 : Kd.C k82 w A0_1 l0_1.length l0_1) (hc0_1 : l0_1.length ≤ c0_1) (hr1 : Kd.C (Kd.int .u8) w A1 l1.length l1) (hc1 : l1.length ≤ c1) (h : pianolalaw03_PunchCrowds.f k a0_0 l0_1 l1 a2 = some r) :
  Calls Try.prog 9 #[.agg #[.int .u8 a0_0, .slice A0_1 l0_1.length c0_1], .slice A1 l1.length c1, .int .u8 a2] w fun e w' => e = .returned (.bool r) ∧ Below w.heap.size w w' := by
 have HRT := zA hrt
 clear hrt
 have hu74 := Try.underlying74
 have hu24 := Try.underlying24
 have hu47 := Try.underlying47
 have HR0_1 := zA hr0_1
 have HC0_1 := zA hc0_1
 clear hr0_1 hc0_1
 have HR1 := zA hr1
 have HC1 := zA hc1
 clear hr1 hc1
 have HB := zA (Below.refl w.heap.size w)
 have H : ((pianolalaw03_Lane_made.f k a0_0 l0_1).bind fun bt433 => (pianolalaw03_PunchCrowds.l0 k l1 a2 ([] : List Int) 0 (bt433.2.length : Int) 0 bt433.1 bt433.2)) = some r := h
 clear h
 replace H := Option.bind_eq_some_iff.mp H
 obtain ⟨⟨t433, t434⟩, A40, H⟩ := H
 replace H : (pianolalaw03_PunchCrowds.l0 k l1 a2 ([] : List Int) 0 (t434.length : Int) 0 t433 t434) = some r := H
 have A4 := zA A40
 clear A40
 have H' := zA H
 clear H
 go_enter Try.func9, Try.ntmps9
 go_wp2_with (first | ((with_reducible refine gate_dst (N := 3) rfl ?_); (try (refine gate_guard (by rfl) ?_; dsimp only)); refine box_event ?hg (N := 3) ?hd (cs := #[.int .u8 a0_0, .slice A0_1 l0_1.length c0_1]) (t := 74) ?hr ?_; (case hd => rfl); (case hg => rfl); (case hr => first | (go_simp; done) | (go_simp; rfl)); intro gb432 hg w5 hbox hb; have n0_ := zA (below_step (zqA HB.out) hb); have n1_ := zA (hbox); have n2_ := zA ((by rw [hg]; exact (below_size (zqA HB.out)) : w.heap.size ≤ gb432)); have n3_ := zA ((by rw [hg]; exact (below_size (zqA HB.out)) : w.heap.size ≤ gb432)); clear HB; have HB := n0_; have BK432 := n1_; have GW432 := n2_; have GE432 := n3_; clear n0_ n1_ n2_ n3_; clear hb hbox hg; have hcz6_0 : w5.cell? ⟨gb432, 0, none⟩ = some (.int .u8 a0_0) := (blk_cell BK432.out 0).trans rfl; have hcz6_1 : w5.cell? ⟨gb432, 1, none⟩ = some (.slice A0_1 l0_1.length c0_1) := (blk_cell BK432.out 1).trans rfl; have hfz6_0 := blk_frozen BK432.out 0; have hfz6_1 := blk_frozen BK432.out 1) | ((with_reducible refine gate_callee (f := 38) rfl ?_); refine goesL_ (some 21) rfl rfl Try.func38 (by kernel_rfl) rfl #[.agg #[.int .u8 a0_0, .slice A0_1 l0_1.length c0_1]] rfl zqE ?_; (with_reducible refine (pianolalaw03_Lane_made.calls k a0_0 _ _ l0_1 t433 t434 _ ?side1 ?side2 A4.out).mono ?_); (case side1 => exact zqK (Kd.C_below HR0_1.out HB.out)); (case side2 => exact HC0_1.out); rintro e w7 ⟨v435, rfl, ho0, hb⟩; refine ⟨_, rfl, ?_⟩; have n0_ := zA (Kd.R_lower ho0 (below_size (zqG HB.out GE432.out))); have n1_ := zA (blk_below (g := gb432) (o := .cells #[.int .u8 a0_0, .slice A0_1 l0_1.length c0_1] 74 (0, 0)) (zqB BK432.out) hb); have n2_ := zA (below_step (zqG HB.out GE432.out) hb); clear BK432; clear HB; have HO436 := n0_; have BK432 := n1_; have HB := n2_; clear n0_ n1_ n2_; (try clear hb); (try clear hb2); (try clear hk); (try clear hi); (try clear ho0)) | ((with_reducible refine gate_dst (N := 7) rfl ?_); (try (refine gate_guard (by rfl) ?_; dsimp only)); refine box_event ?hg (N := 7) ?hd (cs := #[.int .i64 0, .slice none 0 0]) (t := 24) ?hr ?_; (case hd => rfl); (case hg => rfl); (case hr => first | (go_simp; done) | (go_simp; rfl)); intro gb437 hg w8 hbox hb; have n0_ := zA (Kd.R_below (zqC HO436.out) hb); have n1_ := zA (blk_below (g := gb432) (o := .cells #[.int .u8 a0_0, .slice A0_1 l0_1.length c0_1] 74 (0, 0)) (zqB BK432.out) hb); have n2_ := zA (below_step (zqG HB.out GE432.out) hb); have n3_ := zA (hbox); have n4_ := zA ((by rw [hg]; exact (below_size (zqG HB.out GE432.out)) : w.heap.size ≤ gb437)); have n5_ := zA ((by rw [hg]; exact (below_size (zqG HB.out GE432.out)) : w.heap.size ≤ gb437)); have n6_ := zA ((by rw [hg]; exact Nat.ne_of_lt (blk_lt (g := gb432) (o := .cells #[.int .u8 a0_0, .slice A0_1 l0_1.length c0_1] 74 (0, 0)) (zqB BK432.out)) : gb432 ≠ gb437)); have n7_ := zA ((by rw [hg]; exact Nat.ne_of_gt (blk_lt (g := gb432) (o := .cells #[.int .u8 a0_0, .slice A0_1 l0_1.length c0_1] 74 (0, 0)) (zqB BK432.out)) : gb437 ≠ gb432)); clear HO436; clear BK432; clear HB; have HO436 := n0_; have BK432 := n1_; have HB := n2_; have BK437 := n3_; have GW437 := n4_; have GE437 := n5_; have NB432_437 := n6_; have NB437_432 := n7_; clear n0_ n1_ n2_ n3_ n4_ n5_ n6_ n7_; clear hb hbox hg; have hnb9 := NB437_432.out; have hnc9 := NB432_437.out; have hcz10_0 : w8.cell? ⟨gb437, 0, none⟩ = some (.int .i64 0) := (blk_cell BK437.out 0).trans rfl; have hcz10_1 : w8.cell? ⟨gb437, 1, none⟩ = some (.slice none 0 0) := (blk_cell BK437.out 1).trans rfl; have hfz10_0 := blk_frozen BK437.out 0; have hfz10_1 := blk_frozen BK437.out 1; obtain ⟨Ao11, co11, eo11⟩ := Kd.R_slice HO436.out; subst eo11))
 go_loopg [8, 9, 25] k (fun kq v8 v9 v25 w' => ∃ (x8_1 : List Int) (x9_1 : Int) (x25_1 : Int), v9 = .int .i64 x9_1 ∧ v25 = .int .i64 x25_1 ∧ Aside0 (pianolalaw03_PunchCrowds.l0 kq l1 a2 x8_1 x9_1 (t434.length : Int) x25_1 t433 t434 = some r) ∧ Aside0 (kq ≤ k) ∧ Aside0 (Kd.R (Kd.int .i64) 3 w' w.heap.size (fun _ => True) v8 x8_1) ∧ Aside0 (Kd.R k47 47 w' w.heap.size (fun _ => True) (.slice Ao11 t434.length co11) t434) ∧ Aside0 (w'.heap[gb432]? = some (.cells #[.int .u8 a0_0, (.slice A0_1 l0_1.length c0_1)] 74 (0, 0))) ∧ Aside0 (w'.heap[gb437]? = some (.cells #[.int .i64 t433, (.slice Ao11 t434.length co11)] 24 (0, 0))) ∧ Aside0 (Below w.heap.size w w'))
 case atStart => exact ⟨(([] : List Int)), (0), (0), zqQ, zqQ, H', ⟨Nat.le_refl _⟩, ⟨by first | exact Kd.R_nil _ _ _ _ _ | exact Kd.N_nil _ _ _ _ _ | exact Kd.V_nil _ _ _ _ _ | exact Kd.Q_nil _ _ _ _ _ | exact Kd.S_nil _ _ _ _ _⟩, ⟨by (with_reducible repeat (first | apply Kd.R_alloc | apply Kd.R_drewN | apply Kd.R_drew)); exact Kd.R_mono (Kd.R_far (p := ⟨gb437, 1, none⟩) (Kd.R_far (p := ⟨gb437, 0, none⟩) (Kd.R_types HO436.out BK437.out (by decide)) (fun _ hk => hk.2) (.int .i64 t433)) (fun _ hk => hk.2) (.slice Ao11 t434.length co11)) (fun _ hk => trivial)⟩, ⟨by (with_reducible repeat (first | refine blk_drewN ?_ _ | refine blk_drew ?_ | refine blk_alloc ?_ _)); refine blk_far ?_ NB432_437.out _; (with_reducible repeat (first | refine blk_drewN ?_ _ | refine blk_drew ?_ | refine blk_alloc ?_ _)); refine blk_far ?_ NB432_437.out _; (with_reducible repeat (first | refine blk_drewN ?_ _ | refine blk_drew ?_ | refine blk_alloc ?_ _)); exact BK432.out⟩, ⟨by (with_reducible repeat (first | refine blk_drewN ?_ _ | refine blk_drew ?_ | refine blk_alloc ?_ _)); refine blk_put (cs := #[.int .i64 t433, .slice none 0 0]) ?_ 1 _ rfl; (with_reducible repeat (first | refine blk_drewN ?_ _ | refine blk_drew ?_ | refine blk_alloc ?_ _)); refine blk_put (cs := #[.int .i64 0, .slice none 0 0]) ?_ 0 _ rfl; (with_reducible repeat (first | refine blk_drewN ?_ _ | refine blk_drew ?_ | refine blk_alloc ?_ _)); exact BK437.out⟩, ⟨zqH HB.out GE432.out GE437.out⟩⟩
 case round =>
  clear H'
  try clear c1
  try clear p2
  try clear c3
  try clear c9
  try clear hcz10_0
  try clear hcz10_1
  try clear hcz6_0
  try clear hcz6_1
  try clear hfz10_0
  try clear hfz10_1
  try clear hfz6_0
  try clear hfz6_1
  obtain ⟨x8_1, x9_1, x25_1, rfl, rfl, HA, HK1, HO_8, HO_438001, BK432, BK437, HB⟩ := hrel
  cases gk with
  | zero => exact absurd HA.out (by simp [pianolalaw03_PunchCrowds.l0])
  | succ k1 =>
   have H := HA.out
   clear HA
   simp only [pianolalaw03_PunchCrowds.l0] at H
   by_cases c12 : x25_1 < (t434.length : Int)
   ·
    rw [if_pos c12] at H
    have c12b0 : decide (x25_1 < (t434.length : Int)) = true := decide_eq_true c12
    clear c12
    by_cases c13 : x25_1 < (l1.length : Int)
    ·
     rw [if_pos c13] at H
     have c13b0 : decide (x25_1 < (l1.length : Int)) = true := decide_eq_true c13
     clear c13
     by_cases c14 : 0 ≤ x25_1
     ·
      rw [if_pos c14] at H
      have c14b0 : decide (0 ≤ x25_1) = true := decide_eq_true c14
      clear c14
      by_cases c15 : x8_1.length < 17592186044416
      ·
       rw [if_pos c15] at H
       have LMc15 := zA c15
       clear c15
       obtain ⟨y439, hy439⟩ : ∃ y_ : List Int, y_ = (x8_1 ++ [Int.tmod (wrap64 (rd l1 x25_1)) 5]) := ⟨_, rfl⟩
       replace H : (pianolalaw03_PunchCrowds.l0 k1 l1 a2 y439 (mx x9_1 (wrap64 ((Int.tmod (wrap64 (rd l1 x25_1)) 5) + 1))) (t434.length : Int) (wrap64 (x25_1 + 1)) t433 t434) = some r := zqF hy439 H
       have Ny439 := zA hy439
       clear hy439
       obtain ⟨ji16, hji16⟩ : ∃ j_ : Int, (mx x9_1 (wrap64 ((Int.tmod (wrap64 (rd l1 x25_1)) 5) + 1))) = j_ := ⟨_, rfl⟩
       replace H : (pianolalaw03_PunchCrowds.l0 k1 l1 a2 y439 ji16 (t434.length : Int) (wrap64 (x25_1 + 1)) t433 t434) = some r := by first | (rw [hji16] at H; exact H) | (simp only [hji16] at H ⊢; exact H)
       have hji16_ : (if x9_1 < (wrap64 ((Int.tmod (wrap64 (rd l1 x25_1)) 5) + 1)) then (wrap64 ((Int.tmod (wrap64 (rd l1 x25_1)) 5) + 1)) else x9_1) = ji16 := hji16
       have H' := zA H
       clear H
       have p438 : 0 ≤ (x25_1 : Int) := of_decide_eq_true (zqD)
       have q438 : x25_1 < (l1.length : Int) := of_decide_eq_true (zqD)
       obtain ⟨ad438, e438, hx438_0⟩ := Kd.at_int HR1.out x25_1 p438 q438
       cases e438
       replace hx438_0 := (HB.out.cell (World.block_lt_of_cell? w _ hx438_0)).trans hx438_0
       replace p438 := eq_true p438; replace q438 := eq_true q438
       go_wp2_with (first | ((with_reducible refine gate_builtin (b := .append) (xs := #[.tmp 39, .tmp 41]) rfl ?_); (try (refine gate_guard (by rfl) ?_; dsimp only)); at_builtin; refine Kd.R_append (Kd.int .i64) (w0 := w) w.heap.size rfl (.tmp 39) (.tmp 41) 26 3 (.int .i64 0) 8 rfl Try.underlying26 info3 rfl (by decide) (by omega) u8 x8_1 (Int.tmod (wrap64 (rd l1 x25_1)) 5) [.int .i64 (Int.tmod (wrap64 (rd l1 x25_1)) 5)] (fun _ => True) (fun _ => False) rfl rfl ?aP (fun _ hk => hk.elim) ?aF ?aO ?aB ?aS ?aL ?_; (case aP => exact rfl); (case aB => exact (zqH HB.out GE432.out GE437.out)); (case aF => exact (fun _ _ => trivial)); (case aO => exact (zqC HO_8.out)); (case aS => exact (below_size (zqH HB.out GE432.out GE437.out))); (case aL => have := LMc15.out; omega); intro v440 w17 ho hb hg hat; rw [← Ny439.out] at ho; have n0_ := zA (Kd.R_over' (zqC HO_438001.out) (Kd.R_typed (zqC HO_8.out)) (by decide) hg); have n1_ := zA (blk_grown (g := gb432) (o := .cells #[.int .u8 a0_0, .slice A0_1 l0_1.length c0_1] 74 (0, 0)) (zqB BK432.out) hg (Kd.R_ne HO_8.out BK432.out (by decide))); have n2_ := zA (blk_grown (g := gb437) (o := .cells #[.int .i64 t433, .slice Ao11 t434.length co11] 24 (0, 0)) (zqB BK437.out) hg (Kd.R_ne HO_8.out BK437.out (by decide))); have n3_ := zA (hb); have n4_ := zA (ho); clear HO_438001; clear BK432; clear BK437; clear HB; clear HO_8; have HO_438001 := n0_; have BK432 := n1_; have BK437 := n2_; have HB := n3_; have HO441 := n4_; clear n0_ n1_ n2_ n3_ n4_; clear ho hb hg hat))
       go_roundg k1
       case measure => have := HK1.out; omega
       case rel => exact ⟨(y439), (ji16), (wrap64 (x25_1 + 1)), (by first | rfl | (simp; done) | (simp only [← hji16] <;> (first | rfl | simp)) | (simp [*]; done)), zqQ, H', ⟨by have := HK1.out; omega⟩, ⟨zqC HO441.out⟩, ⟨zqC HO_438001.out⟩, ⟨zqB BK432.out⟩, ⟨zqB BK437.out⟩, ⟨zqH HB.out GE432.out GE437.out⟩⟩
      ·
       rw [if_neg c15] at H
       exact absurd H (by simp)
     ·
      rw [if_neg c14] at H
      exact absurd H (by simp)
    ·
     rw [if_neg c13] at H
     have c13b0 : decide (x25_1 < (l1.length : Int)) = false := decide_eq_false c13
     clear c13
     by_cases c18 : x8_1.length < 17592186044416
     ·
      rw [if_pos c18] at H
      have LMc18 := zA c18
      clear c18
      obtain ⟨y442, hy442⟩ : ∃ y_ : List Int, y_ = (x8_1 ++ [x25_1]) := ⟨_, rfl⟩
      replace H : (pianolalaw03_PunchCrowds.l0 k1 l1 a2 y442 (mx x9_1 (wrap64 (x25_1 + 1))) (t434.length : Int) (wrap64 (x25_1 + 1)) t433 t434) = some r := zqF hy442 H
      have Ny442 := zA hy442
      clear hy442
      obtain ⟨ji19, hji19⟩ : ∃ j_ : Int, (mx x9_1 (wrap64 (x25_1 + 1))) = j_ := ⟨_, rfl⟩
      replace H : (pianolalaw03_PunchCrowds.l0 k1 l1 a2 y442 ji19 (t434.length : Int) (wrap64 (x25_1 + 1)) t433 t434) = some r := by first | (rw [hji19] at H; exact H) | (simp only [hji19] at H ⊢; exact H)
      have hji19_ : (if x9_1 < (wrap64 (x25_1 + 1)) then (wrap64 (x25_1 + 1)) else x9_1) = ji19 := hji19
      have H' := zA H
      clear H
      go_wp2_with (first | ((with_reducible refine gate_builtin (b := .append) (xs := #[.tmp 39, .tmp 41]) rfl ?_); (try (refine gate_guard (by rfl) ?_; dsimp only)); at_builtin; refine Kd.R_append (Kd.int .i64) (w0 := w) w.heap.size rfl (.tmp 39) (.tmp 41) 26 3 (.int .i64 0) 8 rfl Try.underlying26 info3 rfl (by decide) (by omega) u8 x8_1 x25_1 [.int .i64 x25_1] (fun _ => True) (fun _ => False) rfl rfl ?aP (fun _ hk => hk.elim) ?aF ?aO ?aB ?aS ?aL ?_; (case aP => exact rfl); (case aB => exact (zqH HB.out GE432.out GE437.out)); (case aF => exact (fun _ _ => trivial)); (case aO => exact (zqC HO_8.out)); (case aS => exact (below_size (zqH HB.out GE432.out GE437.out))); (case aL => have := LMc18.out; omega); intro v443 w20 ho hb hg hat; rw [← Ny442.out] at ho; have n0_ := zA (Kd.R_over' (zqC HO_438001.out) (Kd.R_typed (zqC HO_8.out)) (by decide) hg); have n1_ := zA (blk_grown (g := gb432) (o := .cells #[.int .u8 a0_0, .slice A0_1 l0_1.length c0_1] 74 (0, 0)) (zqB BK432.out) hg (Kd.R_ne HO_8.out BK432.out (by decide))); have n2_ := zA (blk_grown (g := gb437) (o := .cells #[.int .i64 t433, .slice Ao11 t434.length co11] 24 (0, 0)) (zqB BK437.out) hg (Kd.R_ne HO_8.out BK437.out (by decide))); have n3_ := zA (hb); have n4_ := zA (ho); clear HO_438001; clear BK432; clear BK437; clear HB; clear HO_8; have HO_438001 := n0_; have BK432 := n1_; have BK437 := n2_; have HB := n3_; have HO444 := n4_; clear n0_ n1_ n2_ n3_ n4_; clear ho hb hg hat))
      go_roundg k1
      case measure => have := HK1.out; omega
      case rel => exact ⟨(y442), (ji19), (wrap64 (x25_1 + 1)), (by first | rfl | (simp; done) | (simp only [← hji19] <;> (first | rfl | simp)) | (simp [*]; done)), zqQ, H', ⟨by have := HK1.out; omega⟩, ⟨zqC HO444.out⟩, ⟨zqC HO_438001.out⟩, ⟨zqB BK432.out⟩, ⟨zqB BK437.out⟩, ⟨zqH HB.out GE432.out GE437.out⟩⟩
     ·
      rw [if_neg c18] at H
      exact absurd H (by simp)
   ·
    rw [if_neg c12] at H
    have c12b0 : decide (x25_1 < (t434.length : Int)) = false := decide_eq_false c12
    clear c12
    replace H := Option.bind_eq_some_iff.mp H
    obtain ⟨⟨t445, t446⟩, A210, H⟩ := H
    replace H : ((punch_Crowd.f t433 t434 (Int.tmod (wrap64 (a2)) 60)).bind fun bt447 => (if bt447.2 = 0 then ((pianolalaw03_good.f k1 t433 t434 x8_1).bind fun t451 => (if ((t446 == 0) != t451) = true then (pianolalaw03_PunchCrowds.j1 k1 a2 bt447.1 true t433 t434) else (if t446 = 0 then (if t445 = x9_1 then (pianolalaw03_PunchCrowds.j1 k1 a2 bt447.1 (decide ((bt447.1.length : Int) > t445)) t433 t434) else (pianolalaw03_PunchCrowds.j1 k1 a2 bt447.1 true t433 t434)) else (if t446 = 14 then (pianolalaw03_PunchCrowds.j1 k1 a2 bt447.1 false t433 t434) else (pianolalaw03_PunchCrowds.j1 k1 a2 bt447.1 true t433 t434))))) else (pianolalaw03_PunchCrowds.j1 k1 a2 bt447.1 true t433 t434))) = some r := H
    have A21 := zA A210
    clear A210
    replace H := Option.bind_eq_some_iff.mp H
    obtain ⟨⟨t447, t450⟩, A220, H⟩ := H
    replace H : (if t450 = 0 then ((pianolalaw03_good.f k1 t433 t434 x8_1).bind fun t451 => (if ((t446 == 0) != t451) = true then (pianolalaw03_PunchCrowds.j1 k1 a2 t447 true t433 t434) else (if t446 = 0 then (if t445 = x9_1 then (pianolalaw03_PunchCrowds.j1 k1 a2 t447 (decide ((t447.length : Int) > t445)) t433 t434) else (pianolalaw03_PunchCrowds.j1 k1 a2 t447 true t433 t434)) else (if t446 = 14 then (pianolalaw03_PunchCrowds.j1 k1 a2 t447 false t433 t434) else (pianolalaw03_PunchCrowds.j1 k1 a2 t447 true t433 t434))))) else (pianolalaw03_PunchCrowds.j1 k1 a2 t447 true t433 t434)) = some r := H
    have A22 := zA A220
    clear A220
    have HC23 := zA H
    clear H
    have hnb24 := NB437_432.out
    have hnc24 := NB432_437.out
    have hcz25_0 : wr.cell? ⟨gb437, 0, none⟩ = some (.int .i64 t433) := (blk_cell BK437.out 0).trans rfl
    have hcz25_1 : wr.cell? ⟨gb437, 1, none⟩ = some (.slice Ao11 t434.length co11) := (blk_cell BK437.out 1).trans rfl
    have hfz25_0 := blk_frozen BK437.out 0
    have hfz25_1 := blk_frozen BK437.out 1
    obtain ⟨Ao26, co26, eo26⟩ := Kd.R_slice HO_8.out
    subst eo26
    go_upto_region 15 with (first | ((with_reducible refine gate_callee (f := 26) rfl ?_); refine goesL_ (some 51) rfl rfl Try.func26 (by kernel_rfl) rfl #[.agg #[.int .i64 t433, .slice Ao11 t434.length co11], .slice Ao26 x8_1.length co26] rfl zqE ?_; (with_reducible refine (punch_Verify.calls t433 _ _ t434 _ _ x8_1 t445 t446 _ ?side1 ?side2 ?side3 ?side4 A21.out).mono ?_); (case side1 => exact zqK (Kd.R_reads' HO_438001.out).2.2); (case side2 => exact (Kd.R_reads' HO_438001.out).2.1); (case side3 => exact zqK (Kd.R_reads' HO_8.out).2.2); (case side4 => exact (Kd.R_reads' HO_8.out).2.1); rintro e w27 ⟨rfl, hb⟩; refine ⟨_, rfl, ?_⟩; have n0_ := zA (Kd.R_below (zqC HO_8.out) hb); have n1_ := zA (Kd.R_below (zqC HO_438001.out) hb); have n2_ := zA (blk_below (g := gb432) (o := .cells #[.int .u8 a0_0, .slice A0_1 l0_1.length c0_1] 74 (0, 0)) (zqB BK432.out) hb); have n3_ := zA (blk_below (g := gb437) (o := .cells #[.int .i64 t433, .slice Ao11 t434.length co11] 24 (0, 0)) (zqB BK437.out) hb); have n4_ := zA (below_step (zqH HB.out GE432.out GE437.out) hb); clear HO_8; clear HO_438001; clear BK432; clear BK437; clear HB; have HO_8 := n0_; have HO_438001 := n1_; have BK432 := n2_; have BK437 := n3_; have HB := n4_; clear n0_ n1_ n2_ n3_ n4_; (try clear hb); (try clear hb2); (try clear hk); (try clear hi); have hcz28_0 : w27.cell? ⟨gb437, 0, none⟩ = some (.int .i64 t433) := (blk_cell BK437.out 0).trans rfl; have hcz28_1 : w27.cell? ⟨gb437, 1, none⟩ = some (.slice Ao11 t434.length co11) := (blk_cell BK437.out 1).trans rfl; have hfz28_0 := blk_frozen BK437.out 0; have hfz28_1 := blk_frozen BK437.out 1) | ((with_reducible refine gate_callee (f := 16) rfl ?_); refine goesL_ (some 59) rfl rfl Try.func16 (by kernel_rfl) rfl #[.agg #[.int .i64 t433, .slice Ao11 t434.length co11], .int .i64 (Int.tmod (wrap64 (a2)) 60)] rfl zqE ?_; (with_reducible refine (punch_Crowd.calls t433 _ _ t434 (Int.tmod (wrap64 (a2)) 60) t447 t450 _ ?side1 ?side2 A22.out).mono ?_); (case side1 => exact zqK (Kd.R_reads' HO_438001.out).2.2); (case side2 => exact (Kd.R_reads' HO_438001.out).2.1); rintro e w29 ⟨v448, rfl, ho0, hb⟩; refine ⟨_, rfl, ?_⟩; have n0_ := zA (Kd.R_elder' (zqC HO_8.out) (Kd.R_base ho0) hb); have n1_ := zA (Kd.R_below (zqC HO_438001.out) hb); have n2_ := zA (Kd.R_lower (Kd.R_new' ho0 (Kd.R_lt (zqC HO_8.out))) (below_size (zqH HB.out GE432.out GE437.out))); have n3_ := zA (blk_below (g := gb432) (o := .cells #[.int .u8 a0_0, .slice A0_1 l0_1.length c0_1] 74 (0, 0)) (zqB BK432.out) hb); have n4_ := zA (blk_below (g := gb437) (o := .cells #[.int .i64 t433, .slice Ao11 t434.length co11] 24 (0, 0)) (zqB BK437.out) hb); have n5_ := zA (below_step (zqH HB.out GE432.out GE437.out) hb); clear HO_8; clear HO_438001; clear BK432; clear BK437; clear HB; have HO_8 := n0_; have HO_438001 := n1_; have HO449 := n2_; have BK432 := n3_; have BK437 := n4_; have HB := n5_; clear n0_ n1_ n2_ n3_ n4_ n5_; (try clear hb); (try clear hb2); (try clear hk); (try clear hi); (try clear ho0)))
    (try simp only [Act.put, setIfInBounds_toArray, set_cons_zero, set_cons_succ])
    go_cut [94] (fun v94 wc => ∃ (kq : Nat) (x94_22 : Bool), v94 = .bool x94_22 ∧ Aside0 (pianolalaw03_PunchCrowds.j1 kq a2 t447 x94_22 t433 t434 = some r) ∧ Aside0 (kq ≤ k1) ∧ Aside0 (Kd.R (Kd.int .i64) 3 wc w.heap.size (fun _ => True) v448 t447) ∧ Aside0 (Kd.R k47 47 wc w.heap.size (fun _ => True) (.slice Ao11 t434.length co11) t434) ∧ Aside0 (wc.heap[gb432]? = some (.cells #[.int .u8 a0_0, (.slice A0_1 l0_1.length c0_1)] 74 (0, 0))) ∧ Aside0 (wc.heap[gb437]? = some (.cells #[.int .i64 t433, (.slice Ao11 t434.length co11)] 24 (0, 0))) ∧ Aside0 (Below w.heap.size w wc))
    case first =>
     have H := HC23.out
     clear HC23
     by_cases c30 : t450 = 0
     ·
      rw [if_pos c30] at H
      have c30b0 : (t450 == 0) = true := beq_iff_eq.mpr c30
      have c30b1 : (t450 != 0) = false := bne_eq_false_iff_eq.mpr c30
      clear c30
      (first | rw [c30b0] | (simp only [i64_w, i32_w]; rw [c30b0]) | skip)
      replace H := Option.bind_eq_some_iff.mp H
      obtain ⟨t451, A310, H⟩ := H
      replace H : (if ((t446 == 0) != t451) = true then (pianolalaw03_PunchCrowds.j1 k1 a2 t447 true t433 t434) else (if t446 = 0 then (if t445 = x9_1 then (pianolalaw03_PunchCrowds.j1 k1 a2 t447 (decide ((t447.length : Int) > t445)) t433 t434) else (pianolalaw03_PunchCrowds.j1 k1 a2 t447 true t433 t434)) else (if t446 = 14 then (pianolalaw03_PunchCrowds.j1 k1 a2 t447 false t433 t434) else (pianolalaw03_PunchCrowds.j1 k1 a2 t447 true t433 t434)))) = some r := H
      have A31 := zA A310
      clear A310
      by_cases c32 : ((t446 == 0) != t451) = true
      ·
       rw [if_pos c32] at H
       exact (pianolalaw03_PunchCrowds.j1_no H HRT.out).elim
      ·
       rw [if_neg c32] at H
       have c32b0 : ((t446 == 0) != t451) = false := by simpa using c32
       (try (have c32b1 : decide ((t446 == 0) = t451) = true := by simpa using c32))
       (try (have c32b2 : ((t446 == 0) == t451) = true := by simpa using c32))
       clear c32
       by_cases c36 : t446 = 0
       ·
        rw [if_pos c36] at H
        have c36b0 : (t446 == 0) = true := beq_iff_eq.mpr c36
        have c36b1 : (t446 != 0) = false := bne_eq_false_iff_eq.mpr c36
        clear c36
        obtain rfl : t451 = true := by simpa [c36b0] using c32b0
        by_cases c37 : t445 = x9_1
        ·
         rw [if_pos c37] at H
         have c37b0 : (t445 == x9_1) = true := beq_iff_eq.mpr c37
         have c37b1 : (t445 != x9_1) = false := bne_eq_false_iff_eq.mpr c37
         clear c37
         have H' := zA H
         clear H
         have hnb38 := NB437_432.out
         have hnc38 := NB432_437.out
         have hcz39_0 : w29.cell? ⟨gb437, 0, none⟩ = some (.int .i64 t433) := (blk_cell BK437.out 0).trans rfl
         have hcz39_1 : w29.cell? ⟨gb437, 1, none⟩ = some (.slice Ao11 t434.length co11) := (blk_cell BK437.out 1).trans rfl
         have hfz39_0 := blk_frozen BK437.out 0
         have hfz39_1 := blk_frozen BK437.out 1
         go_wp2_with (first | (go_at_call 39; (with_reducible refine (pianolalaw03_good.calls k1 t433 _ _ t434 _ _ x8_1 _ _ ?side1 ?side2 ?side3 ?side4 A31.out).mono ?_); (case side1 => exact zqK (Kd.R_reads' HO_438001.out).2.2); (case side2 => exact (Kd.R_reads' HO_438001.out).2.1); (case side3 => exact zqK (Kd.R_reads' HO_8.out).2.2); (case side4 => exact (Kd.R_reads' HO_8.out).2.1); rintro e w40 ⟨rfl, hb⟩; have n0_ := zA (Kd.R_below (zqC HO_8.out) hb); have n1_ := zA (Kd.R_below (zqC HO_438001.out) hb); have n2_ := zA (Kd.R_below (zqC HO449.out) hb); have n3_ := zA (blk_below (g := gb432) (o := .cells #[.int .u8 a0_0, .slice A0_1 l0_1.length c0_1] 74 (0, 0)) (zqB BK432.out) hb); have n4_ := zA (blk_below (g := gb437) (o := .cells #[.int .i64 t433, .slice Ao11 t434.length co11] 24 (0, 0)) (zqB BK437.out) hb); have n5_ := zA (below_step (zqH HB.out GE432.out GE437.out) hb); clear HO_8; clear HO_438001; clear HO449; clear BK432; clear BK437; clear HB; have HO_8 := n0_; have HO_438001 := n1_; have HO449 := n2_; have BK432 := n3_; have BK437 := n4_; have HB := n5_; clear n0_ n1_ n2_ n3_ n4_ n5_; (try clear hb); (try clear hb2); (try clear hk); (try clear hi); obtain ⟨Ao41, co41, eo41⟩ := Kd.R_slice HO449.out; subst eo41))
         go_meet
         case rel => exact ⟨_, (decide ((t447.length : Int) > t445)), zqQ, H', ⟨by have := HK1.out; first | omega | exact Nat.le_refl _⟩, ⟨by (with_reducible repeat (first | apply Kd.R_alloc | apply Kd.R_drewN | apply Kd.R_drew)); exact Kd.R_mono HO449.out (fun _ hk => trivial)⟩, ⟨zqC HO_438001.out⟩, ⟨zqB BK432.out⟩, ⟨zqB BK437.out⟩, ⟨zqH HB.out GE432.out GE437.out⟩⟩
        ·
         rw [if_neg c37] at H
         exact (pianolalaw03_PunchCrowds.j1_no H HRT.out).elim
       ·
        rw [if_neg c36] at H
        have c36b0 : (t446 == 0) = false := beq_eq_false_iff_ne.mpr c36
        have c36b1 : (t446 != 0) = true := bne_iff_ne.mpr c36
        obtain rfl : t451 = false := by simpa [c36b0] using c32b0
        by_cases c45 : t446 = 14
        ·
         rw [if_pos c45] at H
         have c45b0 : (t446 == 14) = true := beq_iff_eq.mpr c45
         have c45b1 : (t446 != 14) = false := bne_eq_false_iff_eq.mpr c45
         clear c45
         have H' := zA H
         clear H
         have hnb46 := NB437_432.out
         have hnc46 := NB432_437.out
         have hcz47_0 : w29.cell? ⟨gb437, 0, none⟩ = some (.int .i64 t433) := (blk_cell BK437.out 0).trans rfl
         have hcz47_1 : w29.cell? ⟨gb437, 1, none⟩ = some (.slice Ao11 t434.length co11) := (blk_cell BK437.out 1).trans rfl
         have hfz47_0 := blk_frozen BK437.out 0
         have hfz47_1 := blk_frozen BK437.out 1
         go_wp2_with (first | (go_at_call 39; (with_reducible refine (pianolalaw03_good.calls k1 t433 _ _ t434 _ _ x8_1 _ _ ?side1 ?side2 ?side3 ?side4 A31.out).mono ?_); (case side1 => exact zqK (Kd.R_reads' HO_438001.out).2.2); (case side2 => exact (Kd.R_reads' HO_438001.out).2.1); (case side3 => exact zqK (Kd.R_reads' HO_8.out).2.2); (case side4 => exact (Kd.R_reads' HO_8.out).2.1); rintro e w48 ⟨rfl, hb⟩; have n0_ := zA (Kd.R_below (zqC HO_8.out) hb); have n1_ := zA (Kd.R_below (zqC HO_438001.out) hb); have n2_ := zA (Kd.R_below (zqC HO449.out) hb); have n3_ := zA (blk_below (g := gb432) (o := .cells #[.int .u8 a0_0, .slice A0_1 l0_1.length c0_1] 74 (0, 0)) (zqB BK432.out) hb); have n4_ := zA (blk_below (g := gb437) (o := .cells #[.int .i64 t433, .slice Ao11 t434.length co11] 24 (0, 0)) (zqB BK437.out) hb); have n5_ := zA (below_step (zqH HB.out GE432.out GE437.out) hb); clear HO_8; clear HO_438001; clear HO449; clear BK432; clear BK437; clear HB; have HO_8 := n0_; have HO_438001 := n1_; have HO449 := n2_; have BK432 := n3_; have BK437 := n4_; have HB := n5_; clear n0_ n1_ n2_ n3_ n4_ n5_; (try clear hb); (try clear hb2); (try clear hk); (try clear hi)))
         go_meet
         case rel => exact ⟨_, (false), zqQ, H', ⟨by have := HK1.out; first | omega | exact Nat.le_refl _⟩, ⟨by (with_reducible repeat (first | apply Kd.R_alloc | apply Kd.R_drewN | apply Kd.R_drew)); exact Kd.R_mono HO449.out (fun _ hk => trivial)⟩, ⟨zqC HO_438001.out⟩, ⟨zqB BK432.out⟩, ⟨zqB BK437.out⟩, ⟨zqH HB.out GE432.out GE437.out⟩⟩
        ·
         rw [if_neg c45] at H
         exact (pianolalaw03_PunchCrowds.j1_no H HRT.out).elim
     ·
      rw [if_neg c30] at H
      exact (pianolalaw03_PunchCrowds.j1_no H HRT.out).elim
    case rest =>
     clear HC23
     try clear c1
     try clear c2
     try clear p2
     try clear c3
     try clear c4
     try clear p4
     try clear q4
     try clear hx4
     try clear p6
     try clear c9
     try clear c12
     try clear c12b0
     try clear c13
     try clear c13b0
     try clear c14
     try clear c14b0
     try clear c15
     try clear c16
     try clear c18
     try clear c24
     try clear c26
     try clear c30
     try clear c30b0
     try clear c30b1
     try clear c32
     try clear c32b0
     try clear c32b1
     try clear c32b2
     try clear c33
     try clear c36
     try clear c36b0
     try clear c36b1
     try clear c37
     try clear c37b0
     try clear c37b1
     try clear c38
     try clear c42
     try clear p43
     try clear q43
     try clear hx43
     try clear c45
     try clear c45b0
     try clear c45b1
     try clear c46
     try clear c49
     try clear hcz10_0
     try clear hcz10_1
     try clear hcz25_0
     try clear hcz25_1
     try clear hcz28_0
     try clear hcz28_1
     try clear hcz34_0
     try clear hcz34_1
     try clear hcz39_0
     try clear hcz39_1
     try clear hcz43_0
     try clear hcz43_1
     try clear hcz47_0
     try clear hcz47_1
     try clear hcz50_0
     try clear hcz50_1
     try clear hcz6_0
     try clear hcz6_1
     try clear hfz10_0
     try clear hfz10_1
     try clear hfz25_0
     try clear hfz25_1
     try clear hfz28_0
     try clear hfz28_1
     try clear hfz34_0
     try clear hfz34_1
     try clear hfz39_0
     try clear hfz39_1
     try clear hfz43_0
     try clear hfz43_1
     try clear hfz47_0
     try clear hfz47_1
     try clear hfz50_0
     try clear hfz50_1
     try clear hfz6_0
     try clear hfz6_1
     try clear hx438_0
     try clear p2
     try clear p438
     try clear q438
     obtain ⟨kq, x94_22, rfl, HA, HJ22, HO_14, HO_438001, BK432, BK437, HB⟩ := hcut
     cases kq with
     | zero => exact absurd HA.out (by simp [pianolalaw03_PunchCrowds.j1])
     | succ kj22 =>
      have H := HA.out
      clear HA
      simp only [pianolalaw03_PunchCrowds.j1] at H
      by_cases c52 : x94_22 = true
      ·
       subst c52
       have H1 : (some false) = some r := by rw [if_pos rfl] at H; exact H
       clear H; have H := H1; clear H1
       exact absurd ((Option.some.inj H).trans HRT.out) (by decide)
      ·
       replace c52 := Bool.eq_false_iff.mpr c52
       subst c52
       have H1 : (pianolalaw03_PunchCrowds.l1 kj22 a2 t447 t447 (t447.length : Int) 0 t433 t434) = some r := by rw [if_neg (show ¬ (false = true) by decide)] at H; exact H
       clear H; have H := H1; clear H1
       have H' := zA H
       clear H
       obtain ⟨Ao53, co53, eo53⟩ := Kd.R_slice HO_14.out
       subst eo53
       go_wp2
       go_loopg [97] kj22 (fun kq v97 w' => ∃ (x97_3 : Int), v97 = .int .i64 x97_3 ∧ Aside0 (pianolalaw03_PunchCrowds.l1 kq a2 t447 t447 (t447.length : Int) x97_3 t433 t434 = some r) ∧ Aside0 (kq ≤ kj22) ∧ Aside0 (Kd.R (Kd.int .i64) 3 w' w.heap.size (fun _ => True) (.slice Ao53 t447.length co53) t447) ∧ Aside0 (Kd.R (Kd.int .i64) 3 w' w.heap.size (fun _ => True) (.slice Ao53 t447.length co53) t447) ∧ Aside0 (Kd.R k47 47 w' w.heap.size (fun _ => True) (.slice Ao11 t434.length co11) t434) ∧ Aside0 (w'.heap[gb432]? = some (.cells #[.int .u8 a0_0, (.slice A0_1 l0_1.length c0_1)] 74 (0, 0))) ∧ Aside0 (w'.heap[gb437]? = some (.cells #[.int .i64 t433, (.slice Ao11 t434.length co11)] 24 (0, 0))) ∧ Aside0 (Below w.heap.size w w'))
       case atStart => exact ⟨(0), zqQ, H', ⟨Nat.le_refl _⟩, ⟨zqC HO_14.out⟩, ⟨zqC HO_14.out⟩, ⟨zqC HO_438001.out⟩, ⟨zqB BK432.out⟩, ⟨zqB BK437.out⟩, ⟨zqH HB.out GE432.out GE437.out⟩⟩
       case round =>
        clear H'
        try clear c1
        try clear c2
        try clear p2
        try clear c3
        try clear c4
        try clear p4
        try clear q4
        try clear hx4
        try clear c5
        try clear p6
        try clear c9
        try clear c12
        try clear c12b0
        try clear c13
        try clear c13b0
        try clear c14
        try clear c14b0
        try clear c15
        try clear c16
        try clear c18
        try clear c24
        try clear c26
        try clear c30
        try clear c30b0
        try clear c30b1
        try clear c32
        try clear c32b0
        try clear c32b1
        try clear c32b2
        try clear c33
        try clear c36
        try clear c36b0
        try clear c36b1
        try clear c37
        try clear c37b0
        try clear c37b1
        try clear c38
        try clear c42
        try clear p43
        try clear q43
        try clear hx43
        try clear c45
        try clear c45b0
        try clear c45b1
        try clear c46
        try clear c49
        try clear c52
        try clear hcz10_0
        try clear hcz10_1
        try clear hcz25_0
        try clear hcz25_1
        try clear hcz28_0
        try clear hcz28_1
        try clear hcz34_0
        try clear hcz34_1
        try clear hcz39_0
        try clear hcz39_1
        try clear hcz43_0
        try clear hcz43_1
        try clear hcz47_0
        try clear hcz47_1
        try clear hcz50_0
        try clear hcz50_1
        try clear hcz6_0
        try clear hcz6_1
        try clear hfz10_0
        try clear hfz10_1
        try clear hfz25_0
        try clear hfz25_1
        try clear hfz28_0
        try clear hfz28_1
        try clear hfz34_0
        try clear hfz34_1
        try clear hfz39_0
        try clear hfz39_1
        try clear hfz43_0
        try clear hfz43_1
        try clear hfz47_0
        try clear hfz47_1
        try clear hfz50_0
        try clear hfz50_1
        try clear hfz6_0
        try clear hfz6_1
        try clear hx438_0
        try clear p2
        try clear p4
        try clear p43
        try clear p438
        try clear p6
        try clear q4
        try clear q43
        try clear q438
        obtain ⟨x97_3, rfl, HA, HK3, HO_14, HO_95, HO_438001, BK432, BK437, HB⟩ := hrel
        cases gk with
        | zero => exact absurd HA.out (by simp [pianolalaw03_PunchCrowds.l1])
        | succ k3 =>
         have H := HA.out
         clear HA
         simp only [pianolalaw03_PunchCrowds.l1] at H
         by_cases c54 : x97_3 < (t447.length : Int)
         ·
          rw [if_pos c54] at H
          have c54b0 : decide (x97_3 < (t447.length : Int)) = true := decide_eq_true c54
          clear c54
          by_cases c55 : 0 ≤ x97_3
          ·
           rw [if_pos c55] at H
           have c55b0 : decide (0 ≤ x97_3) = true := decide_eq_true c55
           clear c55
           by_cases c56 : x97_3 < (t447.length : Int)
           ·
            rw [if_pos c56] at H
            have c56b0 : decide (x97_3 < (t447.length : Int)) = true := decide_eq_true c56
            clear c56
            have HC57 := zA H
            clear H
            have p453 : 0 ≤ (x97_3 : Int) := of_decide_eq_true (zqD)
            have q453 : x97_3 < (t447.length : Int) := of_decide_eq_true (zqD)
            obtain ⟨ad453, e453, hx453_0⟩ := Kd.at_int (Kd.R_reads' HO_95.out).2.2 x97_3 p453 q453
            cases e453; replace p453 := eq_true p453; replace q453 := eq_true q453
            go_upto_region 20 with (fail)
            go_cut [150] (fun v150 wc => ∃ (kq : Nat) (x150_56 : Bool), v150 = .bool x150_56 ∧ Aside0 (pianolalaw03_PunchCrowds.j3 kq a2 t447 x97_3 (rd t447 x97_3) t447 (t447.length : Int) x97_3 x150_56 t433 t434 = some r) ∧ Aside0 (kq ≤ k3) ∧ Aside0 (Kd.R (Kd.int .i64) 3 wc w.heap.size (fun _ => True) (.slice (some ad453) t447.length co53) t447) ∧ Aside0 (Kd.R (Kd.int .i64) 3 wc w.heap.size (fun _ => True) (.slice (some ad453) t447.length co53) t447) ∧ Aside0 (Kd.R k47 47 wc w.heap.size (fun _ => True) (.slice Ao11 t434.length co11) t434) ∧ Aside0 (wc.heap[gb432]? = some (.cells #[.int .u8 a0_0, (.slice A0_1 l0_1.length c0_1)] 74 (0, 0))) ∧ Aside0 (wc.heap[gb437]? = some (.cells #[.int .i64 t433, (.slice Ao11 t434.length co11)] 24 (0, 0))) ∧ Aside0 (Below w.heap.size w wc))
            case first =>
             have H := HC57.out
             clear HC57
             by_cases c58 : (rd t447 x97_3) < 0
             ·
              rw [if_pos c58] at H
              exact (pianolalaw03_PunchCrowds.j3_no H HRT.out).elim
             ·
              rw [if_neg c58] at H
              have c58b0 : decide ((rd t447 x97_3) < 0) = false := decide_eq_false c58
              clear c58
              (first | rw [c58b0] | (simp only [i64_w, i32_w]; rw [c58b0]) | skip)
              by_cases c60 : (rd t447 x97_3) ≥ (t434.length : Int)
              ·
               rw [if_pos c60] at H
               exact (pianolalaw03_PunchCrowds.j3_no H HRT.out).elim
              ·
               rw [if_neg c60] at H
               have c60b0 : decide ((t434.length : Int) ≤ (rd t447 x97_3)) = false := decide_eq_false c60
               clear c60
               by_cases c62 : x97_3 > 0
               ·
                rw [if_pos c62] at H
                have c62b0 : decide (0 < x97_3) = true := decide_eq_true c62
                clear c62
                obtain ⟨ji63, hji63⟩ : ∃ j_ : Int, (wrap64 (x97_3 - 1)) = j_ := ⟨_, rfl⟩
                replace H : (if 0 ≤ (ji63) then (if (ji63) < (t447.length : Int) then (if (rd t447 x97_3) ≤ (rd t447 (ji63)) then (pianolalaw03_PunchCrowds.j3 k3 a2 t447 x97_3 (rd t447 x97_3) t447 (t447.length : Int) x97_3 true t433 t434) else (if 0 ≤ (rd t447 x97_3) then (if (rd t447 x97_3) < (t434.length : Int) then (if ((rd_T47 t434 (rd t447 x97_3)).f0) > (Int.tmod (wrap64 (a2)) 60) then (pianolalaw03_PunchCrowds.j3 k3 a2 t447 x97_3 (rd t447 x97_3) t447 (t447.length : Int) x97_3 true t433 t434) else (pianolalaw03_PunchCrowds.j3 k3 a2 t447 x97_3 (rd t447 x97_3) t447 (t447.length : Int) x97_3 (decide ((wrap64 (((rd_T47 t434 (rd t447 x97_3)).f1) + t433)) ≤ (Int.tmod (wrap64 (a2)) 60))) t433 t434)) else (none)) else (none))) else (none)) else (none)) = some r := by first | (rw [hji63] at H; exact H) | (simp only [hji63] at H ⊢; exact H)
                have hji63w : (IntKind.i64.wrap (x97_3 - 1)) = ji63 := (i64_w _).trans hji63
                by_cases c64 : 0 ≤ (ji63)
                ·
                 rw [if_pos c64] at H
                 have c64b0 : decide (0 ≤ (ji63)) = true := decide_eq_true c64
                 clear c64
                 by_cases c65 : (ji63) < (t447.length : Int)
                 ·
                  rw [if_pos c65] at H
                  have c65b0 : decide ((ji63) < (t447.length : Int)) = true := decide_eq_true c65
                  clear c65
                  by_cases c66 : (rd t447 x97_3) ≤ (rd t447 (ji63))
                  ·
                   rw [if_pos c66] at H
                   exact (pianolalaw03_PunchCrowds.j3_no H HRT.out).elim
                  ·
                   rw [if_neg c66] at H
                   have c66b0 : decide ((rd t447 x97_3) ≤ (rd t447 (ji63))) = false := decide_eq_false c66
                   clear c66
                   by_cases c68 : 0 ≤ (rd t447 x97_3)
                   ·
                    rw [if_pos c68] at H
                    have c68b0 : decide (0 ≤ (rd t447 x97_3)) = true := decide_eq_true c68
                    clear c68
                    by_cases c69 : (rd t447 x97_3) < (t434.length : Int)
                    ·
                     rw [if_pos c69] at H
                     have c69b0 : decide ((rd t447 x97_3) < (t434.length : Int)) = true := decide_eq_true c69
                     clear c69
                     by_cases c70 : ((rd_T47 t434 (rd t447 x97_3)).f0) > (Int.tmod (wrap64 (a2)) 60)
                     ·
                      rw [if_pos c70] at H
                      exact (pianolalaw03_PunchCrowds.j3_no H HRT.out).elim
                     ·
                      rw [if_neg c70] at H
                      have c70b0 : decide ((Int.tmod (wrap64 (a2)) 60) < ((rd_T47 t434 (rd t447 x97_3)).f0)) = false := decide_eq_false c70
                      clear c70
                      have H' := zA H
                      clear H
                      try go_wp2
                      have n0_ := zA (Kd.R_drew HO_14.out); have n1_ := zA (Kd.R_drew HO_95.out); have n2_ := zA (Kd.R_drew HO_438001.out); have n3_ := zA (blk_drew BK432.out); have n4_ := zA (blk_drew BK437.out); have n5_ := zA (below_drew1 HB.out); clear HO_14 HO_95 HO_438001 BK432 BK437 HB; have HO_14 := n0_; have HO_95 := n1_; have HO_438001 := n2_; have BK432 := n3_; have BK437 := n4_; have HB := n5_; clear n0_ n1_ n2_ n3_ n4_ n5_
                      have p454 : 0 ≤ ((ji63) : Int) := of_decide_eq_true (zqD)
                      have q454 : (ji63) < (t447.length : Int) := of_decide_eq_true (zqD)
                      obtain ⟨ad454, e454, hx454_0⟩ := Kd.at_int (Kd.R_reads' HO_14.out).2.2 (ji63) p454 q454
                      obtain rfl : ad453 = ad454 := (by injection e454)
                      replace p454 := eq_true p454; replace q454 := eq_true q454
                      have p455 : 0 ≤ ((rd t447 x97_3) : Int) := of_decide_eq_true (zqD)
                      have q455 : (rd t447 x97_3) < (t434.length : Int) := of_decide_eq_true (zqD)
                      obtain ⟨ad455, e455, hx455_0, hx455_1⟩ := at_T47 (Kd.R_reads' HO_438001.out).2.2 (rd t447 x97_3) p455 q455
                      cases e455; replace p455 := eq_true p455; replace q455 := eq_true q455
                      have p456 : 0 ≤ ((rd t447 x97_3) : Int) := of_decide_eq_true (zqD)
                      have q456 : (rd t447 x97_3) < (t434.length : Int) := of_decide_eq_true (zqD)
                      obtain ⟨ad456, e456, hx456_0, hx456_1⟩ := at_T47 (Kd.R_reads' HO_438001.out).2.2 (rd t447 x97_3) p456 q456
                      obtain rfl : ad455 = ad456 := (by injection e456)
                      replace p456 := eq_true p456; replace q456 := eq_true q456
                      refine start_ (n := 49) (S := fun w' => w'.cell? ⟨gb437, 0, none⟩ = some (.int .i64 t433) ∧ w'.cell? ⟨gb437, 1, none⟩ = some (.slice (some ad455) t434.length co11) ∧ w'.cell? (ad453.add ((ji63)).toNat) = some (.int .i64 (rd t447 (ji63))) ∧ w'.cell? (ad455.add (((rd t447 x97_3)).toNat * 2)) = some (.int .i64 ((rd_T47 t434 (rd t447 x97_3)).f0)) ∧ w'.cell? ⟨(ad455.add (((rd t447 x97_3)).toNat * 2)).block, (ad455.add (((rd t447 x97_3)).toNat * 2)).off + 1, none⟩ = some (.int .i64 ((rd_T47 t434 (rd t447 x97_3)).f1)) ∧ w'.cell? (ad455.add (((rd t447 x97_3)).toNat * 2)) = some (.int .i64 ((rd_T47 t434 (rd t447 x97_3)).f0)) ∧ w'.cell? ⟨(ad455.add (((rd t447 x97_3)).toNat * 2)).block, (ad455.add (((rd t447 x97_3)).toNat * 2)).off + 1, none⟩ = some (.int .i64 ((rd_T47 t434 (rd t447 x97_3)).f1))) (ds := []) #[false, false, false, false, false, false, false, false, false, false, false, false, false, false, false, false, false, false, false, false, false, false, false, false, false, false, false, false, false, false, false, false, false, false, false, false, false, false, false, false, false, false, false, false, false, false, false, false, false] (by kernel_rfl) rfl rfl ⟨(blk_cell BK437.out 0).trans rfl, (blk_cell BK437.out 1).trans rfl, hx454_0, hx455_0, hx455_1, hx456_0, hx456_1⟩ (fun hHeld => ?_); refine with_tabW pianolalaw03_PunchCrowds.tab20 pianolalaw03_PunchCrowds.bits20 (fun HT_ HW_ => ?_)
                      generalize wr.drew = w72 at HO_14 HO_95 HO_438001 BK432 BK437 HB hx454_0 hx455_0 hx455_1 hx456_0 hx456_1 hHeld ⊢
                      refine pure_ (i := 0) (N := some 102) (v := ?_) (a' := ?_) #[true, false, false, false, false, false, false, false, false, false, false, false, false, false, false, false, false, false, false, false, false, false, false, false, false, false, false, false, false, false, false, false, false, false, false, false, false, false, false, false, false, false, false, false, false, false, false, false, false] rfl rfl (any_of HT_.out (by kernel_rfl)) (fun _ _ _ h => h) (Or.inl ⟨by rfl, ?_⟩) ?_ ?_
                      rotate_left
                      ·
                       intro w'
                       go_simp
                       with_reducible rfl
                      rotate_left
                      · simp only [Act.put, setIfInBounds_toArray, set_cons_zero, set_cons_succ, i64_w, i32_w]; rfl
                      refine pure_ (i := 1) (N := some 103) (v := ?_) (a' := ?_) #[true, true, false, false, false, false, false, false, false, false, false, false, false, false, false, false, false, false, false, false, false, false, false, false, false, false, false, false, false, false, false, false, false, false, false, false, false, false, false, false, false, false, false, false, false, false, false, false, false] rfl rfl (any_of HT_.out (by kernel_rfl)) (fun _ _ _ h => h) (Or.inl ⟨by rfl, ?_⟩) ?_ ?_
                      rotate_left
                      ·
                       intro w'
                       go_simp
                       with_reducible rfl
                      rotate_left
                      · simp only [Act.put, setIfInBounds_toArray, set_cons_zero, set_cons_succ, i64_w, i32_w]; rfl
                      refine pure_ (i := 2) (N := some 104) (v := ?_) (a' := ?_) #[true, true, true, false, false, false, false, false, false, false, false, false, false, false, false, false, false, false, false, false, false, false, false, false, false, false, false, false, false, false, false, false, false, false, false, false, false, false, false, false, false, false, false, false, false, false, false, false, false] rfl rfl (any_of HT_.out (by kernel_rfl)) (fun _ _ _ h => h) (Or.inl ⟨by rfl, ?_⟩) ?_ ?_
                      rotate_left
                      ·
                       intro w'
                       go_simp
                       with_reducible rfl
                      rotate_left
                      · simp only [Act.put, setIfInBounds_toArray, set_cons_zero, set_cons_succ, i64_w, i32_w]; rfl
                      refine pure_ (i := 3) (N := some 105) (v := ?_) (a' := ?_) #[true, true, true, true, false, false, false, false, false, false, false, false, false, false, false, false, false, false, false, false, false, false, false, false, false, false, false, false, false, false, false, false, false, false, false, false, false, false, false, false, false, false, false, false, false, false, false, false, false] rfl rfl (any_of HT_.out (by kernel_rfl)) (fun _ _ _ h => h) (Or.inl ⟨by rfl, ?_⟩) ?_ ?_
                      rotate_left
                      ·
                       intro w'
                       go_simp
                       with_reducible rfl
                      rotate_left
                      · simp only [Act.put, setIfInBounds_toArray, set_cons_zero, set_cons_succ, i64_w, i32_w]; rfl
                      refine pure_ (i := 4) (N := some 106) (v := ?_) (a' := ?_) #[true, true, true, true, true, false, false, false, false, false, false, false, false, false, false, false, false, false, false, false, false, false, false, false, false, false, false, false, false, false, false, false, false, false, false, false, false, false, false, false, false, false, false, false, false, false, false, false, false] rfl rfl (any_of HT_.out (by kernel_rfl)) (fun _ _ _ h => h) (Or.inl ⟨by rfl, ?_⟩) ?_ ?_
                      rotate_left
                      ·
                       intro w'
                       go_simp
                       with_reducible rfl
                      rotate_left
                      · simp only [Act.put, setIfInBounds_toArray, set_cons_zero, set_cons_succ, i64_w, i32_w]; rfl
                      refine take_ (i := 5) (N := some 107) (v := ?_) (a' := ?_) #[true, true, true, true, true, true, false, false, false, false, false, false, false, false, false, false, false, false, false, false, false, false, false, false, false, false, false, false, false, false, false, false, false, false, false, false, false, false, false, false, false, false, false, false, false, false, false, false, false] rfl rfl (take_ofW HT_.out HW_.out (by kernel_rfl)) (fun _ _ _ h => h) (Or.inl ⟨by rfl, ?_⟩) hHeld ?_ ?_
                      rotate_left
                      ·
                       rintro w' ⟨s0, s1, s2, s3, s4, s5, s6⟩
                       go_simp
                       with_reducible rfl
                      rotate_left
                      · simp only [Act.put, setIfInBounds_toArray, set_cons_zero, set_cons_succ, i64_w, i32_w]; rfl
                      refine pure_ (i := 6) (N := some 108) (v := ?_) (a' := ?_) #[true, true, true, true, true, true, true, false, false, false, false, false, false, false, false, false, false, false, false, false, false, false, false, false, false, false, false, false, false, false, false, false, false, false, false, false, false, false, false, false, false, false, false, false, false, false, false, false, false] rfl rfl (any_of HT_.out (by kernel_rfl)) (fun _ _ _ h => h) (Or.inl ⟨by rfl, ?_⟩) ?_ ?_
                      rotate_left
                      ·
                       intro w'
                       go_simp
                       with_reducible rfl
                      rotate_left
                      · simp only [Act.put, setIfInBounds_toArray, set_cons_zero, set_cons_succ, i64_w, i32_w]; rfl
                      refine pure_ (i := 7) (N := some 109) (v := ?_) (a' := ?_) #[true, true, true, true, true, true, true, true, false, false, false, false, false, false, false, false, false, false, false, false, false, false, false, false, false, false, false, false, false, false, false, false, false, false, false, false, false, false, false, false, false, false, false, false, false, false, false, false, false] rfl rfl (any_of HT_.out (by kernel_rfl)) (fun _ _ _ h => h) (Or.inl ⟨by rfl, ?_⟩) ?_ ?_
                      rotate_left
                      ·
                       intro w'
                       go_simp
                       with_reducible rfl
                      rotate_left
                      · simp only [Act.put, setIfInBounds_toArray, set_cons_zero, set_cons_succ, i64_w, i32_w]; rfl
                      refine pure_ (i := 8) (N := some 110) (v := ?_) (a' := ?_) #[true, true, true, true, true, true, true, true, true, false, false, false, false, false, false, false, false, false, false, false, false, false, false, false, false, false, false, false, false, false, false, false, false, false, false, false, false, false, false, false, false, false, false, false, false, false, false, false, false] rfl rfl (any_of HT_.out (by kernel_rfl)) (fun _ _ _ h => h) (Or.inl ⟨by rfl, ?_⟩) ?_ ?_
                      rotate_left
                      ·
                       intro w'
                       go_simp
                       with_reducible rfl
                      rotate_left
                      · simp only [Act.put, setIfInBounds_toArray, set_cons_zero, set_cons_succ, i64_w, i32_w]; rfl
                      refine pure_ (i := 9) (N := some 111) (v := ?_) (a' := ?_) #[true, true, true, true, true, true, true, true, true, true, false, false, false, false, false, false, false, false, false, false, false, false, false, false, false, false, false, false, false, false, false, false, false, false, false, false, false, false, false, false, false, false, false, false, false, false, false, false, false] rfl rfl (any_of HT_.out (by kernel_rfl)) (fun _ _ _ h => h) (Or.inl ⟨by rfl, ?_⟩) ?_ ?_
                      rotate_left
                      ·
                       intro w'
                       go_simp
                       with_reducible rfl
                      rotate_left
                      · simp only [Act.put, setIfInBounds_toArray, set_cons_zero, set_cons_succ, i64_w, i32_w]; rfl
                      refine pure_ (i := 10) (N := some 112) (v := ?_) (a' := ?_) #[true, true, true, true, true, true, true, true, true, true, true, false, false, false, false, false, false, false, false, false, false, false, false, false, false, false, false, false, false, false, false, false, false, false, false, false, false, false, false, false, false, false, false, false, false, false, false, false, false] rfl rfl (any_of HT_.out (by kernel_rfl)) (fun _ _ _ h => h) (Or.inl ⟨by rfl, ?_⟩) ?_ ?_
                      rotate_left
                      ·
                       intro w'
                       go_simp
                       with_reducible rfl
                      rotate_left
                      · simp only [Act.put, setIfInBounds_toArray, set_cons_zero, set_cons_succ, i64_w, i32_w]; rfl
                      refine pure_ (i := 11) (N := some 113) (v := ?_) (a' := ?_) #[true, true, true, true, true, true, true, true, true, true, true, true, false, false, false, false, false, false, false, false, false, false, false, false, false, false, false, false, false, false, false, false, false, false, false, false, false, false, false, false, false, false, false, false, false, false, false, false, false] rfl rfl (any_of HT_.out (by kernel_rfl)) (fun _ _ _ h => h) (Or.inl ⟨by rfl, ?_⟩) ?_ ?_
                      rotate_left
                      ·
                       intro w'
                       go_simp
                       with_reducible rfl
                      rotate_left
                      · simp only [Act.put, setIfInBounds_toArray, set_cons_zero, set_cons_succ, i64_w, i32_w]; rfl
                      refine pure_ (i := 12) (N := some 114) (v := ?_) (a' := ?_) #[true, true, true, true, true, true, true, true, true, true, true, true, true, false, false, false, false, false, false, false, false, false, false, false, false, false, false, false, false, false, false, false, false, false, false, false, false, false, false, false, false, false, false, false, false, false, false, false, false] rfl rfl (any_of HT_.out (by kernel_rfl)) (fun _ _ _ h => h) (Or.inl ⟨by rfl, ?_⟩) ?_ ?_
                      rotate_left
                      ·
                       intro w'
                       go_simp
                       with_reducible rfl
                      rotate_left
                      · simp only [Act.put, setIfInBounds_toArray, set_cons_zero, set_cons_succ, i64_w, i32_w]; rfl
                      refine pure_ (i := 13) (N := some 115) (v := ?_) (a' := ?_) #[true, true, true, true, true, true, true, true, true, true, true, true, true, true, false, false, false, false, false, false, false, false, false, false, false, false, false, false, false, false, false, false, false, false, false, false, false, false, false, false, false, false, false, false, false, false, false, false, false] rfl rfl (any_of HT_.out (by kernel_rfl)) (fun _ _ _ h => h) (Or.inl ⟨by rfl, ?_⟩) ?_ ?_
                      rotate_left
                      ·
                       intro w'
                       go_simp
                       with_reducible rfl
                      rotate_left
                      · simp only [Act.put, setIfInBounds_toArray, set_cons_zero, set_cons_succ, i64_w, i32_w]; rfl
                      refine pure_ (i := 14) (N := some 116) (v := ?_) (a' := ?_) #[true, true, true, true, true, true, true, true, true, true, true, true, true, true, true, false, false, false, false, false, false, false, false, false, false, false, false, false, false, false, false, false, false, false, false, false, false, false, false, false, false, false, false, false, false, false, false, false, false] rfl rfl (any_of HT_.out (by kernel_rfl)) (fun _ _ _ h => h) (Or.inl ⟨by rfl, ?_⟩) ?_ ?_
                      rotate_left
                      ·
                       intro w'
                       go_simp
                       with_reducible rfl
                      rotate_left
                      · simp only [Act.put, setIfInBounds_toArray, set_cons_zero, set_cons_succ, i64_w, i32_w]; rfl
                      refine pure_ (i := 15) (N := some 117) (v := ?_) (a' := ?_) #[true, true, true, true, true, true, true, true, true, true, true, true, true, true, true, true, false, false, false, false, false, false, false, false, false, false, false, false, false, false, false, false, false, false, false, false, false, false, false, false, false, false, false, false, false, false, false, false, false] rfl rfl (any_of HT_.out (by kernel_rfl)) (fun _ _ _ h => h) (Or.inl ⟨by rfl, ?_⟩) ?_ ?_
                      rotate_left
                      ·
                       intro w'
                       go_simp
                       with_reducible rfl
                      rotate_left
                      · simp only [Act.put, setIfInBounds_toArray, set_cons_zero, set_cons_succ, i64_w, i32_w]; rfl
                      refine pure_ (i := 16) (N := some 118) (v := ?_) (a' := ?_) #[true, true, true, true, true, true, true, true, true, true, true, true, true, true, true, true, true, false, false, false, false, false, false, false, false, false, false, false, false, false, false, false, false, false, false, false, false, false, false, false, false, false, false, false, false, false, false, false, false] rfl rfl (any_of HT_.out (by kernel_rfl)) (fun _ _ _ h => h) (Or.inl ⟨by rfl, ?_⟩) ?_ ?_
                      rotate_left
                      ·
                       intro w'
                       go_simp
                       with_reducible rfl
                      rotate_left
                      · simp only [Act.put, setIfInBounds_toArray, set_cons_zero, set_cons_succ, i64_w, i32_w]; rfl
                      refine pure_ (i := 17) (N := some 119) (v := ?_) (a' := ?_) #[true, true, true, true, true, true, true, true, true, true, true, true, true, true, true, true, true, true, false, false, false, false, false, false, false, false, false, false, false, false, false, false, false, false, false, false, false, false, false, false, false, false, false, false, false, false, false, false, false] rfl rfl (any_of HT_.out (by kernel_rfl)) (fun _ _ _ h => h) (Or.inl ⟨by rfl, ?_⟩) ?_ ?_
                      rotate_left
                      ·
                       intro w'
                       go_simp
                       with_reducible rfl
                      rotate_left
                      · simp only [Act.put, setIfInBounds_toArray, set_cons_zero, set_cons_succ, i64_w, i32_w]; rfl
                      refine take_ (i := 18) (N := some 120) (v := ?_) (a' := ?_) #[true, true, true, true, true, true, true, true, true, true, true, true, true, true, true, true, true, true, true, false, false, false, false, false, false, false, false, false, false, false, false, false, false, false, false, false, false, false, false, false, false, false, false, false, false, false, false, false, false] rfl rfl (take_ofW HT_.out HW_.out (by kernel_rfl)) (fun _ _ _ h => h) (Or.inl ⟨by rfl, ?_⟩) hHeld ?_ ?_
                      rotate_left
                      ·
                       rintro w' ⟨s0, s1, s2, s3, s4, s5, s6⟩
                       go_simp
                       with_reducible rfl
                      rotate_left
                      · simp only [Act.put, setIfInBounds_toArray, set_cons_zero, set_cons_succ, i64_w, i32_w]; rfl
                      refine pure_ (i := 19) (N := some 121) (v := ?_) (a' := ?_) #[true, true, true, true, true, true, true, true, true, true, true, true, true, true, true, true, true, true, true, true, false, false, false, false, false, false, false, false, false, false, false, false, false, false, false, false, false, false, false, false, false, false, false, false, false, false, false, false, false] rfl rfl (any_of HT_.out (by kernel_rfl)) (fun _ _ _ h => h) (Or.inl ⟨by rfl, ?_⟩) ?_ ?_
                      rotate_left
                      ·
                       intro w'
                       go_simp
                       with_reducible rfl
                      rotate_left
                      · simp only [Act.put, setIfInBounds_toArray, set_cons_zero, set_cons_succ, i64_w, i32_w]; rfl
                      refine pure_ (i := 20) (N := some 122) (v := ?_) (a' := ?_) #[true, true, true, true, true, true, true, true, true, true, true, true, true, true, true, true, true, true, true, true, true, false, false, false, false, false, false, false, false, false, false, false, false, false, false, false, false, false, false, false, false, false, false, false, false, false, false, false, false] rfl rfl (any_of HT_.out (by kernel_rfl)) (fun _ _ _ h => h) (Or.inl ⟨by rfl, ?_⟩) ?_ ?_
                      rotate_left
                      ·
                       intro w'
                       go_simp
                       with_reducible rfl
                      rotate_left
                      · simp only [Act.put, setIfInBounds_toArray, set_cons_zero, set_cons_succ, i64_w, i32_w]; rfl
                      refine pure_ (i := 21) (N := some 123) (v := ?_) (a' := ?_) #[true, true, true, true, true, true, true, true, true, true, true, true, true, true, true, true, true, true, true, true, true, true, false, false, false, false, false, false, false, false, false, false, false, false, false, false, false, false, false, false, false, false, false, false, false, false, false, false, false] rfl rfl (any_of HT_.out (by kernel_rfl)) (fun _ _ _ h => h) (Or.inl ⟨by rfl, ?_⟩) ?_ ?_
                      rotate_left
                      ·
                       intro w'
                       go_simp
                       with_reducible rfl
                      rotate_left
                      · simp only [Act.put, setIfInBounds_toArray, set_cons_zero, set_cons_succ, i64_w, i32_w]; rfl
                      refine pure_ (i := 22) (N := some 124) (v := ?_) (a' := ?_) #[true, true, true, true, true, true, true, true, true, true, true, true, true, true, true, true, true, true, true, true, true, true, true, false, false, false, false, false, false, false, false, false, false, false, false, false, false, false, false, false, false, false, false, false, false, false, false, false, false] rfl rfl (any_of HT_.out (by kernel_rfl)) (fun _ _ _ h => h) (Or.inl ⟨by rfl, ?_⟩) ?_ ?_
                      rotate_left
                      ·
                       intro w'
                       go_simp
                       with_reducible rfl
                      rotate_left
                      · simp only [Act.put, setIfInBounds_toArray, set_cons_zero, set_cons_succ, i64_w, i32_w]; rfl
                      refine pure_ (i := 23) (N := some 125) (v := ?_) (a' := ?_) #[true, true, true, true, true, true, true, true, true, true, true, true, true, true, true, true, true, true, true, true, true, true, true, true, false, false, false, false, false, false, false, false, false, false, false, false, false, false, false, false, false, false, false, false, false, false, false, false, false] rfl rfl (any_of HT_.out (by kernel_rfl)) (fun _ _ _ h => h) (Or.inl ⟨by rfl, ?_⟩) ?_ ?_
                      rotate_left
                      ·
                       intro w'
                       go_simp
                       with_reducible rfl
                      rotate_left
                      · simp only [Act.put, setIfInBounds_toArray, set_cons_zero, set_cons_succ, i64_w, i32_w]; rfl
                      refine pure_ (i := 25) (N := some 127) (v := ?_) (a' := ?_) #[true, true, true, true, true, true, true, true, true, true, true, true, true, true, true, true, true, true, true, true, true, true, true, true, false, true, false, false, false, false, false, false, false, false, false, false, false, false, false, false, false, false, false, false, false, false, false, false, false] rfl rfl (any_of HT_.out (by kernel_rfl)) (fun _ _ _ h => h) (Or.inl ⟨by rfl, ?_⟩) ?_ ?_
                      rotate_left
                      ·
                       intro w'
                       go_simp
                       with_reducible rfl
                      rotate_left
                      · simp only [Act.put, setIfInBounds_toArray, set_cons_zero, set_cons_succ, i64_w, i32_w]; rfl
                      refine pure_ (i := 29) (N := some 131) (v := ?_) (a' := ?_) #[true, true, true, true, true, true, true, true, true, true, true, true, true, true, true, true, true, true, true, true, true, true, true, true, false, true, false, false, false, true, false, false, false, false, false, false, false, false, false, false, false, false, false, false, false, false, false, false, false] rfl rfl (any_of HT_.out (by kernel_rfl)) (fun _ _ _ h => h) (Or.inl ⟨by rfl, ?_⟩) ?_ ?_
                      rotate_left
                      ·
                       intro w'
                       go_simp
                       with_reducible rfl
                      rotate_left
                      · simp only [Act.put, setIfInBounds_toArray, set_cons_zero, set_cons_succ, i64_w, i32_w]; rfl
                      refine pure_ (i := 30) (N := some 132) (v := ?_) (a' := ?_) #[true, true, true, true, true, true, true, true, true, true, true, true, true, true, true, true, true, true, true, true, true, true, true, true, false, true, false, false, false, true, true, false, false, false, false, false, false, false, false, false, false, false, false, false, false, false, false, false, false] rfl rfl (any_of HT_.out (by kernel_rfl)) (fun _ _ _ h => h) (Or.inl ⟨by rfl, ?_⟩) ?_ ?_
                      rotate_left
                      ·
                       intro w'
                       go_simp
                       with_reducible rfl
                      rotate_left
                      · simp only [Act.put, setIfInBounds_toArray, set_cons_zero, set_cons_succ, i64_w, i32_w]; rfl
                      refine pure_ (i := 31) (N := some 133) (v := ?_) (a' := ?_) #[true, true, true, true, true, true, true, true, true, true, true, true, true, true, true, true, true, true, true, true, true, true, true, true, false, true, false, false, false, true, true, true, false, false, false, false, false, false, false, false, false, false, false, false, false, false, false, false, false] rfl rfl (any_of HT_.out (by kernel_rfl)) (fun _ _ _ h => h) (Or.inl ⟨by rfl, ?_⟩) ?_ ?_
                      rotate_left
                      ·
                       intro w'
                       go_simp
                       with_reducible rfl
                      rotate_left
                      · simp only [Act.put, setIfInBounds_toArray, set_cons_zero, set_cons_succ, i64_w, i32_w]; rfl
                      refine take_ (i := 24) (N := some 126) (v := ?_) (a' := ?_) #[true, true, true, true, true, true, true, true, true, true, true, true, true, true, true, true, true, true, true, true, true, true, true, true, true, true, false, false, false, true, true, true, false, false, false, false, false, false, false, false, false, false, false, false, false, false, false, false, false] rfl rfl (take_ofW HT_.out HW_.out (by kernel_rfl)) (fun _ _ _ h => h) (Or.inl ⟨by rfl, ?_⟩) hHeld ?_ ?_
                      rotate_left
                      ·
                       rintro w' ⟨s0, s1, s2, s3, s4, s5, s6⟩
                       go_simp
                       with_reducible rfl
                      rotate_left
                      · simp only [Act.put, setIfInBounds_toArray, set_cons_zero, set_cons_succ, i64_w, i32_w]; rfl
                      refine pure_ (i := 26) (N := some 128) (v := ?_) (a' := ?_) #[true, true, true, true, true, true, true, true, true, true, true, true, true, true, true, true, true, true, true, true, true, true, true, true, true, true, true, false, false, true, true, true, false, false, false, false, false, false, false, false, false, false, false, false, false, false, false, false, false] rfl rfl (any_of HT_.out (by kernel_rfl)) (fun _ _ _ h => h) (Or.inl ⟨by rfl, ?_⟩) ?_ ?_
                      rotate_left
                      ·
                       intro w'
                       go_simp
                       with_reducible rfl
                      rotate_left
                      · simp only [Act.put, setIfInBounds_toArray, set_cons_zero, set_cons_succ, i64_w, i32_w]; rfl
                      refine pure_ (i := 27) (N := some 129) (v := ?_) (a' := ?_) #[true, true, true, true, true, true, true, true, true, true, true, true, true, true, true, true, true, true, true, true, true, true, true, true, true, true, true, true, false, true, true, true, false, false, false, false, false, false, false, false, false, false, false, false, false, false, false, false, false] rfl rfl (any_of HT_.out (by kernel_rfl)) (fun _ _ _ h => h) (Or.inl ⟨by rfl, ?_⟩) ?_ ?_
                      rotate_left
                      ·
                       intro w'
                       go_simp
                       with_reducible rfl
                      rotate_left
                      · simp only [Act.put, setIfInBounds_toArray, set_cons_zero, set_cons_succ, i64_w, i32_w]; rfl
                      refine take_ (i := 28) (N := some 130) (v := ?_) (a' := ?_) #[true, true, true, true, true, true, true, true, true, true, true, true, true, true, true, true, true, true, true, true, true, true, true, true, true, true, true, true, true, true, true, true, false, false, false, false, false, false, false, false, false, false, false, false, false, false, false, false, false] rfl rfl (take_ofW HT_.out HW_.out (by kernel_rfl)) (fun _ _ _ h => h) (Or.inl ⟨by rfl, ?_⟩) hHeld ?_ ?_
                      rotate_left
                      ·
                       rintro w' ⟨s0, s1, s2, s3, s4, s5, s6⟩
                       go_simp
                       with_reducible rfl
                      rotate_left
                      · simp only [Act.put, setIfInBounds_toArray, set_cons_zero, set_cons_succ, i64_w, i32_w]; rfl
                      refine pure_ (i := 32) (N := some 134) (v := ?_) (a' := ?_) #[true, true, true, true, true, true, true, true, true, true, true, true, true, true, true, true, true, true, true, true, true, true, true, true, true, true, true, true, true, true, true, true, true, false, false, false, false, false, false, false, false, false, false, false, false, false, false, false, false] rfl rfl (any_of HT_.out (by kernel_rfl)) (fun _ _ _ h => h) (Or.inl ⟨by rfl, ?_⟩) ?_ ?_
                      rotate_left
                      ·
                       intro w'
                       go_simp
                       with_reducible rfl
                      rotate_left
                      · simp only [Act.put, setIfInBounds_toArray, set_cons_zero, set_cons_succ, i64_w, i32_w]; rfl
                      refine pure_ (i := 33) (N := some 135) (v := ?_) (a' := ?_) #[true, true, true, true, true, true, true, true, true, true, true, true, true, true, true, true, true, true, true, true, true, true, true, true, true, true, true, true, true, true, true, true, true, true, false, false, false, false, false, false, false, false, false, false, false, false, false, false, false] rfl rfl (any_of HT_.out (by kernel_rfl)) (fun _ _ _ h => h) (Or.inl ⟨by rfl, ?_⟩) ?_ ?_
                      rotate_left
                      ·
                       intro w'
                       go_simp
                       with_reducible rfl
                      rotate_left
                      · simp only [Act.put, setIfInBounds_toArray, set_cons_zero, set_cons_succ, i64_w, i32_w]; rfl
                      refine pure_ (i := 34) (N := some 136) (v := ?_) (a' := ?_) #[true, true, true, true, true, true, true, true, true, true, true, true, true, true, true, true, true, true, true, true, true, true, true, true, true, true, true, true, true, true, true, true, true, true, true, false, false, false, false, false, false, false, false, false, false, false, false, false, false] rfl rfl (any_of HT_.out (by kernel_rfl)) (fun _ _ _ h => h) (Or.inl ⟨by rfl, ?_⟩) ?_ ?_
                      rotate_left
                      ·
                       intro w'
                       go_simp
                       with_reducible rfl
                      rotate_left
                      · simp only [Act.put, setIfInBounds_toArray, set_cons_zero, set_cons_succ, i64_w, i32_w]; rfl
                      refine pure_ (i := 35) (N := some 137) (v := ?_) (a' := ?_) #[true, true, true, true, true, true, true, true, true, true, true, true, true, true, true, true, true, true, true, true, true, true, true, true, true, true, true, true, true, true, true, true, true, true, true, true, false, false, false, false, false, false, false, false, false, false, false, false, false] rfl rfl (any_of HT_.out (by kernel_rfl)) (fun _ _ _ h => h) (Or.inl ⟨by rfl, ?_⟩) ?_ ?_
                      rotate_left
                      ·
                       intro w'
                       go_simp
                       with_reducible rfl
                      rotate_left
                      · simp only [Act.put, setIfInBounds_toArray, set_cons_zero, set_cons_succ, i64_w, i32_w]; rfl
                      refine pure_ (i := 37) (N := some 139) (v := ?_) (a' := ?_) #[true, true, true, true, true, true, true, true, true, true, true, true, true, true, true, true, true, true, true, true, true, true, true, true, true, true, true, true, true, true, true, true, true, true, true, true, false, true, false, false, false, false, false, false, false, false, false, false, false] rfl rfl (any_of HT_.out (by kernel_rfl)) (fun _ _ _ h => h) (Or.inl ⟨by rfl, ?_⟩) ?_ ?_
                      rotate_left
                      ·
                       intro w'
                       go_simp
                       with_reducible rfl
                      rotate_left
                      · simp only [Act.put, setIfInBounds_toArray, set_cons_zero, set_cons_succ, i64_w, i32_w]; rfl
                      refine pure_ (i := 41) (N := some 143) (v := ?_) (a' := ?_) #[true, true, true, true, true, true, true, true, true, true, true, true, true, true, true, true, true, true, true, true, true, true, true, true, true, true, true, true, true, true, true, true, true, true, true, true, false, true, false, false, false, true, false, false, false, false, false, false, false] rfl rfl (any_of HT_.out (by kernel_rfl)) (fun _ _ _ h => h) (Or.inl ⟨by rfl, ?_⟩) ?_ ?_
                      rotate_left
                      ·
                       intro w'
                       go_simp
                       with_reducible rfl
                      rotate_left
                      · simp only [Act.put, setIfInBounds_toArray, set_cons_zero, set_cons_succ, i64_w, i32_w]; rfl
                      refine pure_ (i := 44) (N := some 146) (v := ?_) (a' := ?_) #[true, true, true, true, true, true, true, true, true, true, true, true, true, true, true, true, true, true, true, true, true, true, true, true, true, true, true, true, true, true, true, true, true, true, true, true, false, true, false, false, false, true, false, false, true, false, false, false, false] rfl rfl (any_of HT_.out (by kernel_rfl)) (fun _ _ _ h => h) (Or.inl ⟨by rfl, ?_⟩) ?_ ?_
                      rotate_left
                      ·
                       intro w'
                       go_simp
                       with_reducible rfl
                      rotate_left
                      · simp only [Act.put, setIfInBounds_toArray, set_cons_zero, set_cons_succ, i64_w, i32_w]; rfl
                      refine pure_ (i := 45) (N := some 147) (v := ?_) (a' := ?_) #[true, true, true, true, true, true, true, true, true, true, true, true, true, true, true, true, true, true, true, true, true, true, true, true, true, true, true, true, true, true, true, true, true, true, true, true, false, true, false, false, false, true, false, false, true, true, false, false, false] rfl rfl (any_of HT_.out (by kernel_rfl)) (fun _ _ _ h => h) (Or.inl ⟨by rfl, ?_⟩) ?_ ?_
                      rotate_left
                      ·
                       intro w'
                       go_simp
                       with_reducible rfl
                      rotate_left
                      · simp only [Act.put, setIfInBounds_toArray, set_cons_zero, set_cons_succ, i64_w, i32_w]; rfl
                      refine pure_ (i := 46) (N := some 148) (v := ?_) (a' := ?_) #[true, true, true, true, true, true, true, true, true, true, true, true, true, true, true, true, true, true, true, true, true, true, true, true, true, true, true, true, true, true, true, true, true, true, true, true, false, true, false, false, false, true, false, false, true, true, true, false, false] rfl rfl (any_of HT_.out (by kernel_rfl)) (fun _ _ _ h => h) (Or.inl ⟨by rfl, ?_⟩) ?_ ?_
                      rotate_left
                      ·
                       intro w'
                       go_simp
                       with_reducible rfl
                      rotate_left
                      · simp only [Act.put, setIfInBounds_toArray, set_cons_zero, set_cons_succ, i64_w, i32_w]; rfl
                      refine take_ (i := 36) (N := some 138) (v := ?_) (a' := ?_) #[true, true, true, true, true, true, true, true, true, true, true, true, true, true, true, true, true, true, true, true, true, true, true, true, true, true, true, true, true, true, true, true, true, true, true, true, true, true, false, false, false, true, false, false, true, true, true, false, false] rfl rfl (take_ofW HT_.out HW_.out (by kernel_rfl)) (fun _ _ _ h => h) (Or.inl ⟨by rfl, ?_⟩) hHeld ?_ ?_
                      rotate_left
                      ·
                       rintro w' ⟨s0, s1, s2, s3, s4, s5, s6⟩
                       go_simp
                       with_reducible rfl
                      rotate_left
                      · simp only [Act.put, setIfInBounds_toArray, set_cons_zero, set_cons_succ, i64_w, i32_w]; rfl
                      refine pure_ (i := 38) (N := some 140) (v := ?_) (a' := ?_) #[true, true, true, true, true, true, true, true, true, true, true, true, true, true, true, true, true, true, true, true, true, true, true, true, true, true, true, true, true, true, true, true, true, true, true, true, true, true, true, false, false, true, false, false, true, true, true, false, false] rfl rfl (any_of HT_.out (by kernel_rfl)) (fun _ _ _ h => h) (Or.inl ⟨by rfl, ?_⟩) ?_ ?_
                      rotate_left
                      ·
                       intro w'
                       go_simp
                       with_reducible rfl
                      rotate_left
                      · simp only [Act.put, setIfInBounds_toArray, set_cons_zero, set_cons_succ, i64_w, i32_w]; rfl
                      refine pure_ (i := 39) (N := some 141) (v := ?_) (a' := ?_) #[true, true, true, true, true, true, true, true, true, true, true, true, true, true, true, true, true, true, true, true, true, true, true, true, true, true, true, true, true, true, true, true, true, true, true, true, true, true, true, true, false, true, false, false, true, true, true, false, false] rfl rfl (any_of HT_.out (by kernel_rfl)) (fun _ _ _ h => h) (Or.inl ⟨by rfl, ?_⟩) ?_ ?_
                      rotate_left
                      ·
                       intro w'
                       go_simp
                       with_reducible rfl
                      rotate_left
                      · simp only [Act.put, setIfInBounds_toArray, set_cons_zero, set_cons_succ, i64_w, i32_w]; rfl
                      refine take_ (i := 40) (N := some 142) (v := ?_) (a' := ?_) #[true, true, true, true, true, true, true, true, true, true, true, true, true, true, true, true, true, true, true, true, true, true, true, true, true, true, true, true, true, true, true, true, true, true, true, true, true, true, true, true, true, true, false, false, true, true, true, false, false] rfl rfl (take_ofW HT_.out HW_.out (by kernel_rfl)) (fun _ _ _ h => h) (Or.inl ⟨by rfl, ?_⟩) hHeld ?_ ?_
                      rotate_left
                      ·
                       rintro w' ⟨s0, s1, s2, s3, s4, s5, s6⟩
                       go_simp
                       with_reducible rfl
                      rotate_left
                      · simp only [Act.put, setIfInBounds_toArray, set_cons_zero, set_cons_succ, i64_w, i32_w]; rfl
                      refine take_ (i := 42) (N := some 144) (v := ?_) (a' := ?_) #[true, true, true, true, true, true, true, true, true, true, true, true, true, true, true, true, true, true, true, true, true, true, true, true, true, true, true, true, true, true, true, true, true, true, true, true, true, true, true, true, true, true, true, false, true, true, true, false, false] rfl rfl (take_ofW HT_.out HW_.out (by kernel_rfl)) (fun _ _ _ h => h) (Or.inl ⟨by rfl, ?_⟩) hHeld ?_ ?_
                      rotate_left
                      ·
                       rintro w' ⟨s0, s1, s2, s3, s4, s5, s6⟩
                       go_simp
                       with_reducible rfl
                      rotate_left
                      · simp only [Act.put, setIfInBounds_toArray, set_cons_zero, set_cons_succ, i64_w, i32_w]; rfl
                      refine pure_ (i := 43) (N := some 145) (v := ?_) (a' := ?_) #[true, true, true, true, true, true, true, true, true, true, true, true, true, true, true, true, true, true, true, true, true, true, true, true, true, true, true, true, true, true, true, true, true, true, true, true, true, true, true, true, true, true, true, true, true, true, true, false, false] rfl rfl (any_of HT_.out (by kernel_rfl)) (fun _ _ _ h => h) (Or.inl ⟨by rfl, ?_⟩) ?_ ?_
                      rotate_left
                      ·
                       intro w'
                       go_simp
                       with_reducible rfl
                      rotate_left
                      · simp only [Act.put, setIfInBounds_toArray, set_cons_zero, set_cons_succ, i64_w, i32_w]; rfl
                      refine pure_ (i := 47) (N := some 149) (v := ?_) (a' := ?_) #[true, true, true, true, true, true, true, true, true, true, true, true, true, true, true, true, true, true, true, true, true, true, true, true, true, true, true, true, true, true, true, true, true, true, true, true, true, true, true, true, true, true, true, true, true, true, true, true, false] rfl rfl (any_of HT_.out (by kernel_rfl)) (fun _ _ _ h => h) (Or.inl ⟨by rfl, ?_⟩) ?_ ?_
                      rotate_left
                      ·
                       intro w'
                       go_simp
                       with_reducible rfl
                      rotate_left
                      · simp only [Act.put, setIfInBounds_toArray, set_cons_zero, set_cons_succ, i64_w, i32_w]; rfl
                      refine pure_ (i := 48) (N := some 150) (v := ?_) (a' := ?_) #[true, true, true, true, true, true, true, true, true, true, true, true, true, true, true, true, true, true, true, true, true, true, true, true, true, true, true, true, true, true, true, true, true, true, true, true, true, true, true, true, true, true, true, true, true, true, true, true, true] rfl rfl (any_of HT_.out (by kernel_rfl)) (fun _ _ _ h => h) (Or.inl ⟨by rfl, ?_⟩) ?_ ?_
                      rotate_left
                      ·
                       intro w'
                       go_simp
                       with_reducible rfl
                      rotate_left
                      · simp only [Act.put, setIfInBounds_toArray, set_cons_zero, set_cons_succ, i64_w, i32_w]; rfl
                      refine done_ (done_of HT_.out (by kernel_rfl)) ?_
                      try go_wp2
                      go_meet
                      case rel => exact ⟨_, (decide ((wrap64 (((rd_T47 t434 (rd t447 x97_3)).f1) + t433)) ≤ (Int.tmod (wrap64 (a2)) 60))), zqQ, H', ⟨by have := HK1.out; have := HJ22.out; have := HK3.out; first | omega | exact Nat.le_refl _⟩, ⟨zqC HO_14.out⟩, ⟨zqC HO_95.out⟩, ⟨zqC HO_438001.out⟩, ⟨zqB BK432.out⟩, ⟨zqB BK437.out⟩, ⟨zqH HB.out GE432.out GE437.out⟩⟩
                    ·
                     rw [if_neg c69] at H
                     exact absurd H (by simp)
                   ·
                    rw [if_neg c68] at H
                    exact absurd H (by simp)
                 ·
                  rw [if_neg c65] at H
                  exact absurd H (by simp)
                ·
                 rw [if_neg c64] at H
                 exact absurd H (by simp)
               ·
                rw [if_neg c62] at H
                have c62b0 : decide (0 < x97_3) = false := decide_eq_false c62
                clear c62
                by_cases c73 : 0 ≤ (rd t447 x97_3)
                ·
                 rw [if_pos c73] at H
                 have c73b0 : decide (0 ≤ (rd t447 x97_3)) = true := decide_eq_true c73
                 clear c73
                 by_cases c74 : (rd t447 x97_3) < (t434.length : Int)
                 ·
                  rw [if_pos c74] at H
                  have c74b0 : decide ((rd t447 x97_3) < (t434.length : Int)) = true := decide_eq_true c74
                  clear c74
                  by_cases c75 : ((rd_T47 t434 (rd t447 x97_3)).f0) > (Int.tmod (wrap64 (a2)) 60)
                  ·
                   rw [if_pos c75] at H
                   exact (pianolalaw03_PunchCrowds.j3_no H HRT.out).elim
                  ·
                   rw [if_neg c75] at H
                   have c75b0 : decide ((Int.tmod (wrap64 (a2)) 60) < ((rd_T47 t434 (rd t447 x97_3)).f0)) = false := decide_eq_false c75
                   clear c75
                   have H' := zA H
                   clear H
                   try go_wp2
                   have n0_ := zA (Kd.R_drew HO_14.out); have n1_ := zA (Kd.R_drew HO_95.out); have n2_ := zA (Kd.R_drew HO_438001.out); have n3_ := zA (blk_drew BK432.out); have n4_ := zA (blk_drew BK437.out); have n5_ := zA (below_drew1 HB.out); clear HO_14 HO_95 HO_438001 BK432 BK437 HB; have HO_14 := n0_; have HO_95 := n1_; have HO_438001 := n2_; have BK432 := n3_; have BK437 := n4_; have HB := n5_; clear n0_ n1_ n2_ n3_ n4_ n5_
                   have p457 : 0 ≤ ((rd t447 x97_3) : Int) := of_decide_eq_true (zqD)
                   have q457 : (rd t447 x97_3) < (t434.length : Int) := of_decide_eq_true (zqD)
                   obtain ⟨ad457, e457, hx457_0, hx457_1⟩ := at_T47 (Kd.R_reads' HO_438001.out).2.2 (rd t447 x97_3) p457 q457
                   cases e457; replace p457 := eq_true p457; replace q457 := eq_true q457
                   have p458 : 0 ≤ ((rd t447 x97_3) : Int) := of_decide_eq_true (zqD)
                   have q458 : (rd t447 x97_3) < (t434.length : Int) := of_decide_eq_true (zqD)
                   obtain ⟨ad458, e458, hx458_0, hx458_1⟩ := at_T47 (Kd.R_reads' HO_438001.out).2.2 (rd t447 x97_3) p458 q458
                   obtain rfl : ad457 = ad458 := (by injection e458)
                   replace p458 := eq_true p458; replace q458 := eq_true q458
                   refine start_ (n := 49) (S := fun w' => w'.cell? ⟨gb437, 0, none⟩ = some (.int .i64 t433) ∧ w'.cell? ⟨gb437, 1, none⟩ = some (.slice (some ad457) t434.length co11) ∧ w'.cell? (ad457.add (((rd t447 x97_3)).toNat * 2)) = some (.int .i64 ((rd_T47 t434 (rd t447 x97_3)).f0)) ∧ w'.cell? ⟨(ad457.add (((rd t447 x97_3)).toNat * 2)).block, (ad457.add (((rd t447 x97_3)).toNat * 2)).off + 1, none⟩ = some (.int .i64 ((rd_T47 t434 (rd t447 x97_3)).f1)) ∧ w'.cell? (ad457.add (((rd t447 x97_3)).toNat * 2)) = some (.int .i64 ((rd_T47 t434 (rd t447 x97_3)).f0)) ∧ w'.cell? ⟨(ad457.add (((rd t447 x97_3)).toNat * 2)).block, (ad457.add (((rd t447 x97_3)).toNat * 2)).off + 1, none⟩ = some (.int .i64 ((rd_T47 t434 (rd t447 x97_3)).f1))) (ds := []) #[false, false, false, false, false, false, false, false, false, false, false, false, false, false, false, false, false, false, false, false, false, false, false, false, false, false, false, false, false, false, false, false, false, false, false, false, false, false, false, false, false, false, false, false, false, false, false, false, false] (by kernel_rfl) rfl rfl ⟨(blk_cell BK437.out 0).trans rfl, (blk_cell BK437.out 1).trans rfl, hx457_0, hx457_1, hx458_0, hx458_1⟩ (fun hHeld => ?_); refine with_tabW pianolalaw03_PunchCrowds.tab20 pianolalaw03_PunchCrowds.bits20 (fun HT_ HW_ => ?_)
                   generalize wr.drew = w77 at HO_14 HO_95 HO_438001 BK432 BK437 HB hx457_0 hx457_1 hx458_0 hx458_1 hHeld ⊢
                   refine pure_ (i := 0) (N := some 102) (v := ?_) (a' := ?_) #[true, false, false, false, false, false, false, false, false, false, false, false, false, false, false, false, false, false, false, false, false, false, false, false, false, false, false, false, false, false, false, false, false, false, false, false, false, false, false, false, false, false, false, false, false, false, false, false, false] rfl rfl (any_of HT_.out (by kernel_rfl)) (fun _ _ _ h => h) (Or.inl ⟨by rfl, ?_⟩) ?_ ?_
                   rotate_left
                   ·
                    intro w'
                    go_simp
                    with_reducible rfl
                   rotate_left
                   · simp only [Act.put, setIfInBounds_toArray, set_cons_zero, set_cons_succ, i64_w, i32_w]; rfl
                   refine pure_ (i := 1) (N := some 103) (v := ?_) (a' := ?_) #[true, true, false, false, false, false, false, false, false, false, false, false, false, false, false, false, false, false, false, false, false, false, false, false, false, false, false, false, false, false, false, false, false, false, false, false, false, false, false, false, false, false, false, false, false, false, false, false, false] rfl rfl (any_of HT_.out (by kernel_rfl)) (fun _ _ _ h => h) (Or.inl ⟨by rfl, ?_⟩) ?_ ?_
                   rotate_left
                   ·
                    intro w'
                    go_simp
                    with_reducible rfl
                   rotate_left
                   · simp only [Act.put, setIfInBounds_toArray, set_cons_zero, set_cons_succ, i64_w, i32_w]; rfl
                   refine pure_ (i := 2) (N := some 104) (v := ?_) (a' := ?_) #[true, true, true, false, false, false, false, false, false, false, false, false, false, false, false, false, false, false, false, false, false, false, false, false, false, false, false, false, false, false, false, false, false, false, false, false, false, false, false, false, false, false, false, false, false, false, false, false, false] rfl rfl (any_of HT_.out (by kernel_rfl)) (fun _ _ _ h => h) (Or.inl ⟨by rfl, ?_⟩) ?_ ?_
                   rotate_left
                   ·
                    intro w'
                    go_simp
                    with_reducible rfl
                   rotate_left
                   · simp only [Act.put, setIfInBounds_toArray, set_cons_zero, set_cons_succ, i64_w, i32_w]; rfl
                   refine pure_ (i := 3) (N := some 105) (v := ?_) (a' := ?_) #[true, true, true, true, false, false, false, false, false, false, false, false, false, false, false, false, false, false, false, false, false, false, false, false, false, false, false, false, false, false, false, false, false, false, false, false, false, false, false, false, false, false, false, false, false, false, false, false, false] rfl rfl (any_of HT_.out (by kernel_rfl)) (fun _ _ _ h => h) (Or.inl ⟨by rfl, ?_⟩) ?_ ?_
                   rotate_left
                   ·
                    intro w'
                    go_simp
                    with_reducible rfl
                   rotate_left
                   · simp only [Act.put, setIfInBounds_toArray, set_cons_zero, set_cons_succ, i64_w, i32_w]; rfl
                   refine pure_ (i := 4) (N := some 106) (v := ?_) (a' := ?_) #[true, true, true, true, true, false, false, false, false, false, false, false, false, false, false, false, false, false, false, false, false, false, false, false, false, false, false, false, false, false, false, false, false, false, false, false, false, false, false, false, false, false, false, false, false, false, false, false, false] rfl rfl (any_of HT_.out (by kernel_rfl)) (fun _ _ _ h => h) (Or.inl ⟨by rfl, ?_⟩) ?_ ?_
                   rotate_left
                   ·
                    intro w'
                    go_simp
                    with_reducible rfl
                   rotate_left
                   · simp only [Act.put, setIfInBounds_toArray, set_cons_zero, set_cons_succ, i64_w, i32_w]; rfl
                   refine take_ (i := 5) (N := some 107) (v := ?_) (a' := ?_) #[true, true, true, true, true, true, false, false, false, false, false, false, false, false, false, false, false, false, false, false, false, false, false, false, false, false, false, false, false, false, false, false, false, false, false, false, false, false, false, false, false, false, false, false, false, false, false, false, false] rfl rfl (take_ofW HT_.out HW_.out (by kernel_rfl)) (fun _ _ _ h => h) (Or.inl ⟨by rfl, ?_⟩) hHeld ?_ ?_
                   rotate_left
                   ·
                    rintro w' ⟨s0, s1, s2, s3, s4, s5⟩
                    go_simp
                    with_reducible rfl
                   rotate_left
                   · simp only [Act.put, setIfInBounds_toArray, set_cons_zero, set_cons_succ, i64_w, i32_w]; rfl
                   refine pure_ (i := 6) (N := some 108) (v := ?_) (a' := ?_) #[true, true, true, true, true, true, true, false, false, false, false, false, false, false, false, false, false, false, false, false, false, false, false, false, false, false, false, false, false, false, false, false, false, false, false, false, false, false, false, false, false, false, false, false, false, false, false, false, false] rfl rfl (any_of HT_.out (by kernel_rfl)) (fun _ _ _ h => h) (Or.inl ⟨by rfl, ?_⟩) ?_ ?_
                   rotate_left
                   ·
                    intro w'
                    go_simp
                    with_reducible rfl
                   rotate_left
                   · simp only [Act.put, setIfInBounds_toArray, set_cons_zero, set_cons_succ, i64_w, i32_w]; rfl
                   refine pure_ (i := 7) (N := some 109) (v := ?_) (a' := ?_) #[true, true, true, true, true, true, true, true, false, false, false, false, false, false, false, false, false, false, false, false, false, false, false, false, false, false, false, false, false, false, false, false, false, false, false, false, false, false, false, false, false, false, false, false, false, false, false, false, false] rfl rfl (any_of HT_.out (by kernel_rfl)) (fun _ _ _ h => h) (Or.inl ⟨by rfl, ?_⟩) ?_ ?_
                   rotate_left
                   ·
                    intro w'
                    go_simp
                    with_reducible rfl
                   rotate_left
                   · simp only [Act.put, setIfInBounds_toArray, set_cons_zero, set_cons_succ, i64_w, i32_w]; rfl
                   refine pure_ (i := 8) (N := some 110) (v := ?_) (a' := ?_) #[true, true, true, true, true, true, true, true, true, false, false, false, false, false, false, false, false, false, false, false, false, false, false, false, false, false, false, false, false, false, false, false, false, false, false, false, false, false, false, false, false, false, false, false, false, false, false, false, false] rfl rfl (any_of HT_.out (by kernel_rfl)) (fun _ _ _ h => h) (Or.inl ⟨by rfl, ?_⟩) ?_ ?_
                   rotate_left
                   ·
                    intro w'
                    go_simp
                    with_reducible rfl
                   rotate_left
                   · simp only [Act.put, setIfInBounds_toArray, set_cons_zero, set_cons_succ, i64_w, i32_w]; rfl
                   refine pure_ (i := 9) (N := some 111) (v := ?_) (a' := ?_) #[true, true, true, true, true, true, true, true, true, true, false, false, false, false, false, false, false, false, false, false, false, false, false, false, false, false, false, false, false, false, false, false, false, false, false, false, false, false, false, false, false, false, false, false, false, false, false, false, false] rfl rfl (any_of HT_.out (by kernel_rfl)) (fun _ _ _ h => h) (Or.inl ⟨by rfl, ?_⟩) ?_ ?_
                   rotate_left
                   ·
                    intro w'
                    go_simp
                    with_reducible rfl
                   rotate_left
                   · simp only [Act.put, setIfInBounds_toArray, set_cons_zero, set_cons_succ, i64_w, i32_w]; rfl
                   refine pure_ (i := 10) (N := some 112) (v := ?_) (a' := ?_) #[true, true, true, true, true, true, true, true, true, true, true, false, false, false, false, false, false, false, false, false, false, false, false, false, false, false, false, false, false, false, false, false, false, false, false, false, false, false, false, false, false, false, false, false, false, false, false, false, false] rfl rfl (any_of HT_.out (by kernel_rfl)) (fun _ _ _ h => h) (Or.inl ⟨by rfl, ?_⟩) ?_ ?_
                   rotate_left
                   ·
                    intro w'
                    go_simp
                    with_reducible rfl
                   rotate_left
                   · simp only [Act.put, setIfInBounds_toArray, set_cons_zero, set_cons_succ, i64_w, i32_w]; rfl
                   refine pure_ (i := 11) (N := some 113) (v := ?_) (a' := ?_) #[true, true, true, true, true, true, true, true, true, true, true, true, false, false, false, false, false, false, false, false, false, false, false, false, false, false, false, false, false, false, false, false, false, false, false, false, false, false, false, false, false, false, false, false, false, false, false, false, false] rfl rfl (any_of HT_.out (by kernel_rfl)) (fun _ _ _ h => h) (Or.inl ⟨by rfl, ?_⟩) ?_ ?_
                   rotate_left
                   ·
                    intro w'
                    go_simp
                    with_reducible rfl
                   rotate_left
                   · simp only [Act.put, setIfInBounds_toArray, set_cons_zero, set_cons_succ, i64_w, i32_w]; rfl
                   refine pure_ (i := 12) (N := some 114) (v := ?_) (a' := ?_) #[true, true, true, true, true, true, true, true, true, true, true, true, true, false, false, false, false, false, false, false, false, false, false, false, false, false, false, false, false, false, false, false, false, false, false, false, false, false, false, false, false, false, false, false, false, false, false, false, false] rfl rfl (any_of HT_.out (by kernel_rfl)) (fun _ _ _ h => h) (Or.inl ⟨by rfl, ?_⟩) ?_ ?_
                   rotate_left
                   ·
                    intro w'
                    go_simp
                    with_reducible rfl
                   rotate_left
                   · simp only [Act.put, setIfInBounds_toArray, set_cons_zero, set_cons_succ, i64_w, i32_w]; rfl
                   refine pure_ (i := 13) (N := some 115) (v := undef) (a' := ?_) #[true, true, true, true, true, true, true, true, true, true, true, true, true, true, false, false, false, false, false, false, false, false, false, false, false, false, false, false, false, false, false, false, false, false, false, false, false, false, false, false, false, false, false, false, false, false, false, false, false] rfl rfl (any_of HT_.out (by kernel_rfl)) (fun _ _ _ h => h) (Or.inr ⟨by rfl, rfl⟩) ?_ ?_
                   rotate_left
                   · simp only [Act.put, setIfInBounds_toArray, set_cons_zero, set_cons_succ, i64_w, i32_w]; rfl
                   refine pure_ (i := 14) (N := some 116) (v := undef) (a' := ?_) #[true, true, true, true, true, true, true, true, true, true, true, true, true, true, true, false, false, false, false, false, false, false, false, false, false, false, false, false, false, false, false, false, false, false, false, false, false, false, false, false, false, false, false, false, false, false, false, false, false] rfl rfl (any_of HT_.out (by kernel_rfl)) (fun _ _ _ h => h) (Or.inr ⟨by rfl, rfl⟩) ?_ ?_
                   rotate_left
                   · simp only [Act.put, setIfInBounds_toArray, set_cons_zero, set_cons_succ, i64_w, i32_w]; rfl
                   refine pure_ (i := 15) (N := some 117) (v := undef) (a' := ?_) #[true, true, true, true, true, true, true, true, true, true, true, true, true, true, true, true, false, false, false, false, false, false, false, false, false, false, false, false, false, false, false, false, false, false, false, false, false, false, false, false, false, false, false, false, false, false, false, false, false] rfl rfl (any_of HT_.out (by kernel_rfl)) (fun _ _ _ h => h) (Or.inr ⟨by rfl, rfl⟩) ?_ ?_
                   rotate_left
                   · simp only [Act.put, setIfInBounds_toArray, set_cons_zero, set_cons_succ, i64_w, i32_w]; rfl
                   refine pure_ (i := 16) (N := some 118) (v := undef) (a' := ?_) #[true, true, true, true, true, true, true, true, true, true, true, true, true, true, true, true, true, false, false, false, false, false, false, false, false, false, false, false, false, false, false, false, false, false, false, false, false, false, false, false, false, false, false, false, false, false, false, false, false] rfl rfl (any_of HT_.out (by kernel_rfl)) (fun _ _ _ h => h) (Or.inr ⟨by rfl, rfl⟩) ?_ ?_
                   rotate_left
                   · simp only [Act.put, setIfInBounds_toArray, set_cons_zero, set_cons_succ, i64_w, i32_w]; rfl
                   refine pure_ (i := 17) (N := some 119) (v := undef) (a' := ?_) #[true, true, true, true, true, true, true, true, true, true, true, true, true, true, true, true, true, true, false, false, false, false, false, false, false, false, false, false, false, false, false, false, false, false, false, false, false, false, false, false, false, false, false, false, false, false, false, false, false] rfl rfl (any_of HT_.out (by kernel_rfl)) (fun _ _ _ h => h) (Or.inr ⟨by rfl, rfl⟩) ?_ ?_
                   rotate_left
                   · simp only [Act.put, setIfInBounds_toArray, set_cons_zero, set_cons_succ, i64_w, i32_w]; rfl
                   refine pure_ (i := 18) (N := some 120) (v := undef) (a' := ?_) #[true, true, true, true, true, true, true, true, true, true, true, true, true, true, true, true, true, true, true, false, false, false, false, false, false, false, false, false, false, false, false, false, false, false, false, false, false, false, false, false, false, false, false, false, false, false, false, false, false] rfl rfl (any_of HT_.out (by kernel_rfl)) (fun _ _ _ h => h) (Or.inr ⟨by rfl, rfl⟩) ?_ ?_
                   rotate_left
                   · simp only [Act.put, setIfInBounds_toArray, set_cons_zero, set_cons_succ, i64_w, i32_w]; rfl
                   refine pure_ (i := 19) (N := some 121) (v := undef) (a' := ?_) #[true, true, true, true, true, true, true, true, true, true, true, true, true, true, true, true, true, true, true, true, false, false, false, false, false, false, false, false, false, false, false, false, false, false, false, false, false, false, false, false, false, false, false, false, false, false, false, false, false] rfl rfl (any_of HT_.out (by kernel_rfl)) (fun _ _ _ h => h) (Or.inr ⟨by rfl, rfl⟩) ?_ ?_
                   rotate_left
                   · simp only [Act.put, setIfInBounds_toArray, set_cons_zero, set_cons_succ, i64_w, i32_w]; rfl
                   refine pure_ (i := 20) (N := some 122) (v := ?_) (a' := ?_) #[true, true, true, true, true, true, true, true, true, true, true, true, true, true, true, true, true, true, true, true, true, false, false, false, false, false, false, false, false, false, false, false, false, false, false, false, false, false, false, false, false, false, false, false, false, false, false, false, false] rfl rfl (any_of HT_.out (by kernel_rfl)) (fun _ _ _ h => h) (Or.inl ⟨by rfl, ?_⟩) ?_ ?_
                   rotate_left
                   ·
                    intro w'
                    go_simp
                    with_reducible rfl
                   rotate_left
                   · simp only [Act.put, setIfInBounds_toArray, set_cons_zero, set_cons_succ, i64_w, i32_w]; rfl
                   refine pure_ (i := 21) (N := some 123) (v := ?_) (a' := ?_) #[true, true, true, true, true, true, true, true, true, true, true, true, true, true, true, true, true, true, true, true, true, true, false, false, false, false, false, false, false, false, false, false, false, false, false, false, false, false, false, false, false, false, false, false, false, false, false, false, false] rfl rfl (any_of HT_.out (by kernel_rfl)) (fun _ _ _ h => h) (Or.inl ⟨by rfl, ?_⟩) ?_ ?_
                   rotate_left
                   ·
                    intro w'
                    go_simp
                    with_reducible rfl
                   rotate_left
                   · simp only [Act.put, setIfInBounds_toArray, set_cons_zero, set_cons_succ, i64_w, i32_w]; rfl
                   refine pure_ (i := 22) (N := some 124) (v := ?_) (a' := ?_) #[true, true, true, true, true, true, true, true, true, true, true, true, true, true, true, true, true, true, true, true, true, true, true, false, false, false, false, false, false, false, false, false, false, false, false, false, false, false, false, false, false, false, false, false, false, false, false, false, false] rfl rfl (any_of HT_.out (by kernel_rfl)) (fun _ _ _ h => h) (Or.inl ⟨by rfl, ?_⟩) ?_ ?_
                   rotate_left
                   ·
                    intro w'
                    go_simp
                    with_reducible rfl
                   rotate_left
                   · simp only [Act.put, setIfInBounds_toArray, set_cons_zero, set_cons_succ, i64_w, i32_w]; rfl
                   refine pure_ (i := 23) (N := some 125) (v := ?_) (a' := ?_) #[true, true, true, true, true, true, true, true, true, true, true, true, true, true, true, true, true, true, true, true, true, true, true, true, false, false, false, false, false, false, false, false, false, false, false, false, false, false, false, false, false, false, false, false, false, false, false, false, false] rfl rfl (any_of HT_.out (by kernel_rfl)) (fun _ _ _ h => h) (Or.inl ⟨by rfl, ?_⟩) ?_ ?_
                   rotate_left
                   ·
                    intro w'
                    go_simp
                    with_reducible rfl
                   rotate_left
                   · simp only [Act.put, setIfInBounds_toArray, set_cons_zero, set_cons_succ, i64_w, i32_w]; rfl
                   refine pure_ (i := 25) (N := some 127) (v := ?_) (a' := ?_) #[true, true, true, true, true, true, true, true, true, true, true, true, true, true, true, true, true, true, true, true, true, true, true, true, false, true, false, false, false, false, false, false, false, false, false, false, false, false, false, false, false, false, false, false, false, false, false, false, false] rfl rfl (any_of HT_.out (by kernel_rfl)) (fun _ _ _ h => h) (Or.inl ⟨by rfl, ?_⟩) ?_ ?_
                   rotate_left
                   ·
                    intro w'
                    go_simp
                    with_reducible rfl
                   rotate_left
                   · simp only [Act.put, setIfInBounds_toArray, set_cons_zero, set_cons_succ, i64_w, i32_w]; rfl
                   refine pure_ (i := 29) (N := some 131) (v := ?_) (a' := ?_) #[true, true, true, true, true, true, true, true, true, true, true, true, true, true, true, true, true, true, true, true, true, true, true, true, false, true, false, false, false, true, false, false, false, false, false, false, false, false, false, false, false, false, false, false, false, false, false, false, false] rfl rfl (any_of HT_.out (by kernel_rfl)) (fun _ _ _ h => h) (Or.inl ⟨by rfl, ?_⟩) ?_ ?_
                   rotate_left
                   ·
                    intro w'
                    go_simp
                    with_reducible rfl
                   rotate_left
                   · simp only [Act.put, setIfInBounds_toArray, set_cons_zero, set_cons_succ, i64_w, i32_w]; rfl
                   refine pure_ (i := 30) (N := some 132) (v := ?_) (a' := ?_) #[true, true, true, true, true, true, true, true, true, true, true, true, true, true, true, true, true, true, true, true, true, true, true, true, false, true, false, false, false, true, true, false, false, false, false, false, false, false, false, false, false, false, false, false, false, false, false, false, false] rfl rfl (any_of HT_.out (by kernel_rfl)) (fun _ _ _ h => h) (Or.inl ⟨by rfl, ?_⟩) ?_ ?_
                   rotate_left
                   ·
                    intro w'
                    go_simp
                    with_reducible rfl
                   rotate_left
                   · simp only [Act.put, setIfInBounds_toArray, set_cons_zero, set_cons_succ, i64_w, i32_w]; rfl
                   refine pure_ (i := 31) (N := some 133) (v := ?_) (a' := ?_) #[true, true, true, true, true, true, true, true, true, true, true, true, true, true, true, true, true, true, true, true, true, true, true, true, false, true, false, false, false, true, true, true, false, false, false, false, false, false, false, false, false, false, false, false, false, false, false, false, false] rfl rfl (any_of HT_.out (by kernel_rfl)) (fun _ _ _ h => h) (Or.inl ⟨by rfl, ?_⟩) ?_ ?_
                   rotate_left
                   ·
                    intro w'
                    go_simp
                    with_reducible rfl
                   rotate_left
                   · simp only [Act.put, setIfInBounds_toArray, set_cons_zero, set_cons_succ, i64_w, i32_w]; rfl
                   refine take_ (i := 24) (N := some 126) (v := ?_) (a' := ?_) #[true, true, true, true, true, true, true, true, true, true, true, true, true, true, true, true, true, true, true, true, true, true, true, true, true, true, false, false, false, true, true, true, false, false, false, false, false, false, false, false, false, false, false, false, false, false, false, false, false] rfl rfl (take_ofW HT_.out HW_.out (by kernel_rfl)) (fun _ _ _ h => h) (Or.inl ⟨by rfl, ?_⟩) hHeld ?_ ?_
                   rotate_left
                   ·
                    rintro w' ⟨s0, s1, s2, s3, s4, s5⟩
                    go_simp
                    with_reducible rfl
                   rotate_left
                   · simp only [Act.put, setIfInBounds_toArray, set_cons_zero, set_cons_succ, i64_w, i32_w]; rfl
                   refine pure_ (i := 26) (N := some 128) (v := ?_) (a' := ?_) #[true, true, true, true, true, true, true, true, true, true, true, true, true, true, true, true, true, true, true, true, true, true, true, true, true, true, true, false, false, true, true, true, false, false, false, false, false, false, false, false, false, false, false, false, false, false, false, false, false] rfl rfl (any_of HT_.out (by kernel_rfl)) (fun _ _ _ h => h) (Or.inl ⟨by rfl, ?_⟩) ?_ ?_
                   rotate_left
                   ·
                    intro w'
                    go_simp
                    with_reducible rfl
                   rotate_left
                   · simp only [Act.put, setIfInBounds_toArray, set_cons_zero, set_cons_succ, i64_w, i32_w]; rfl
                   refine pure_ (i := 27) (N := some 129) (v := ?_) (a' := ?_) #[true, true, true, true, true, true, true, true, true, true, true, true, true, true, true, true, true, true, true, true, true, true, true, true, true, true, true, true, false, true, true, true, false, false, false, false, false, false, false, false, false, false, false, false, false, false, false, false, false] rfl rfl (any_of HT_.out (by kernel_rfl)) (fun _ _ _ h => h) (Or.inl ⟨by rfl, ?_⟩) ?_ ?_
                   rotate_left
                   ·
                    intro w'
                    go_simp
                    with_reducible rfl
                   rotate_left
                   · simp only [Act.put, setIfInBounds_toArray, set_cons_zero, set_cons_succ, i64_w, i32_w]; rfl
                   refine take_ (i := 28) (N := some 130) (v := ?_) (a' := ?_) #[true, true, true, true, true, true, true, true, true, true, true, true, true, true, true, true, true, true, true, true, true, true, true, true, true, true, true, true, true, true, true, true, false, false, false, false, false, false, false, false, false, false, false, false, false, false, false, false, false] rfl rfl (take_ofW HT_.out HW_.out (by kernel_rfl)) (fun _ _ _ h => h) (Or.inl ⟨by rfl, ?_⟩) hHeld ?_ ?_
                   rotate_left
                   ·
                    rintro w' ⟨s0, s1, s2, s3, s4, s5⟩
                    go_simp
                    with_reducible rfl
                   rotate_left
                   · simp only [Act.put, setIfInBounds_toArray, set_cons_zero, set_cons_succ, i64_w, i32_w]; rfl
                   refine pure_ (i := 32) (N := some 134) (v := ?_) (a' := ?_) #[true, true, true, true, true, true, true, true, true, true, true, true, true, true, true, true, true, true, true, true, true, true, true, true, true, true, true, true, true, true, true, true, true, false, false, false, false, false, false, false, false, false, false, false, false, false, false, false, false] rfl rfl (any_of HT_.out (by kernel_rfl)) (fun _ _ _ h => h) (Or.inl ⟨by rfl, ?_⟩) ?_ ?_
                   rotate_left
                   ·
                    intro w'
                    go_simp
                    with_reducible rfl
                   rotate_left
                   · simp only [Act.put, setIfInBounds_toArray, set_cons_zero, set_cons_succ, i64_w, i32_w]; rfl
                   refine pure_ (i := 33) (N := some 135) (v := ?_) (a' := ?_) #[true, true, true, true, true, true, true, true, true, true, true, true, true, true, true, true, true, true, true, true, true, true, true, true, true, true, true, true, true, true, true, true, true, true, false, false, false, false, false, false, false, false, false, false, false, false, false, false, false] rfl rfl (any_of HT_.out (by kernel_rfl)) (fun _ _ _ h => h) (Or.inl ⟨by rfl, ?_⟩) ?_ ?_
                   rotate_left
                   ·
                    intro w'
                    go_simp
                    with_reducible rfl
                   rotate_left
                   · simp only [Act.put, setIfInBounds_toArray, set_cons_zero, set_cons_succ, i64_w, i32_w]; rfl
                   refine pure_ (i := 34) (N := some 136) (v := ?_) (a' := ?_) #[true, true, true, true, true, true, true, true, true, true, true, true, true, true, true, true, true, true, true, true, true, true, true, true, true, true, true, true, true, true, true, true, true, true, true, false, false, false, false, false, false, false, false, false, false, false, false, false, false] rfl rfl (any_of HT_.out (by kernel_rfl)) (fun _ _ _ h => h) (Or.inl ⟨by rfl, ?_⟩) ?_ ?_
                   rotate_left
                   ·
                    intro w'
                    go_simp
                    with_reducible rfl
                   rotate_left
                   · simp only [Act.put, setIfInBounds_toArray, set_cons_zero, set_cons_succ, i64_w, i32_w]; rfl
                   refine pure_ (i := 35) (N := some 137) (v := ?_) (a' := ?_) #[true, true, true, true, true, true, true, true, true, true, true, true, true, true, true, true, true, true, true, true, true, true, true, true, true, true, true, true, true, true, true, true, true, true, true, true, false, false, false, false, false, false, false, false, false, false, false, false, false] rfl rfl (any_of HT_.out (by kernel_rfl)) (fun _ _ _ h => h) (Or.inl ⟨by rfl, ?_⟩) ?_ ?_
                   rotate_left
                   ·
                    intro w'
                    go_simp
                    with_reducible rfl
                   rotate_left
                   · simp only [Act.put, setIfInBounds_toArray, set_cons_zero, set_cons_succ, i64_w, i32_w]; rfl
                   refine pure_ (i := 37) (N := some 139) (v := ?_) (a' := ?_) #[true, true, true, true, true, true, true, true, true, true, true, true, true, true, true, true, true, true, true, true, true, true, true, true, true, true, true, true, true, true, true, true, true, true, true, true, false, true, false, false, false, false, false, false, false, false, false, false, false] rfl rfl (any_of HT_.out (by kernel_rfl)) (fun _ _ _ h => h) (Or.inl ⟨by rfl, ?_⟩) ?_ ?_
                   rotate_left
                   ·
                    intro w'
                    go_simp
                    with_reducible rfl
                   rotate_left
                   · simp only [Act.put, setIfInBounds_toArray, set_cons_zero, set_cons_succ, i64_w, i32_w]; rfl
                   refine pure_ (i := 41) (N := some 143) (v := ?_) (a' := ?_) #[true, true, true, true, true, true, true, true, true, true, true, true, true, true, true, true, true, true, true, true, true, true, true, true, true, true, true, true, true, true, true, true, true, true, true, true, false, true, false, false, false, true, false, false, false, false, false, false, false] rfl rfl (any_of HT_.out (by kernel_rfl)) (fun _ _ _ h => h) (Or.inl ⟨by rfl, ?_⟩) ?_ ?_
                   rotate_left
                   ·
                    intro w'
                    go_simp
                    with_reducible rfl
                   rotate_left
                   · simp only [Act.put, setIfInBounds_toArray, set_cons_zero, set_cons_succ, i64_w, i32_w]; rfl
                   refine pure_ (i := 44) (N := some 146) (v := ?_) (a' := ?_) #[true, true, true, true, true, true, true, true, true, true, true, true, true, true, true, true, true, true, true, true, true, true, true, true, true, true, true, true, true, true, true, true, true, true, true, true, false, true, false, false, false, true, false, false, true, false, false, false, false] rfl rfl (any_of HT_.out (by kernel_rfl)) (fun _ _ _ h => h) (Or.inl ⟨by rfl, ?_⟩) ?_ ?_
                   rotate_left
                   ·
                    intro w'
                    go_simp
                    with_reducible rfl
                   rotate_left
                   · simp only [Act.put, setIfInBounds_toArray, set_cons_zero, set_cons_succ, i64_w, i32_w]; rfl
                   refine pure_ (i := 45) (N := some 147) (v := ?_) (a' := ?_) #[true, true, true, true, true, true, true, true, true, true, true, true, true, true, true, true, true, true, true, true, true, true, true, true, true, true, true, true, true, true, true, true, true, true, true, true, false, true, false, false, false, true, false, false, true, true, false, false, false] rfl rfl (any_of HT_.out (by kernel_rfl)) (fun _ _ _ h => h) (Or.inl ⟨by rfl, ?_⟩) ?_ ?_
                   rotate_left
                   ·
                    intro w'
                    go_simp
                    with_reducible rfl
                   rotate_left
                   · simp only [Act.put, setIfInBounds_toArray, set_cons_zero, set_cons_succ, i64_w, i32_w]; rfl
                   refine pure_ (i := 46) (N := some 148) (v := ?_) (a' := ?_) #[true, true, true, true, true, true, true, true, true, true, true, true, true, true, true, true, true, true, true, true, true, true, true, true, true, true, true, true, true, true, true, true, true, true, true, true, false, true, false, false, false, true, false, false, true, true, true, false, false] rfl rfl (any_of HT_.out (by kernel_rfl)) (fun _ _ _ h => h) (Or.inl ⟨by rfl, ?_⟩) ?_ ?_
                   rotate_left
                   ·
                    intro w'
                    go_simp
                    with_reducible rfl
                   rotate_left
                   · simp only [Act.put, setIfInBounds_toArray, set_cons_zero, set_cons_succ, i64_w, i32_w]; rfl
                   refine take_ (i := 36) (N := some 138) (v := ?_) (a' := ?_) #[true, true, true, true, true, true, true, true, true, true, true, true, true, true, true, true, true, true, true, true, true, true, true, true, true, true, true, true, true, true, true, true, true, true, true, true, true, true, false, false, false, true, false, false, true, true, true, false, false] rfl rfl (take_ofW HT_.out HW_.out (by kernel_rfl)) (fun _ _ _ h => h) (Or.inl ⟨by rfl, ?_⟩) hHeld ?_ ?_
                   rotate_left
                   ·
                    rintro w' ⟨s0, s1, s2, s3, s4, s5⟩
                    go_simp
                    with_reducible rfl
                   rotate_left
                   · simp only [Act.put, setIfInBounds_toArray, set_cons_zero, set_cons_succ, i64_w, i32_w]; rfl
                   refine pure_ (i := 38) (N := some 140) (v := ?_) (a' := ?_) #[true, true, true, true, true, true, true, true, true, true, true, true, true, true, true, true, true, true, true, true, true, true, true, true, true, true, true, true, true, true, true, true, true, true, true, true, true, true, true, false, false, true, false, false, true, true, true, false, false] rfl rfl (any_of HT_.out (by kernel_rfl)) (fun _ _ _ h => h) (Or.inl ⟨by rfl, ?_⟩) ?_ ?_
                   rotate_left
                   ·
                    intro w'
                    go_simp
                    with_reducible rfl
                   rotate_left
                   · simp only [Act.put, setIfInBounds_toArray, set_cons_zero, set_cons_succ, i64_w, i32_w]; rfl
                   refine pure_ (i := 39) (N := some 141) (v := ?_) (a' := ?_) #[true, true, true, true, true, true, true, true, true, true, true, true, true, true, true, true, true, true, true, true, true, true, true, true, true, true, true, true, true, true, true, true, true, true, true, true, true, true, true, true, false, true, false, false, true, true, true, false, false] rfl rfl (any_of HT_.out (by kernel_rfl)) (fun _ _ _ h => h) (Or.inl ⟨by rfl, ?_⟩) ?_ ?_
                   rotate_left
                   ·
                    intro w'
                    go_simp
                    with_reducible rfl
                   rotate_left
                   · simp only [Act.put, setIfInBounds_toArray, set_cons_zero, set_cons_succ, i64_w, i32_w]; rfl
                   refine take_ (i := 40) (N := some 142) (v := ?_) (a' := ?_) #[true, true, true, true, true, true, true, true, true, true, true, true, true, true, true, true, true, true, true, true, true, true, true, true, true, true, true, true, true, true, true, true, true, true, true, true, true, true, true, true, true, true, false, false, true, true, true, false, false] rfl rfl (take_ofW HT_.out HW_.out (by kernel_rfl)) (fun _ _ _ h => h) (Or.inl ⟨by rfl, ?_⟩) hHeld ?_ ?_
                   rotate_left
                   ·
                    rintro w' ⟨s0, s1, s2, s3, s4, s5⟩
                    go_simp
                    with_reducible rfl
                   rotate_left
                   · simp only [Act.put, setIfInBounds_toArray, set_cons_zero, set_cons_succ, i64_w, i32_w]; rfl
                   refine take_ (i := 42) (N := some 144) (v := ?_) (a' := ?_) #[true, true, true, true, true, true, true, true, true, true, true, true, true, true, true, true, true, true, true, true, true, true, true, true, true, true, true, true, true, true, true, true, true, true, true, true, true, true, true, true, true, true, true, false, true, true, true, false, false] rfl rfl (take_ofW HT_.out HW_.out (by kernel_rfl)) (fun _ _ _ h => h) (Or.inl ⟨by rfl, ?_⟩) hHeld ?_ ?_
                   rotate_left
                   ·
                    rintro w' ⟨s0, s1, s2, s3, s4, s5⟩
                    go_simp
                    with_reducible rfl
                   rotate_left
                   · simp only [Act.put, setIfInBounds_toArray, set_cons_zero, set_cons_succ, i64_w, i32_w]; rfl
                   refine pure_ (i := 43) (N := some 145) (v := ?_) (a' := ?_) #[true, true, true, true, true, true, true, true, true, true, true, true, true, true, true, true, true, true, true, true, true, true, true, true, true, true, true, true, true, true, true, true, true, true, true, true, true, true, true, true, true, true, true, true, true, true, true, false, false] rfl rfl (any_of HT_.out (by kernel_rfl)) (fun _ _ _ h => h) (Or.inl ⟨by rfl, ?_⟩) ?_ ?_
                   rotate_left
                   ·
                    intro w'
                    go_simp
                    with_reducible rfl
                   rotate_left
                   · simp only [Act.put, setIfInBounds_toArray, set_cons_zero, set_cons_succ, i64_w, i32_w]; rfl
                   refine pure_ (i := 47) (N := some 149) (v := ?_) (a' := ?_) #[true, true, true, true, true, true, true, true, true, true, true, true, true, true, true, true, true, true, true, true, true, true, true, true, true, true, true, true, true, true, true, true, true, true, true, true, true, true, true, true, true, true, true, true, true, true, true, true, false] rfl rfl (any_of HT_.out (by kernel_rfl)) (fun _ _ _ h => h) (Or.inl ⟨by rfl, ?_⟩) ?_ ?_
                   rotate_left
                   ·
                    intro w'
                    go_simp
                    with_reducible rfl
                   rotate_left
                   · simp only [Act.put, setIfInBounds_toArray, set_cons_zero, set_cons_succ, i64_w, i32_w]; rfl
                   refine pure_ (i := 48) (N := some 150) (v := ?_) (a' := ?_) #[true, true, true, true, true, true, true, true, true, true, true, true, true, true, true, true, true, true, true, true, true, true, true, true, true, true, true, true, true, true, true, true, true, true, true, true, true, true, true, true, true, true, true, true, true, true, true, true, true] rfl rfl (any_of HT_.out (by kernel_rfl)) (fun _ _ _ h => h) (Or.inl ⟨by rfl, ?_⟩) ?_ ?_
                   rotate_left
                   ·
                    intro w'
                    go_simp
                    with_reducible rfl
                   rotate_left
                   · simp only [Act.put, setIfInBounds_toArray, set_cons_zero, set_cons_succ, i64_w, i32_w]; rfl
                   refine done_ (done_of HT_.out (by kernel_rfl)) ?_
                   try go_wp2
                   go_meet
                   case rel => exact ⟨_, (decide ((wrap64 (((rd_T47 t434 (rd t447 x97_3)).f1) + t433)) ≤ (Int.tmod (wrap64 (a2)) 60))), zqQ, H', ⟨by have := HK1.out; have := HJ22.out; have := HK3.out; first | omega | exact Nat.le_refl _⟩, ⟨zqC HO_14.out⟩, ⟨zqC HO_95.out⟩, ⟨zqC HO_438001.out⟩, ⟨zqB BK432.out⟩, ⟨zqB BK437.out⟩, ⟨zqH HB.out GE432.out GE437.out⟩⟩
                 ·
                  rw [if_neg c74] at H
                  exact absurd H (by simp)
                ·
                 rw [if_neg c73] at H
                 exact absurd H (by simp)
            case rest =>
             clear HC57
             try clear p2
             try clear p4
             try clear q4
             try clear hx4
             try clear p6
             try clear c7
             try clear p45
             try clear q45
             try clear hx45
             try clear p64
             try clear c73
             try clear c74
             try clear c75
             try clear c75b0
             try clear hx457_0
             try clear hx457_1
             try clear hx458_0
             try clear hx458_1
             try clear p457
             try clear p458
             try clear q457
             try clear q458
             obtain ⟨kq, x150_56, rfl, HA, HJ56, HO_14, HO_95, HO_438001, BK432, BK437, HB⟩ := hcut
             cases kq with
             | zero => exact absurd HA.out (by simp [pianolalaw03_PunchCrowds.j3])
             | succ kj56 =>
              have H := HA.out
              clear HA
              simp only [pianolalaw03_PunchCrowds.j3] at H
              by_cases c78 : x150_56 = true
              ·
               subst c78
               have H1 : (some false) = some r := by rw [if_pos rfl] at H; exact H
               clear H; have H := H1; clear H1
               exact absurd ((Option.some.inj H).trans HRT.out) (by decide)
              ·
               replace c78 := Bool.eq_false_iff.mpr c78
               subst c78
               have H1 : (if 0 ≤ x97_3 then (if x97_3 ≤ (t447.length : Int) then ((some (t447.take (x97_3 : Int).toNat : List Int)).bind fun y459 => (pianolalaw03_PunchCrowds.l2 kj56 a2 t447 (rd t447 x97_3) t447 (t447.length : Int) x97_3 y459 (y459.length : Int) 0 t433 t434)) else (none)) else (none)) = some r := by rw [if_neg (show ¬ (false = true) by decide)] at H; exact H
               clear H; have H := H1; clear H1
               by_cases c79 : 0 ≤ x97_3
               ·
                rw [if_pos c79] at H
                have c79b0 := eq_true c79
                have c79b1 : decide (0 ≤ x97_3) = true := decide_eq_true c79
                clear c79
                by_cases c80 : x97_3 ≤ (t447.length : Int)
                ·
                 rw [if_pos c80] at H
                 have c80b0 := eq_true c80
                 have c80b1 : decide (x97_3 ≤ (t447.length : Int)) = true := decide_eq_true c80
                 clear c80
                 obtain ⟨y459, hy459⟩ : ∃ y_ : List Int, y_ = (t447.take (x97_3 : Int).toNat) := ⟨_, rfl⟩
                 replace H : (pianolalaw03_PunchCrowds.l2 kj56 a2 t447 (rd t447 x97_3) t447 (t447.length : Int) x97_3 y459 (y459.length : Int) 0 t433 t434) = some r := zqF hy459 H
                 have Ny459 := zA hy459
                 clear hy459
                 have H' := zA H
                 clear H
                 have q81 : (x97_3 : Int) ≤ ((t447.length : Int) : Int) := of_decide_eq_true (zqD)
                 obtain ⟨i081, hi081, _, hsz81, _⟩ := info_parts info3
                 have hroom81 : t447.length ≤ co53 := (Kd.R_reads' HO_14.out).2.1
                 have hC81 : Kd.C (Kd.int .i64) _ (some ad453) t447.length t447 := (Kd.R_reads' HO_14.out).2.2
                 have hcut81 := cut_to (P := Try.prog) 26 3 .i64 Try.underlying26 hi081 (some ad453) t447.length co53 x97_3 (of_decide_eq_true (zqD)) q81 hroom81
                 have hr81 := Kd.C_take (m := (x97_3 : Int).toNat) hC81 (by omega)
                 have hy81 : y459.length = (x97_3 : Int).toNat := (by rw [Ny459.out, List.length_take]; omega)
                 rw [← Ny459.out] at hr81
                 rw [← hy81] at hcut81
                 have HR462 := zA hr81
                 have HC462 := zA (show y459.length ≤ co53 from by omega)
                 clear hr81 hC81 hroom81 hi081 hsz81
                 have KY81 := zA hy81
                 clear hy81
                 have KL81 := zA (show (x97_3 : Int).toNat ≤ t447.length from by omega)
                 replace q81 := eq_true q81
                 go_wp2
                 go_loopg [155] kj56 (fun kq v155 w' => ∃ (x155_5 : Int), v155 = .int .i64 x155_5 ∧ Aside0 (pianolalaw03_PunchCrowds.l2 kq a2 t447 (rd t447 x97_3) t447 (t447.length : Int) x97_3 y459 (y459.length : Int) x155_5 t433 t434 = some r) ∧ Aside0 (kq ≤ kj56) ∧ Aside0 (Kd.R (Kd.int .i64) 3 w' w.heap.size (fun _ => True) (.slice (some ad453) t447.length co53) t447) ∧ Aside0 (Kd.R (Kd.int .i64) 3 w' w.heap.size (fun _ => True) (.slice (some ad453) t447.length co53) t447) ∧ Aside0 (Kd.R k47 47 w' w.heap.size (fun _ => True) (.slice Ao11 t434.length co11) t434) ∧ Aside0 (w'.heap[gb432]? = some (.cells #[.int .u8 a0_0, (.slice A0_1 l0_1.length c0_1)] 74 (0, 0))) ∧ Aside0 (w'.heap[gb437]? = some (.cells #[.int .i64 t433, (.slice Ao11 t434.length co11)] 24 (0, 0))) ∧ Aside0 (Kd.C (Kd.int .i64) w' (some ad453) y459.length y459) ∧ Aside0 (Below w.heap.size w w'))
                 case atStart => exact ⟨(0), zqQ, H', ⟨Nat.le_refl _⟩, ⟨zqC HO_14.out⟩, ⟨zqC HO_95.out⟩, ⟨zqC HO_438001.out⟩, ⟨zqB BK432.out⟩, ⟨zqB BK437.out⟩, ⟨by repeat (first | (with_reducible exact HR462.out) | (with_reducible refine Kd.C_alloc ?_ _) | (with_reducible refine Kd.C_drewN ?_ _) | (with_reducible refine Kd.C_drew ?_) | exact HR462.out)⟩, ⟨zqH HB.out GE432.out GE437.out⟩⟩
                 case round =>
                  clear H'
                  try clear p2
                  try clear p4
                  try clear q4
                  try clear hx4
                  try clear p6
                  try clear c7
                  try clear c8
                  try clear q8
                  try clear p45
                  try clear q45
                  try clear hx45
                  try clear p64
                  try clear c73
                  try clear c74
                  try clear c75
                  try clear c75b0
                  try clear c78
                  try clear c79
                  try clear c79b0
                  try clear c79b1
                  try clear c80
                  try clear c80b0
                  try clear c80b1
                  try clear q81
                  try clear hx457_0
                  try clear hx457_1
                  try clear hx458_0
                  try clear hx458_1
                  try clear p2
                  try clear p4
                  try clear p45
                  try clear p457
                  try clear p458
                  try clear p6
                  try clear p64
                  try clear q4
                  try clear q45
                  try clear q457
                  try clear q458
                  try clear q81
                  obtain ⟨x155_5, rfl, HA, HK5, HO_14, HO_95, HO_438001, BK432, BK437, HR462, HB⟩ := hrel
                  cases gk with
                  | zero => exact absurd HA.out (by simp [pianolalaw03_PunchCrowds.l2])
                  | succ k5 =>
                   have H := HA.out
                   clear HA
                   simp only [pianolalaw03_PunchCrowds.l2] at H
                   by_cases c82 : x155_5 < (y459.length : Int)
                   ·
                    rw [if_pos c82] at H
                    have c82b0 : decide (x155_5 < (y459.length : Int)) = true := decide_eq_true c82
                    clear c82
                    by_cases c83 : 0 ≤ x155_5
                    ·
                     rw [if_pos c83] at H
                     have c83b0 : decide (0 ≤ x155_5) = true := decide_eq_true c83
                     clear c83
                     by_cases c84 : x155_5 < (y459.length : Int)
                     ·
                      rw [if_pos c84] at H
                      have c84b0 : decide (x155_5 < (y459.length : Int)) = true := decide_eq_true c84
                      clear c84
                      by_cases c85 : 0 ≤ (rd t447 x97_3)
                      ·
                       rw [if_pos c85] at H
                       have c85b0 : decide (0 ≤ (rd t447 x97_3)) = true := decide_eq_true c85
                       clear c85
                       by_cases c86 : (rd t447 x97_3) < (t434.length : Int)
                       ·
                        rw [if_pos c86] at H
                        have c86b0 : decide ((rd t447 x97_3) < (t434.length : Int)) = true := decide_eq_true c86
                        clear c86
                        by_cases c87 : 0 ≤ (rd y459 x155_5)
                        ·
                         rw [if_pos c87] at H
                         have c87b0 : decide (0 ≤ (rd y459 x155_5)) = true := decide_eq_true c87
                         clear c87
                         by_cases c88 : (rd y459 x155_5) < (t434.length : Int)
                         ·
                          rw [if_pos c88] at H
                          have c88b0 : decide ((rd y459 x155_5) < (t434.length : Int)) = true := decide_eq_true c88
                          clear c88
                          replace H := Option.bind_eq_some_iff.mp H
                          obtain ⟨t466, A890, H⟩ := H
                          replace H : (if t466 = true then (pianolalaw03_PunchCrowds.l2 k5 a2 t447 (rd t447 x97_3) t447 (t447.length : Int) x97_3 y459 (y459.length : Int) (wrap64 (x155_5 + 1)) t433 t434) else (some false)) = some r := H
                          have A89 := zA A890
                          clear A890
                          by_cases c90 : t466 = true
                          ·
                           subst c90
                           have H1 : (pianolalaw03_PunchCrowds.l2 k5 a2 t447 (rd t447 x97_3) t447 (t447.length : Int) x97_3 y459 (y459.length : Int) (wrap64 (x155_5 + 1)) t433 t434) = some r := by rw [if_pos rfl] at H; exact H
                           clear H; have H := H1; clear H1
                           have H' := zA H
                           clear H
                           have p463 : 0 ≤ (x155_5 : Int) := of_decide_eq_true (zqD)
                           have q463 : x155_5 < (y459.length : Int) := of_decide_eq_true (zqD)
                           obtain ⟨ad463, e463, hx463_0⟩ := Kd.at_int HR462.out x155_5 p463 q463
                           obtain rfl : ad453 = ad463 := (by injection e463)
                           replace p463 := eq_true p463; replace q463 := eq_true q463
                           try go_wp2
                           have n0_ := zA (Kd.R_drew HO_14.out); have n1_ := zA (Kd.R_drew HO_95.out); have n2_ := zA (Kd.R_drew HO_438001.out); have n3_ := zA (blk_drew BK432.out); have n4_ := zA (blk_drew BK437.out); have n5_ := zA (Kd.C_drew HR462.out); have n6_ := zA (below_drew1 HB.out); clear HO_14 HO_95 HO_438001 BK432 BK437 HR462 HB; have HO_14 := n0_; have HO_95 := n1_; have HO_438001 := n2_; have BK432 := n3_; have BK437 := n4_; have HR462 := n5_; have HB := n6_; clear n0_ n1_ n2_ n3_ n4_ n5_ n6_
                           have p464 : 0 ≤ ((rd t447 x97_3) : Int) := of_decide_eq_true (zqD)
                           have q464 : (rd t447 x97_3) < (t434.length : Int) := of_decide_eq_true (zqD)
                           obtain ⟨ad464, e464, hx464_0, hx464_1⟩ := at_T47 (Kd.R_reads' HO_438001.out).2.2 (rd t447 x97_3) p464 q464
                           cases e464; replace p464 := eq_true p464; replace q464 := eq_true q464
                           have p465 : 0 ≤ ((rd y459 x155_5) : Int) := of_decide_eq_true (zqD)
                           have q465 : (rd y459 x155_5) < (t434.length : Int) := of_decide_eq_true (zqD)
                           obtain ⟨ad465, e465, hx465_0, hx465_1⟩ := at_T47 (Kd.R_reads' HO_438001.out).2.2 (rd y459 x155_5) p465 q465
                           obtain rfl : ad464 = ad465 := (by injection e465)
                           replace p465 := eq_true p465; replace q465 := eq_true q465
                           refine start_ (n := 14) (S := fun w' => w'.cell? ⟨gb437, 0, none⟩ = some (.int .i64 t433) ∧ w'.cell? ⟨gb437, 1, none⟩ = some (.slice (some ad464) t434.length co11) ∧ w'.cell? (ad464.add (((rd t447 x97_3)).toNat * 2)) = some (.int .i64 ((rd_T47 t434 (rd t447 x97_3)).f0)) ∧ w'.cell? ⟨(ad464.add (((rd t447 x97_3)).toNat * 2)).block, (ad464.add (((rd t447 x97_3)).toNat * 2)).off + 1, none⟩ = some (.int .i64 ((rd_T47 t434 (rd t447 x97_3)).f1)) ∧ w'.cell? (ad464.add (((rd y459 x155_5)).toNat * 2)) = some (.int .i64 ((rd_T47 t434 (rd y459 x155_5)).f0)) ∧ w'.cell? ⟨(ad464.add (((rd y459 x155_5)).toNat * 2)).block, (ad464.add (((rd y459 x155_5)).toNat * 2)).off + 1, none⟩ = some (.int .i64 ((rd_T47 t434 (rd y459 x155_5)).f1))) (ds := []) #[false, false, false, false, false, false, false, false, false, false, false, false, false, false] (by kernel_rfl) rfl rfl ⟨(blk_cell BK437.out 0).trans rfl, (blk_cell BK437.out 1).trans rfl, hx464_0, hx464_1, hx465_0, hx465_1⟩ (fun hHeld => ?_); refine with_tabW pianolalaw03_PunchCrowds.tab25 pianolalaw03_PunchCrowds.bits25 (fun HT_ HW_ => ?_)
                           generalize wr.drew = w91 at HO_14 HO_95 HO_438001 BK432 BK437 HR462 HB hx464_0 hx464_1 hx465_0 hx465_1 hHeld ⊢
                           refine pure_ (i := 0) (N := some 159) (v := ?_) (a' := ?_) #[true, false, false, false, false, false, false, false, false, false, false, false, false, false] rfl rfl (any_of HT_.out (by kernel_rfl)) (fun _ _ _ h => h) (Or.inl ⟨by rfl, ?_⟩) ?_ ?_
                           rotate_left
                           ·
                            intro w'
                            go_simp
                            with_reducible rfl
                           rotate_left
                           · simp only [Act.put, setIfInBounds_toArray, set_cons_zero, set_cons_succ, i64_w, i32_w]; rfl
                           refine pure_ (i := 2) (N := some 161) (v := ?_) (a' := ?_) #[true, false, true, false, false, false, false, false, false, false, false, false, false, false] rfl rfl (any_of HT_.out (by kernel_rfl)) (fun _ _ _ h => h) (Or.inl ⟨by rfl, ?_⟩) ?_ ?_
                           rotate_left
                           ·
                            intro w'
                            go_simp
                            with_reducible rfl
                           rotate_left
                           · simp only [Act.put, setIfInBounds_toArray, set_cons_zero, set_cons_succ, i64_w, i32_w]; rfl
                           refine pure_ (i := 5) (N := some 164) (v := ?_) (a' := ?_) #[true, false, true, false, false, true, false, false, false, false, false, false, false, false] rfl rfl (any_of HT_.out (by kernel_rfl)) (fun _ _ _ h => h) (Or.inl ⟨by rfl, ?_⟩) ?_ ?_
                           rotate_left
                           ·
                            intro w'
                            go_simp
                            with_reducible rfl
                           rotate_left
                           · simp only [Act.put, setIfInBounds_toArray, set_cons_zero, set_cons_succ, i64_w, i32_w]; rfl
                           refine pure_ (i := 7) (N := some 166) (v := ?_) (a' := ?_) #[true, false, true, false, false, true, false, true, false, false, false, false, false, false] rfl rfl (any_of HT_.out (by kernel_rfl)) (fun _ _ _ h => h) (Or.inl ⟨by rfl, ?_⟩) ?_ ?_
                           rotate_left
                           ·
                            intro w'
                            go_simp
                            with_reducible rfl
                           rotate_left
                           · simp only [Act.put, setIfInBounds_toArray, set_cons_zero, set_cons_succ, i64_w, i32_w]; rfl
                           refine pure_ (i := 10) (N := some 169) (v := ?_) (a' := ?_) #[true, false, true, false, false, true, false, true, false, false, true, false, false, false] rfl rfl (any_of HT_.out (by kernel_rfl)) (fun _ _ _ h => h) (Or.inl ⟨by rfl, ?_⟩) ?_ ?_
                           rotate_left
                           ·
                            intro w'
                            go_simp
                            with_reducible rfl
                           rotate_left
                           · simp only [Act.put, setIfInBounds_toArray, set_cons_zero, set_cons_succ, i64_w, i32_w]; rfl
                           refine take_ (i := 1) (N := some 160) (v := ?_) (a' := ?_) #[true, true, true, false, false, true, false, true, false, false, true, false, false, false] rfl rfl (take_ofW HT_.out HW_.out (by kernel_rfl)) (fun _ _ _ h => h) (Or.inl ⟨by rfl, ?_⟩) hHeld ?_ ?_
                           rotate_left
                           ·
                            rintro w' ⟨s0, s1, s2, s3, s4, s5⟩
                            go_simp
                            with_reducible rfl
                           rotate_left
                           · simp only [Act.put, setIfInBounds_toArray, set_cons_zero, set_cons_succ, i64_w, i32_w]; rfl
                           refine pure_ (i := 3) (N := some 162) (v := ?_) (a' := ?_) #[true, true, true, true, false, true, false, true, false, false, true, false, false, false] rfl rfl (any_of HT_.out (by kernel_rfl)) (fun _ _ _ h => h) (Or.inl ⟨by rfl, ?_⟩) ?_ ?_
                           rotate_left
                           ·
                            intro w'
                            go_simp
                            with_reducible rfl
                           rotate_left
                           · simp only [Act.put, setIfInBounds_toArray, set_cons_zero, set_cons_succ, i64_w, i32_w]; rfl
                           refine take_ (i := 4) (N := some 163) (v := ?_) (a' := ?_) #[true, true, true, true, true, true, false, true, false, false, true, false, false, false] rfl rfl (take_ofW HT_.out HW_.out (by kernel_rfl)) (fun _ _ _ h => h) (Or.inl ⟨by rfl, ?_⟩) hHeld ?_ ?_
                           rotate_left
                           ·
                            rintro w' ⟨s0, s1, s2, s3, s4, s5⟩
                            go_simp
                            with_reducible rfl
                           rotate_left
                           · simp only [Act.put, setIfInBounds_toArray, set_cons_zero, set_cons_succ, i64_w, i32_w]; rfl
                           refine take_ (i := 6) (N := some 165) (v := ?_) (a' := ?_) #[true, true, true, true, true, true, true, true, false, false, true, false, false, false] rfl rfl (take_ofW HT_.out HW_.out (by kernel_rfl)) (fun _ _ _ h => h) (Or.inl ⟨by rfl, ?_⟩) hHeld ?_ ?_
                           rotate_left
                           ·
                            rintro w' ⟨s0, s1, s2, s3, s4, s5⟩
                            go_simp
                            with_reducible rfl
                           rotate_left
                           · simp only [Act.put, setIfInBounds_toArray, set_cons_zero, set_cons_succ, i64_w, i32_w]; rfl
                           refine pure_ (i := 8) (N := some 167) (v := ?_) (a' := ?_) #[true, true, true, true, true, true, true, true, true, false, true, false, false, false] rfl rfl (any_of HT_.out (by kernel_rfl)) (fun _ _ _ h => h) (Or.inl ⟨by rfl, ?_⟩) ?_ ?_
                           rotate_left
                           ·
                            intro w'
                            go_simp
                            with_reducible rfl
                           rotate_left
                           · simp only [Act.put, setIfInBounds_toArray, set_cons_zero, set_cons_succ, i64_w, i32_w]; rfl
                           refine take_ (i := 9) (N := some 168) (v := ?_) (a' := ?_) #[true, true, true, true, true, true, true, true, true, true, true, false, false, false] rfl rfl (take_ofW HT_.out HW_.out (by kernel_rfl)) (fun _ _ _ h => h) (Or.inl ⟨by rfl, ?_⟩) hHeld ?_ ?_
                           rotate_left
                           ·
                            rintro w' ⟨s0, s1, s2, s3, s4, s5⟩
                            go_simp
                            with_reducible rfl
                           rotate_left
                           · simp only [Act.put, setIfInBounds_toArray, set_cons_zero, set_cons_succ, i64_w, i32_w]; rfl
                           refine take_ (i := 11) (N := some 170) (v := ?_) (a' := ?_) #[true, true, true, true, true, true, true, true, true, true, true, true, false, false] rfl rfl (take_ofW HT_.out HW_.out (by kernel_rfl)) (fun _ _ _ h => h) (Or.inl ⟨by rfl, ?_⟩) hHeld ?_ ?_
                           rotate_left
                           ·
                            rintro w' ⟨s0, s1, s2, s3, s4, s5⟩
                            go_simp
                            with_reducible rfl
                           rotate_left
                           · simp only [Act.put, setIfInBounds_toArray, set_cons_zero, set_cons_succ, i64_w, i32_w]; rfl
                           refine one_ (i := 12) (N := some 171) #[true, true, true, true, true, true, true, true, true, true, true, true, true, false] rfl rfl (one_of HT_.out (by kernel_rfl)) (by decide) (fun K hK => ?_)
                           refine goes_ Try.func41 (by kernel_rfl) rfl #[.agg #[.int .i64 ((rd_T47 t434 (rd t447 x97_3)).f0), .int .i64 ((rd_T47 t434 (rd t447 x97_3)).f1)], .agg #[.int .i64 ((rd_T47 t434 (rd y459 x155_5)).f0), .int .i64 ((rd_T47 t434 (rd y459 x155_5)).f1)], .int .i64 t433] (by rfl) rfl rfl zqE ?_
                           with_reducible refine (pianolalaw03_near.calls k5 ((rd_T47 t434 (rd t447 x97_3)).f0) ((rd_T47 t434 (rd t447 x97_3)).f1) ((rd_T47 t434 (rd y459 x155_5)).f0) ((rd_T47 t434 (rd y459 x155_5)).f1) t433 true _ A89.out).mono ?_
                           rintro e w92 ⟨rfl, hb⟩
                           have HS2_ := (hb.cell (World.block_lt_of_cell? _ _ (hHeld.2.2.1))).trans (hHeld.2.2.1)
                           have HS3_ := (hb.cell (World.block_lt_of_cell? _ _ (hHeld.2.2.2.1))).trans (hHeld.2.2.2.1)
                           have HS4_ := (hb.cell (World.block_lt_of_cell? _ _ (hHeld.2.2.2.2.1))).trans (hHeld.2.2.2.2.1)
                           have HS5_ := (hb.cell (World.block_lt_of_cell? _ _ (hHeld.2.2.2.2.2))).trans (hHeld.2.2.2.2.2)
                           refine ⟨_, rfl, ?_⟩
                           have n0_ := zA (Kd.R_below (zqC HO_14.out) hb); have n1_ := zA (Kd.R_below (zqC HO_95.out) hb); have n2_ := zA (Kd.R_below (zqC HO_438001.out) hb); have n3_ := zA (blk_below (g := gb432) (o := .cells #[.int .u8 a0_0, .slice A0_1 l0_1.length c0_1] 74 (0, 0)) (zqB BK432.out) hb); have n4_ := zA (blk_below (g := gb437) (o := .cells #[.int .i64 t433, .slice (some ad464) t434.length co11] 24 (0, 0)) (zqB BK437.out) hb)
                           have n5_ := zA (Kd.C_below (by repeat (first | (with_reducible exact HR462.out) | (with_reducible refine Kd.C_alloc ?_ _) | (with_reducible refine Kd.C_drewN ?_ _) | (with_reducible refine Kd.C_drew ?_) | exact HR462.out)) hb)
                           have n6_ := zA (below_step (zqH HB.out GE432.out GE437.out) hb); clear HO_14 HO_95 HO_438001 BK432 BK437 HR462 HB; have HO_14 := n0_; have HO_95 := n1_; have HO_438001 := n2_; have BK432 := n3_; have BK437 := n4_; have HR462 := n5_; have HB := n6_; clear n0_ n1_ n2_ n3_ n4_ n5_ n6_
                           (try clear hb); (try clear hb2); (try clear hk); (try clear hi)
                           refine hK.out _ _ ⟨(blk_cell BK437.out 0).trans rfl, (blk_cell BK437.out 1).trans rfl, HS2_, HS3_, HS4_, HS5_⟩ (fun hHeld => ?_)
                           clear hK K; refine norm_ (a' := ?_) ?_ ?_; rotate_left
                           · show Act.put _ (some 171) _ = _; simp only [Act.put, setIfInBounds_toArray, set_cons_zero, set_cons_succ, i64_w, i32_w]; rfl
                           refine pure_ (i := 13) (N := some 172) (v := ?_) (a' := ?_) #[true, true, true, true, true, true, true, true, true, true, true, true, true, true] rfl rfl (any_of HT_.out (by kernel_rfl)) (fun _ _ _ h => h) (Or.inl ⟨by rfl, ?_⟩) ?_ ?_
                           rotate_left
                           ·
                            intro w'
                            go_simp
                            with_reducible rfl
                           rotate_left
                           · simp only [Act.put, setIfInBounds_toArray, set_cons_zero, set_cons_succ, i64_w, i32_w]; rfl
                           refine done_ (done_of HT_.out (by kernel_rfl)) ?_
                           try go_wp2
                           go_roundg k5
                           case measure => have := HK1.out; have := HJ22.out; have := HK3.out; have := HJ56.out; have := HK5.out; omega
                           case rel => exact ⟨(wrap64 (x155_5 + 1)), zqQ, H', ⟨by have := HK1.out; have := HJ22.out; have := HK3.out; have := HJ56.out; have := HK5.out; omega⟩, ⟨zqC HO_14.out⟩, ⟨zqC HO_95.out⟩, ⟨zqC HO_438001.out⟩, ⟨zqB BK432.out⟩, ⟨zqB BK437.out⟩, ⟨by repeat (first | (with_reducible exact HR462.out) | (with_reducible refine Kd.C_alloc ?_ _) | (with_reducible refine Kd.C_drewN ?_ _) | (with_reducible refine Kd.C_drew ?_) | exact HR462.out)⟩, ⟨zqH HB.out GE432.out GE437.out⟩⟩
                          ·
                           replace c90 := Bool.eq_false_iff.mpr c90
                           subst c90
                           have H1 : (some false) = some r := by rw [if_neg (show ¬ (false = true) by decide)] at H; exact H
                           clear H; have H := H1; clear H1
                           exact absurd ((Option.some.inj H).trans HRT.out) (by decide)
                         ·
                          rw [if_neg c88] at H
                          exact absurd H (by simp)
                        ·
                         rw [if_neg c87] at H
                         exact absurd H (by simp)
                       ·
                        rw [if_neg c86] at H
                        exact absurd H (by simp)
                      ·
                       rw [if_neg c85] at H
                       exact absurd H (by simp)
                     ·
                      rw [if_neg c84] at H
                      exact absurd H (by simp)
                    ·
                     rw [if_neg c83] at H
                     exact absurd H (by simp)
                   ·
                    rw [if_neg c82] at H
                    have c82b0 : decide (x155_5 < (y459.length : Int)) = false := decide_eq_false c82
                    clear c82
                    have H' := zA H
                    clear H
                    go_wp2
                    go_roundg k5
                    case measure => have := HK1.out; have := HJ22.out; have := HK3.out; have := HJ56.out; have := HK5.out; omega
                    case rel => exact ⟨(wrap64 (x97_3 + 1)), zqQ, H', ⟨by have := HK1.out; have := HJ22.out; have := HK3.out; have := HJ56.out; have := HK5.out; omega⟩, ⟨zqC HO_14.out⟩, ⟨zqC HO_95.out⟩, ⟨zqC HO_438001.out⟩, ⟨zqB BK432.out⟩, ⟨zqB BK437.out⟩, ⟨zqH HB.out GE432.out GE437.out⟩⟩
                ·
                 rw [if_neg c80] at H
                 exact absurd H (by simp)
               ·
                rw [if_neg c79] at H
                exact absurd H (by simp)
           ·
            rw [if_neg c56] at H
            exact absurd H (by simp)
          ·
           rw [if_neg c55] at H
           exact absurd H (by simp)
         ·
          rw [if_neg c54] at H
          have c54b0 : decide (x97_3 < (t447.length : Int)) = false := decide_eq_false c54
          clear c54
          replace H := Option.bind_eq_some_iff.mp H
          obtain ⟨t452, A950, H⟩ := H
          replace H : (some t452) = some r := H
          have A95 := zA A950
          clear A950
          obtain rfl := Option.some.inj H
          go_wp2_with (first | ((with_reducible refine gate_callee (f := 15) rfl ?_); refine goesL_ (some 175) rfl rfl Try.func15 (by kernel_rfl) rfl #[] rfl zqE ?_; (with_reducible refine (pianolalaw03_works.calls  t452 _ A95.out).mono ?_); rintro e w96 ⟨rfl, hb⟩; refine ⟨_, rfl, ?_⟩; have n0_ := zA (Kd.R_below (zqC HO_14.out) hb); have n1_ := zA (Kd.R_below (zqC HO_95.out) hb); have n2_ := zA (Kd.R_below (zqC HO_438001.out) hb); have n3_ := zA (blk_below (g := gb432) (o := .cells #[.int .u8 a0_0, .slice A0_1 l0_1.length c0_1] 74 (0, 0)) (zqB BK432.out) hb); have n4_ := zA (blk_below (g := gb437) (o := .cells #[.int .i64 t433, .slice Ao11 t434.length co11] 24 (0, 0)) (zqB BK437.out) hb); have n5_ := zA (below_step (zqH HB.out GE432.out GE437.out) hb); clear HO_14; clear HO_95; clear HO_438001; clear BK432; clear BK437; clear HB; have HO_14 := n0_; have HO_95 := n1_; have HO_438001 := n2_; have BK432 := n3_; have BK437 := n4_; have HB := n5_; clear n0_ n1_ n2_ n3_ n4_ n5_; (try clear hb); (try clear hb2); (try clear hk); (try clear hi)))
          go_ret
          exact ⟨zqR, zqH HB.out GE432.out GE437.out⟩
end Go.Proofs.Ytegffliopblajaa.P
end
end
section
namespace Go.Proofs.Ytegffliopblajaa.P
open Go.RowKit Go.Proofs.YtegffliopblajaaW.PrintWords Go.Proofs.YtegffliopblajaaW.PrintLast Go.Proofs.YtegffliopblajaaW.PrintMore
set_option linter.unusedVariables false
set_option linter.unusedSimpArgs false
def c52 (x : S47) : S52 := ⟨x.f0, x.f1⟩
theorem rd47_at {l : List S47} {i : Nat} (h : i < l.length) : rd_T47 l (i : Int) = l[i] := by
  unfold rd_T47
  rw [List.getD_eq_getElem?_getD, Int.toNat_natCast, List.getElem?_eq_getElem h]; rfl
theorem rdI_at {l : List Int} {i : Nat} (h : i < l.length) : rd l (i : Int) = l[i] := by
  unfold rd
  rw [List.getD_eq_getElem?_getD, Int.toNat_natCast, List.getElem?_eq_getElem h]; rfl
theorem w_succ (i : Nat) (h : i ≤ 1000000000) : wrap64 ((i : Int) + 1) = ((i + 1 : Nat) : Int) := by unfold wrap64; omega
def chk (rest : Int) (l : List S47) : Int := if btw 0 rest 1000 = true then (if l.length > 40 then 5 else if (l.any fun x => !good x) = true then 3 else 0) else 3
theorem check_f (rest : Int) (l : List S47) : punch_Check.f rest l = some (chk rest l) := by
  unfold punch_Check.f chk
  rw [btw_f]
  show (if btw 0 rest 1000 = true then _ else _) = _
  by_cases c : btw 0 rest 1000 = true
  · rw [if_pos c, if_pos c]
    by_cases c2 : l.length > 40
    · rw [if_pos (by omega), if_pos c2]
    · rw [if_neg (by omega), if_neg c2]
      unfold any_bad.f
      rw [if_pos (by omega)]
      show (if (l.any fun x => !good x) = true then _ else _) = _
      split <;> rfl
  · rw [if_neg c, if_neg c]
theorem chk_len {rest : Int} {l : List S47} (h : chk rest l = 0) : l.length ≤ 40 := by
  unfold chk at h
  split at h
  · split at h
    · cases h
    · omega
  · cases h
def crowdR (rest : Int) (l : List S47) (m : Int) : List Int × Int := if chk rest l = 0 then (crowdL rest m l, 0) else ([], chk rest l)
theorem Crowd_f (rest : Int) (l : List S47) (m : Int) : punch_Crowd.f rest l m = some (crowdR rest l m) := by
  unfold punch_Crowd.f crowdR
  rw [check_f]
  show (if chk rest l = 0 then _ else _) = _
  by_cases c : chk rest l = 0
  · rw [if_pos c, if_pos c, if_pos (chk_len c)]
  · rw [if_neg c, if_neg c]
end Go.Proofs.Ytegffliopblajaa.P
end
section
namespace Go.Proofs.Ytegffliopblajaa.P
open Go.RowKit Go.Proofs.YtegffliopblajaaW.PrintWords Go.Proofs.YtegffliopblajaaW.PrintLast Go.Proofs.YtegffliopblajaaW.PrintMore
set_option linter.unusedVariables false
set_option linter.unusedSimpArgs false
def Cl (rest : Int) (x y : S47) : Bool := decide (x.f0 < wrap64 (y.f1 + rest)) && decide (y.f0 < wrap64 (x.f1 + rest))
theorem Cl_comm (rest : Int) (x y : S47) : Cl rest x y = Cl rest y x := by unfold Cl; rw [Bool.and_comm]
theorem clB_eq (x : S47) (p rest a b : Int) : clB x p rest a b = (Cl rest x ⟨a, b⟩ && decide (0 ≤ p)) := rfl
theorem mem_clashL (l : List S47) (ps : List Int) (rest a b p : Int) : ∀ (r f : Nat), p ∈ clashL l ps rest a b r f ↔ ∃ i, f ≤ i ∧ i < f + r ∧ ps.getD i 0 = p ∧ clB (rd_T47 l (i : Int)) (ps.getD i 0) rest a b = true
  | 0, f => by
    constructor
    · intro h; cases h
    · rintro ⟨i, h1, h2, _⟩; omega
  | r + 1, f => by
    rw [clashL]
    have ih := mem_clashL l ps rest a b p r (f + 1)
    constructor
    · intro h
      split at h
      · rename_i hc
        rcases List.mem_cons.1 h with h | h
        · exact ⟨f, Nat.le_refl _, by omega, h.symm, hc⟩
        · obtain ⟨i, h1, h2, h3⟩ := ih.1 h
          exact ⟨i, by omega, by omega, h3⟩
      · obtain ⟨i, h1, h2, h3⟩ := ih.1 h
        exact ⟨i, by omega, by omega, h3⟩
    · rintro ⟨i, h1, h2, h3, h4⟩
      by_cases e : i = f
      · subst e
        rw [if_pos h4, h3]
        exact List.mem_cons_self
      · have := ih.2 ⟨i, by omega, by omega, h3, h4⟩
        split
        · exact List.mem_cons_of_mem _ this
        · exact this
def passN (p : List Int) : Int := p.foldl (fun n x => max n (x + 1)) 0
theorem mx_max (a b : Int) : mx a b = max a b := by unfold mx; omega
theorem passes_l0 (p : List Int) (hb : ∀ x ∈ p, -1 ≤ x ∧ x ≤ 1000) (hl : p.length ≤ 1000) : ∀ (m i k : Nat) (n : Int), i + m = p.length → m < k → punch_passes.l0 k n p p.length i = some ((p.drop i).foldl (fun n x => max n (x + 1)) n)
  | 0, i, 0, n, h, hk => by omega
  | m + 1, i, 0, n, h, hk => by omega
  | 0, i, k + 1, n, h, hk => by
    rw [punch_passes.l0, if_neg (by omega), List.drop_eq_nil_of_le (by omega)]
    rfl
  | m + 1, i, k + 1, n, h, hk => by
    have hi : i < p.length := by omega
    have hx := hb p[i] (List.getElem_mem hi)
    have e : p.drop i = p[i] :: p.drop (i + 1) := List.drop_eq_getElem_cons hi
    rw [e, List.foldl_cons, punch_passes.l0, if_pos (by omega), if_pos (by omega), if_pos (by omega), rdI_at hi, w_succ i (by omega), mx_max, show wrap64 (p[i] + 1) = p[i] + 1 by unfold wrap64; omega]
    exact passes_l0 p hb hl m (i + 1) k (max n (p[i] + 1)) (by omega) (by omega)
theorem passes_f (p : List Int) (hb : ∀ x ∈ p, -1 ≤ x ∧ x ≤ 1000) (hl : p.length ≤ 1000) : punch_passes.f (p.length + 1) p = some (passN p) := by
  have := passes_l0 p hb hl p.length 0 (p.length + 1) 0 (by omega) (by omega)
  simpa [punch_passes.f, passN] using this
end Go.Proofs.Ytegffliopblajaa.P
end
section
namespace Go.Proofs.Ytegffliopblajaa.P
open Go.RowKit Go.Proofs.YtegffliopblajaaW.PrintWords Go.Proofs.YtegffliopblajaaW.PrintLast Go.Proofs.YtegffliopblajaaW.PrintMore
set_option linter.unusedVariables false
set_option linter.unusedSimpArgs false
theorem noPass_iff {p : Int} : noPass p = false ↔ 0 ≤ p ∧ p ≤ 39 := by
  unfold noPass
  rw [Bool.not_eq_false', btw_iff]
def apartB (rest : Int) (l : List S47) (pl : List Int) (i : Nat) : Bool := (List.range i).all fun k => !(decide (rd pl (i : Int) = rd pl (k : Int)) && Cl rest (rd_T47 l (i : Int)) (rd_T47 l (k : Int)))
def planB (rest : Int) (l : List S47) (pl : List Int) : Bool := (List.range l.length).all (apartB rest l pl)
theorem apartB_iff {rest : Int} {l : List S47} {pl : List Int} {i : Nat} : apartB rest l pl i = true ↔ ∀ k, k < i → rd pl (i : Int) = rd pl (k : Int) → Cl rest (rd_T47 l (i : Int)) (rd_T47 l (k : Int)) = false := by
  unfold apartB
  rw [List.all_eq_true]
  constructor
  · intro h k hk e
    have := h k (List.mem_range.2 hk)
    rw [e] at this
    simpa using this
  · intro h k hk
    rw [Bool.not_eq_true', Bool.and_eq_false_iff]
    by_cases c : rd pl (i : Int) = rd pl (k : Int)
    · exact .inr (h k (List.mem_range.1 hk) c)
    · exact .inl (decide_eq_false c)
theorem psT_lt {pl : List Int} {i j : Nat} (h : j < i) (hi : i ≤ pl.length) : (psT pl i).getD j 0 = rd pl (j : Int) := by
  unfold psT
  rw [List.getD_eq_getElem?_getD, List.getElem?_append_left (by rw [List.length_take]; omega), List.getElem?_take_of_lt h, rdI_at (by omega), List.getElem?_eq_getElem (by omega)]
  rfl
theorem psT_ge {pl : List Int} {i j : Nat} (h : i ≤ j) (hi : i ≤ pl.length) (hj : j < 40) : (psT pl i).getD j 0 = -1 := by
  unfold psT
  rw [List.getD_eq_getElem?_getD, List.getElem?_append_right (by rw [List.length_take]; omega), List.length_take, List.getElem?_replicate, if_pos (by omega)]
  rfl
theorem mem_clashT {rest : Int} {l : List S47} {pl : List Int} {i : Nat} {p a b : Int} (hp : 0 ≤ p) (hi : i ≤ pl.length) (hl : i ≤ l.length) (h40 : l.length ≤ 40) :
    p ∈ clashL l (psT pl i) rest a b l.length 0 ↔ ∃ j, j < i ∧ rd pl (j : Int) = p ∧ Cl rest (rd_T47 l (j : Int)) ⟨a, b⟩ = true := by
  rw [mem_clashL]
  constructor
  · rintro ⟨j, _, h2, h3, h4⟩
    by_cases c : j < i
    · rw [psT_lt c hi] at h3 h4
      rw [clB_eq, Bool.and_eq_true] at h4
      exact ⟨j, c, h3, h4.1⟩
    · rw [psT_ge (by omega) hi (by omega)] at h3
      omega
  · rintro ⟨j, h1, h2, h3⟩
    refine ⟨j, Nat.zero_le _, by omega, by rw [psT_lt h1 hi]; exact h2, ?_⟩
    rw [psT_lt h1 hi, clB_eq, h3, h2, decide_eq_true hp]
    rfl
theorem okAt_eq {rest : Int} {l : List S47} {pl : List Int} {i : Nat} (hi : i < l.length) (hl : pl.length = l.length) (h40 : l.length ≤ 40) (hp : 0 ≤ rd pl (i : Int)) : okAt rest l pl i = apartB rest l pl i := by
  rw [Bool.eq_iff_iff, apartB_iff]
  unfold okAt clashAt
  rw [Bool.not_eq_true', ← Bool.not_eq_true, List.contains_iff_mem, mem_clashT hp (by omega) (by omega) h40]
  constructor
  · intro h k hk e
    rw [← Bool.not_eq_true]
    intro hc
    exact h ⟨k, hk, e.symm, by rw [Cl_comm]; exact hc⟩
  · rintro h ⟨k, hk, e, hc⟩
    have := h k hk e.symm
    rw [Cl_comm] at this
    have hc' : Cl rest (rd_T47 l (k : Int)) (rd_T47 l (i : Int)) = true := hc
    rw [this] at hc'
    cases hc'
theorem all_range_congr {f g : Nat → Bool} : ∀ {n : Nat}, (∀ i, i < n → f i = g i) → (List.range n).all f = (List.range n).all g := by
  intro n h
  rw [Bool.eq_iff_iff, List.all_eq_true, List.all_eq_true]
  exact ⟨fun a i hi => by rw [← h i (List.mem_range.1 hi)]; exact a i hi, fun a i hi => by rw [h i (List.mem_range.1 hi)]; exact a i hi⟩
theorem planOk_eq {rest : Int} {l : List S47} {pl : List Int} (hl : pl.length = l.length) (h40 : l.length ≤ 40) (hp : pl.any noPass = false) : planOk rest l pl = planB rest l pl := by
  unfold planOk planB
  refine all_range_congr fun i hi => okAt_eq hi hl h40 ?_
  rw [List.any_eq_false] at hp
  have := hp (rd pl (i : Int)) (by rw [rdI_at (show i < pl.length by omega)]; exact List.getElem_mem _)
  exact (noPass_iff.1 (by simpa using this)).1
def perr (rest : Int) (l : List S47) (pl : List Int) : Int := if chk rest l = 0 then (if pl.length = l.length then (if pl.any noPass = true then 3 else if planB rest l pl = true then 0 else 14) else 6) else chk rest l
theorem planErr_f (rest : Int) (l : List S47) (pl : List Int) : planErr rest l pl = some (perr rest l pl) := by
  unfold planErr perr
  rw [check_f]
  show (if chk rest l = 0 then _ else _) = _
  by_cases c : chk rest l = 0
  · have h40 := chk_len c
    rw [if_pos c, if_pos c, if_pos h40]
    by_cases c2 : pl.length = l.length
    · rw [if_pos c2, if_pos c2]
      by_cases c3 : pl.any noPass = true
      · rw [if_pos c3, if_pos c3]
      · rw [if_neg c3, if_neg c3, planOk_eq c2 h40 (by simpa using c3)]
        split <;> rfl
    · rw [if_neg c2, if_neg c2]
  · rw [if_neg c, if_neg c]
theorem perr_ok {rest : Int} {l : List S47} {pl : List Int} (h : perr rest l pl = 0) : chk rest l = 0 ∧ l.length ≤ 40 ∧ pl.length = l.length ∧ (∀ x ∈ pl, 0 ≤ x ∧ x ≤ 39) ∧ planB rest l pl = true := by
  unfold perr at h
  split at h
  · rename_i c
    split at h
    · rename_i c2
      split at h
      · cases h
      · rename_i c3
        split at h
        · rename_i c4
          have c3' : pl.any noPass = false := by simpa using c3
          rw [List.any_eq_false] at c3'
          exact ⟨c, chk_len c, c2, fun x hx => noPass_iff.1 (by simpa using c3' x hx), c4⟩
        · cases h
    · cases h
  · exact absurd h (by assumption)
def verR (rest : Int) (l : List S47) (pl : List Int) : Int × Int := if perr rest l pl = 0 then (passN pl, 0) else (0, perr rest l pl)
theorem Verify_f (rest : Int) (l : List S47) (pl : List Int) : punch_Verify.f rest l pl = some (verR rest l pl) := by
  unfold punch_Verify.f verR
  rw [planErr_f]
  show (if perr rest l pl = 0 then _ else _) = _
  by_cases c : perr rest l pl = 0
  · obtain ⟨_, h2, h3, h4, _⟩ := perr_ok c
    rw [if_pos c, if_pos c, passes_f pl (fun x hx => by have := h4 x hx; omega) (by omega)]
    rfl
  · rw [if_neg c, if_neg c]
end Go.Proofs.Ytegffliopblajaa.P
end
section
namespace Go.Proofs.Ytegffliopblajaa.P
open Go.RowKit Go.Proofs.YtegffliopblajaaW.PrintWords Go.Proofs.YtegffliopblajaaW.PrintLast Go.Proofs.YtegffliopblajaaW.PrintMore
set_option linter.unusedVariables false
set_option linter.unusedSimpArgs false
def st (rest : Int) (l : List S47) (r : Nat) : List Int := fillL rest l ((ordL l).take r) (List.replicate 40 (-1))
end Go.Proofs.Ytegffliopblajaa.P
end
section
namespace Go.Proofs.Ytegffliopblajaa.P
open Go.RowKit Go.Proofs.YtegffliopblajaaW.PrintWords Go.Proofs.YtegffliopblajaaW.PrintLast Go.Proofs.YtegffliopblajaaW.PrintMore
set_option linter.unusedVariables false
set_option linter.unusedSimpArgs false
theorem passN_spec (p : List Int) : ∀ (n : Int), n ≤ p.foldl (fun n x => max n (x + 1)) n ∧ (∀ x ∈ p, x + 1 ≤ p.foldl (fun n x => max n (x + 1)) n) ∧ (p.foldl (fun n x => max n (x + 1)) n = n ∨ ∃ x ∈ p, p.foldl (fun n x => max n (x + 1)) n = x + 1) := by
  induction p with
  | nil => intro n; exact ⟨Int.le_refl _, (fun x h => by cases h), .inl rfl⟩
  | cons a p ih =>
    intro n
    rw [List.foldl_cons]
    obtain ⟨h1, h2, h3⟩ := ih (max n (a + 1))
    refine ⟨by omega, fun x hx => ?_, ?_⟩
    · rcases List.mem_cons.1 hx with rfl | hx
      · omega
      · exact h2 x hx
    · rcases h3 with h3 | ⟨x, hx, h3⟩
      · by_cases c : n ≤ a + 1
        · exact .inr ⟨a, List.mem_cons_self, by omega⟩
        · exact .inl (by omega)
      · exact .inr ⟨x, List.mem_cons_of_mem _ hx, h3⟩
theorem passN_le {p : List Int} {x : Int} (h : x ∈ p) : x + 1 ≤ passN p := (passN_spec p 0).2.1 x h
theorem passN_nonneg (p : List Int) : 0 ≤ passN p := (passN_spec p 0).1
theorem nodup_bound : ∀ (N : Nat) (xs : List Int), xs.Nodup → (∀ x ∈ xs, 0 ≤ x ∧ x < N) → xs.length ≤ N
  | 0, xs, _, h => by
    cases xs with
    | nil => exact Nat.le_refl _
    | cons a xs => have := h a List.mem_cons_self; omega
  | N + 1, xs, hn, h => by
    by_cases c : (N : Int) ∈ xs
    · have := nodup_bound N (xs.erase (N : Int)) (hn.erase _) (fun x hx => by
        have h1 := h x (List.mem_of_mem_erase hx)
        have h2 : x ≠ (N : Int) := fun e => by subst e; exact (hn.not_mem_erase) hx
        omega)
      rw [List.length_erase_of_mem c] at this
      omega
    · exact Nat.le_trans (nodup_bound N xs hn (fun x hx => by
        have h1 := h x hx
        have h2 : x ≠ (N : Int) := fun e => c (by rw [← e]; exact hx)
        omega)) (Nat.le_succ N)
theorem chk_good {rest : Int} {l : List S47} (h : chk rest l = 0) : 0 ≤ rest ∧ rest ≤ 1000 ∧ ∀ i, i < l.length → 0 ≤ (rd_T47 l (i : Nat)).f0 ∧ (rd_T47 l (i : Nat)).f0 < (rd_T47 l (i : Nat)).f1 ∧ (rd_T47 l (i : Nat)).f1 ≤ 1000000 := by
  unfold chk at h
  split at h
  · rename_i c
    split at h
    · cases h
    · split at h
      · cases h
      · rename_i c3
        have hb := btw_iff.1 c
        refine ⟨hb.1, hb.2, fun i hi => ?_⟩
        have c3' : (l.any fun x => !good x) = false := by simpa using c3
        rw [List.any_eq_false] at c3'
        have := c3' (rd_T47 l (i : Nat)) (by rw [rd47_at hi]; exact List.getElem_mem _)
        have hg : good (rd_T47 l (i : Nat)) = true := by simpa using this
        unfold good at hg
        simp only [Bool.and_eq_true, decide_eq_true_eq] at hg
        omega
  · cases h
theorem mem_crowd {rest m p : Int} {l : List S47} : p ∈ crowdL rest m l ↔ ∃ i : Nat, i < l.length ∧ p = i ∧ inB rest m (rd_T47 l (i : Int)) = true := by
  unfold crowdL crowdTo
  simp only [List.mem_map, List.mem_filter, List.mem_range]
  constructor
  · rintro ⟨i, ⟨h1, h2⟩, rfl⟩
    exact ⟨i, h1, rfl, h2⟩
  · rintro ⟨i, h1, rfl, h2⟩
    exact ⟨i, ⟨h1, h2⟩, rfl⟩
theorem inB_iff {rest m : Int} {x : S47} (h0 : 0 ≤ rest) (h1 : rest ≤ 1000) (h2 : 0 ≤ x.f1) (h3 : x.f1 ≤ 1000000) : inB rest m x = true ↔ x.f0 ≤ m ∧ m < x.f1 + rest := by
  unfold inB
  rw [show wrap64 (x.f1 + rest) = x.f1 + rest by unfold wrap64; omega, Bool.and_eq_true, decide_eq_true_eq, decide_eq_true_eq]
theorem Cl_iff {rest : Int} {x y : S47} (h0 : 0 ≤ rest) (h1 : rest ≤ 1000) (h2 : 0 ≤ x.f1) (h3 : x.f1 ≤ 1000000) (h4 : 0 ≤ y.f1) (h5 : y.f1 ≤ 1000000) : Cl rest x y = true ↔ x.f0 < y.f1 + rest ∧ y.f0 < x.f1 + rest := by
  unfold Cl
  rw [show wrap64 (x.f1 + rest) = x.f1 + rest by unfold wrap64; omega, show wrap64 (y.f1 + rest) = y.f1 + rest by unfold wrap64; omega, Bool.and_eq_true, decide_eq_true_eq, decide_eq_true_eq]
theorem crowd_nodup (rest m : Int) (l : List S47) : (crowdL rest m l).Pairwise (· < ·) := by
  unfold crowdL crowdTo
  rw [List.pairwise_map]
  exact (List.pairwise_lt_range.filter _).imp (fun h => by omega)
theorem crowd_le {rest : Int} {l : List S47} {pl : List Int} (h : perr rest l pl = 0) (m : Int) : cntAt rest l m ≤ passN pl := by
  obtain ⟨hc, h40, hl, hb, hB⟩ := perr_ok h
  obtain ⟨g0, g1, g2⟩ := chk_good hc
  have hnd : ((crowdL rest m l).map (rd pl)).Nodup := by
    unfold List.Nodup
    rw [List.pairwise_map]
    refine (List.Pairwise.and_mem.1 (crowd_nodup rest m l)).imp ?_
    rintro a b ⟨ha, hb', hab⟩
    obtain ⟨i, hi, rfl, h1⟩ := mem_crowd.1 ha
    obtain ⟨k, hk, rfl, h2⟩ := mem_crowd.1 hb'
    intro e
    have hgi := g2 i hi
    have hgk := g2 k hk
    rw [inB_iff g0 g1 (by omega) (by omega)] at h1 h2
    have hk2 : apartB rest l pl k = true := by
      unfold planB at hB
      rw [List.all_eq_true] at hB
      exact hB k (List.mem_range.2 hk)
    have := apartB_iff.1 hk2 i (by omega) e.symm
    rw [← Bool.not_eq_true, Cl_iff g0 g1 (by omega) (by omega) (by omega) (by omega)] at this
    omega
  have hN := passN_nonneg pl
  have := nodup_bound (passN pl).toNat _ hnd (fun x hx => by
    obtain ⟨a, ha, rfl⟩ := List.mem_map.1 hx
    obtain ⟨i, hi, rfl, _⟩ := mem_crowd.1 ha
    have hm : rd pl (i : Int) ∈ pl := by rw [rdI_at (show i < pl.length by omega)]; exact List.getElem_mem _
    have h1 := hb _ hm
    have h2 := passN_le hm
    omega)
  rw [List.length_map] at this
  unfold cntAt
  omega
end Go.Proofs.Ytegffliopblajaa.P
end
section
namespace Go.Proofs.Ytegffliopblajaa.P
open Go.RowKit Go.Proofs.YtegffliopblajaaW.PrintWords Go.Proofs.YtegffliopblajaaW.PrintLast Go.Proofs.YtegffliopblajaaW.PrintMore
set_option linter.unusedVariables false
set_option linter.unusedSimpArgs false
def U8l (l : List S82) : Prop := ∀ s ∈ l, (0 ≤ s.f0 ∧ s.f0 ≤ 255) ∧ (0 ≤ s.f1 ∧ s.f1 ≤ 255)
def mkS (x : S82) : S47 := ⟨x.f0 % 40, x.f0 % 40 + 1 + x.f1 % 12⟩
def laneS (l : List S82) : List S47 := (l.take 7).map mkS
theorem laneS_len (l : List S82) : (laneS l).length ≤ 7 := by unfold laneS; rw [List.length_map, List.length_take]; omega
theorem rd82_at {l : List S82} {i : Nat} (h : i < l.length) : rd_T82 l (i : Int) = l[i] := by
  unfold rd_T82
  rw [List.getD_eq_getElem?_getD, Int.toNat_natCast, List.getElem?_eq_getElem h]; rfl
theorem lane_l0 (a b : Int) (l : List S82) (hu : U8l l) : ∀ (m i : Nat), i + m = min l.length 7 → Ev (fun k => pianolalaw03_Lane_made.l0 k i a l b ((l.take i).map mkS)) (b, laneS l)
  | 0, i, h => by
    have e : (l.take i).map mkS = laneS l := by
      unfold laneS
      by_cases c : l.length ≤ 7
      · rw [List.take_of_length_le (by omega), List.take_of_length_le (by omega)]
      · rw [show i = 7 by omega]
    rw [e]
    refine Ev.step (f := fun _ => some (b, laneS l)) (fun k => ?_) (Ev.now _)
    rw [pianolalaw03_Lane_made.l0]
    by_cases c : i < l.length
    · rw [if_pos (by omega), if_neg (by omega)]
    · rw [if_neg (by omega)]
  | m + 1, i, h => by
    have hi : i < l.length := by omega
    have h1 := hu l[i] (List.getElem_mem hi)
    refine Ev.step (fun k => ?_) (lane_l0 a b l hu m (i + 1) (by omega))
    rw [pianolalaw03_Lane_made.l0, if_pos (by omega), if_pos (by omega), if_pos (by omega), if_pos (by rw [List.length_map, List.length_take]; omega), w_succ i (by omega), rd82_at hi]
    congr 1
    rw [List.take_succ_eq_append_getElem hi, List.map_append]
    congr 1
    show [_] = [mkS l[i]]
    unfold mkS
    have e1 : wrap64 l[i].f0 = l[i].f0 := by unfold wrap64; omega
    have e2 : wrap64 l[i].f1 = l[i].f1 := by unfold wrap64; omega
    rw [e1, e2, Int.tmod_eq_emod_of_nonneg h1.1.1, Int.tmod_eq_emod_of_nonneg h1.2.1, show wrap64 (wrap64 (l[i].f0 % 40 + 1) + l[i].f1 % 12) = l[i].f0 % 40 + 1 + l[i].f1 % 12 by unfold wrap64; omega]
theorem lane_f (a : Int) (l : List S82) (ha : 0 ≤ a ∧ a ≤ 255) (hu : U8l l) : Ev (fun k => pianolalaw03_Lane_made.f k a l) (a % 8, laneS l) := by
  have := lane_l0 a (a % 8) l hu (min l.length 7) 0 (by omega)
  unfold pianolalaw03_Lane_made.f
  rw [show wrap64 a = a by unfold wrap64; omega, Int.tmod_eq_emod_of_nonneg ha.1]
  simpa using this
def Small (rest : Int) (l : List S47) : Prop := 0 ≤ rest ∧ rest ≤ 20 ∧ l.length ≤ 40 ∧ ∀ i : Nat, i < l.length → 0 ≤ (rd_T47 l (i : Int)).f0 ∧ (rd_T47 l (i : Int)).f0 ≤ 39 ∧ (rd_T47 l (i : Int)).f0 < (rd_T47 l (i : Int)).f1 ∧ (rd_T47 l (i : Int)).f1 ≤ 51
theorem lane_small (a : Int) (l : List S82) (ha : 0 ≤ a ∧ a ≤ 255) (hu : U8l l) : Small (a % 8) (laneS l) := by
  refine ⟨by omega, by omega, by have := laneS_len l; omega, fun i hi => ?_⟩
  rw [rd47_at hi]
  have hi' : i < (l.take 7).length := by unfold laneS at hi; simpa using hi
  have e : (laneS l)[i] = mkS (l.take 7)[i] := List.getElem_map (f := mkS) (l := l.take 7) (h := hi)
  rw [e]
  have h1 := hu (l.take 7)[i] (List.mem_of_mem_take (List.getElem_mem hi'))
  unfold mkS
  dsimp only
  omega
theorem small_chk {rest : Int} {l : List S47} (h : Small rest l) : chk rest l = 0 := by
  obtain ⟨h0, h1, h2, h3⟩ := h
  unfold chk
  have hb : btw 0 rest 1000 = true := btw_iff.2 ⟨h0, by omega⟩
  rw [if_pos hb, if_neg (by omega), if_neg]
  rw [Bool.not_eq_true, List.any_eq_false]
  intro x hx
  obtain ⟨i, hi, rfl⟩ := List.mem_iff_getElem.1 hx
  have := h3 i hi
  rw [rd47_at hi] at this
  have hg : good l[i] = true := by
    unfold good
    simp only [Bool.and_eq_true, decide_eq_true_eq]
    omega
  rw [hg]; decide
theorem near_l0 (x y : S47) (rest : Int) (h0 : 0 ≤ rest) (h1 : rest ≤ 20) (hx : 0 ≤ x.f0 ∧ x.f0 ≤ 39 ∧ x.f0 < x.f1 ∧ x.f1 ≤ 51) (hy : 0 ≤ y.f0 ∧ y.f0 ≤ 39 ∧ y.f0 < y.f1 ∧ y.f1 ≤ 51) :
    ∀ (m i : Nat), i + m = 80 → (∀ j : Nat, j < i → ¬ (x.f0 ≤ (j : Int) ∧ (j : Int) < x.f1 + rest ∧ y.f0 ≤ (j : Int) ∧ (j : Int) < y.f1 + rest)) → Ev (fun k => pianolalaw03_near.l0 k rest i x.f0 x.f1 y.f0 y.f1) (Cl rest x y)
  | 0, i, h, hj => by
    have hc : Cl rest x y = false := by
      rw [← Bool.not_eq_true, Cl_iff h0 (by omega) (by omega) (by omega) (by omega) (by omega)]
      intro hc
      exact hj (max x.f0 y.f0).toNat (by omega) (by omega)
    rw [hc]
    refine Ev.step (f := fun _ => some false) (fun k => ?_) (Ev.now _)
    rw [pianolalaw03_near.l0, if_neg (by omega)]
  | m + 1, i, h, hj => by
    have e : ∀ k, pianolalaw03_near.l0 (k + 1) rest i x.f0 x.f1 y.f0 y.f1 = if (x.f0 ≤ (i : Int) ∧ (i : Int) < x.f1 + rest ∧ y.f0 ≤ (i : Int) ∧ (i : Int) < y.f1 + rest) then some true else pianolalaw03_near.l0 k rest ((i + 1 : Nat) : Int) x.f0 x.f1 y.f0 y.f1 := fun k => by
      rw [pianolalaw03_near.l0, if_pos (by omega), w_succ i (by omega), show wrap64 (x.f1 + rest) = x.f1 + rest by unfold wrap64; omega, show wrap64 (y.f1 + rest) = y.f1 + rest by unfold wrap64; omega]
      by_cases c1 : x.f0 ≤ (i : Int)
      · rw [if_pos c1]
        by_cases c2 : (i : Int) < x.f1 + rest
        · rw [if_pos c2]
          by_cases c3 : y.f0 ≤ (i : Int)
          · rw [if_pos c3]
            by_cases c4 : (i : Int) < y.f1 + rest
            · rw [if_pos c4, if_pos ⟨c1, c2, c3, c4⟩]
            · rw [if_neg c4, if_neg (fun h => c4 h.2.2.2)]
          · rw [if_neg c3, if_neg (fun h => c3 h.2.2.1)]
        · rw [if_neg c2, if_neg (fun h => c2 h.2.1)]
      · rw [if_neg c1, if_neg (fun h => c1 h.1)]
    by_cases c : (x.f0 ≤ (i : Int) ∧ (i : Int) < x.f1 + rest ∧ y.f0 ≤ (i : Int) ∧ (i : Int) < y.f1 + rest)
    · have hc : Cl rest x y = true := by
        rw [Cl_iff h0 (by omega) (by omega) (by omega) (by omega) (by omega)]
        omega
      rw [hc]
      exact Ev.step (f := fun _ => some true) (fun k => (e k).trans (by rw [if_pos c])) (Ev.now _)
    · refine Ev.step (fun k => (e k).trans (by rw [if_neg c])) (near_l0 x y rest h0 h1 hx hy m (i + 1) (by omega) (fun j hj' => ?_))
      rcases Nat.lt_or_ge j i with h2 | h2
      · exact hj j h2
      · obtain rfl : j = i := by omega
        exact c
theorem near_f {rest : Int} {l : List S47} (h : Small rest l) {i j : Nat} (hi : i < l.length) (hj : j < l.length) : Ev (fun k => pianolalaw03_near.f k (rd_T47 l (i : Int)).f0 (rd_T47 l (i : Int)).f1 (rd_T47 l (j : Int)).f0 (rd_T47 l (j : Int)).f1 rest) (Cl rest (rd_T47 l (i : Int)) (rd_T47 l (j : Int))) := by
  have := near_l0 (rd_T47 l (i : Int)) (rd_T47 l (j : Int)) rest h.1 h.2.1 (h.2.2.2 i hi) (h.2.2.2 j hj) 80 0 (by omega) (fun j hj => by omega)
  simpa [pianolalaw03_near.f] using this
def planN (rest : Int) (l : List S47) (pl : List Int) (n : Nat) : Bool := (List.range n).all (apartB rest l pl)
theorem good_l1 {rest : Int} {l : List S47} (h : Small rest l) (pl : List Int) (hl : pl.length ≤ l.length) {i : Nat} (hi : i < pl.length) {r : Bool}
    (hr : apartB rest l pl i = true → Ev (fun k => pianolalaw03_good.l0 k pl pl.length ((i + 1 : Nat) : Int) rest l) r) (hb : apartB rest l pl i = false → r = false) :
    ∀ (m j : Nat), j + m = i → (∀ k, k < j → rd pl (i : Int) = rd pl (k : Int) → Cl rest (rd_T47 l (i : Int)) (rd_T47 l (k : Int)) = false) → Ev (fun k => pianolalaw03_good.l1 k pl i j pl.length i rest l) r
  | 0, j, hj, hk => by
    obtain rfl : j = i := by omega
    have h40 := h.2.2.1
    refine Ev.step (fun k => ?_) (hr (apartB_iff.2 hk))
    rw [pianolalaw03_good.l1, if_neg (by omega), w_succ j (by omega)]
  | m + 1, j, hj, hk => by
    have h40 := h.2.2.1
    have e : ∀ k, pianolalaw03_good.l1 (k + 1) pl i j pl.length i rest l = if rd pl (i : Int) = rd pl (j : Int) then ((pianolalaw03_near.f k (rd_T47 l (i : Int)).f0 (rd_T47 l (i : Int)).f1 (rd_T47 l (j : Int)).f0 (rd_T47 l (j : Int)).f1 rest).bind fun t => if t = true then some false else pianolalaw03_good.l1 k pl i ((j + 1 : Nat) : Int) pl.length i rest l) else pianolalaw03_good.l1 k pl i ((j + 1 : Nat) : Int) pl.length i rest l := fun k => by
      rw [pianolalaw03_good.l1, if_pos (by omega), if_pos (by omega), if_pos (by omega), if_pos (by omega), if_pos (by omega), w_succ j (by omega)]
      by_cases c : rd pl (i : Int) = rd pl (j : Int)
      · rw [if_pos c, if_pos c, if_pos (by omega), if_pos (by omega)]
      · rw [if_neg c, if_neg c]
    refine Ev.step e ?_
    have rec_ : (rd pl (i : Int) = rd pl (j : Int) → Cl rest (rd_T47 l (i : Int)) (rd_T47 l (j : Int)) = false) → Ev (fun k => pianolalaw03_good.l1 k pl i ((j + 1 : Nat) : Int) pl.length i rest l) r := fun hc =>
      good_l1 h pl hl hi hr hb m (j + 1) (by omega) (fun k hk' ek => by
        rcases Nat.lt_or_ge k j with h2 | h2
        · exact hk k h2 ek
        · obtain rfl : k = j := by omega
          exact hc ek)
    by_cases c : rd pl (i : Int) = rd pl (j : Int)
    · simp only [if_pos c]
      refine Ev.bind (near_f h (show i < l.length by omega) (show j < l.length by omega)) ?_
      cases hc : Cl rest (rd_T47 l (i : Int)) (rd_T47 l (j : Int)) with
      | true =>
        simp only [if_true]
        rw [hb (by rw [← Bool.not_eq_true, apartB_iff]; intro h2; rw [h2 j (by omega) c] at hc; cases hc)]
        exact Ev.now _
      | false =>
        simp only [Bool.false_eq_true, if_false]
        exact rec_ (fun _ => hc)
    · simp only [if_neg c]
      exact rec_ (fun hc => absurd hc c)
theorem good_l0 {rest : Int} {l : List S47} (h : Small rest l) (pl : List Int) (hl : pl.length ≤ l.length) : ∀ (m i : Nat), i + m = pl.length → (∀ k, k < i → apartB rest l pl k = true) → Ev (fun k => pianolalaw03_good.l0 k pl pl.length i rest l) (planN rest l pl pl.length)
  | 0, i, hi, hk => by
    have : planN rest l pl pl.length = true := by
      unfold planN
      rw [List.all_eq_true]
      exact fun k hk' => hk k (by have := List.mem_range.1 hk'; omega)
    rw [this]
    refine Ev.step (f := fun _ => some true) (fun k => ?_) (Ev.now _)
    rw [pianolalaw03_good.l0, if_neg (by omega)]
  | m + 1, i, hi, hk => by
    refine Ev.step (f := fun k => pianolalaw03_good.l1 k pl i 0 pl.length i rest l) (fun k => by rw [pianolalaw03_good.l0, if_pos (by omega)]) ?_
    refine good_l1 h pl hl (by omega) (fun hc => good_l0 h pl hl m (i + 1) (by omega) (fun k hk' => ?_)) (fun hc => ?_) i 0 (by omega) (fun k hk => by omega)
    · rcases Nat.lt_or_ge k i with h2 | h2
      · exact hk k h2
      · obtain rfl : k = i := by omega
        exact hc
    · unfold planN
      rw [← Bool.not_eq_true, List.all_eq_true]
      intro h2
      have := h2 i (List.mem_range.2 (by omega))
      rw [hc] at this; cases this
theorem goodp_f {rest : Int} {l : List S47} (h : Small rest l) (pl : List Int) (hl : pl.length ≤ l.length) : Ev (fun k => pianolalaw03_good.f k rest l pl) (planN rest l pl pl.length) := by
  have := good_l0 h pl hl pl.length 0 (by omega) (fun k hk => by omega)
  simpa [pianolalaw03_good.f] using this
end Go.Proofs.Ytegffliopblajaa.P
end
section
namespace Go.Proofs.Ytegffliopblajaa.P
open Go.RowKit Go.Proofs.YtegffliopblajaaW.PrintWords Go.Proofs.YtegffliopblajaaW.PrintLast Go.Proofs.YtegffliopblajaaW.PrintMore
set_option linter.unusedVariables false
set_option linter.unusedSimpArgs false
theorem rd_nat {xs : List Int} {a : Nat} (h : a < xs.length) : rd xs (a : Int) = xs[a] := by
  unfold rd
  rw [List.getD_eq_getElem?_getD, Int.toNat_natCast, List.getElem?_eq_getElem h]; rfl
end Go.Proofs.Ytegffliopblajaa.P
end
section
namespace Go.Proofs.Ytegffliopblajaa.P
open Go.RowKit Go.Proofs.YtegffliopblajaaW.PrintWords Go.Proofs.YtegffliopblajaaW.PrintLast Go.Proofs.YtegffliopblajaaW.PrintMore
set_option linter.unusedVariables false
set_option linter.unusedSimpArgs false
def Bytes (x : List Int) : Prop := ∀ y ∈ x, 0 ≤ y ∧ y ≤ 255
def pC (x : List Int) (i : Nat) : Int := if i < x.length then rd x (i : Int) % 5 else (i : Int)
def pP (x : List Int) (n : Nat) : List Int := (List.range n).map (pC x)
theorem pP_len (x : List Int) (n : Nat) : (pP x n).length = n := by unfold pP; simp
theorem pP_succ (x : List Int) (n : Nat) : pP x (n + 1) = pP x n ++ [pC x n] := by unfold pP; rw [List.range_succ, List.map_append]; rfl
theorem passN_app (p : List Int) (x : Int) : passN (p ++ [x]) = max (passN p) (x + 1) := by unfold passN; rw [List.foldl_append]; rfl
theorem pC_bd {x : List Int} (hx : Bytes x) {i : Nat} (hi : i < 7) : 0 ≤ pC x i ∧ pC x i ≤ 6 := by
  unfold pC
  split
  · omega
  · omega
theorem crowds_l2 {rest : Int} {l : List S47} (h : Small rest l) {a2 m : Int} {C : List Int} (hC : C = crowdL rest m l) {i ja : Nat} (hi : i < C.length) (hja : ja < l.length) (hb : inB rest m (rd_T47 l (ja : Int)) = true) {r : Bool}
    (hr : Ev (fun k => pianolalaw03_PunchCrowds.l1 k a2 C C C.length ((i + 1 : Nat) : Int) rest l) r) (x17 : Int) (h17 : x17 = (ja : Int)) :
    ∀ (n j : Nat), j + n = i → Ev (fun k => pianolalaw03_PunchCrowds.l2 k a2 C x17 C C.length i (C.take i) (C.take i).length j rest l) r
  | n, j, hj => by
    subst h17
    have hl : (C.take i).length = i := by rw [List.length_take]; omega
    have hc40 : C.length ≤ 40 := by
      rw [hC]
      exact Nat.le_trans (crowdTo_len rest m l l.length) h.2.2.1
    by_cases c : j < i
    · obtain ⟨n, rfl⟩ : ∃ n', n = n' + 1 := ⟨n - 1, by omega⟩
      have hjm : rd (C.take i) (j : Int) ∈ crowdL rest m l := by
        rw [rd_nat (by omega), ← hC]
        exact List.mem_of_mem_take (List.getElem_mem _)
      obtain ⟨jb, hjb, e, hb2⟩ := mem_crowd.1 hjm
      obtain ⟨g0, g1, hg⟩ := chk_good (small_chk h)
      have ga := hg ja hja
      have gb := hg jb hjb
      have hcl : Cl rest (rd_T47 l (ja : Int)) (rd_T47 l (jb : Int)) = true := by
        rw [inB_iff g0 g1 (by omega) ga.2.2] at hb
        rw [inB_iff g0 g1 (by omega) gb.2.2] at hb2
        rw [Cl_iff g0 g1 (by omega) ga.2.2 (by omega) gb.2.2]
        omega
      have hn := near_f h hja hjb
      rw [hcl] at hn
      refine Ev.step (f := fun k => (pianolalaw03_near.f k (rd_T47 l (ja : Int)).f0 (rd_T47 l (ja : Int)).f1 (rd_T47 l (jb : Int)).f0 (rd_T47 l (jb : Int)).f1 rest).bind fun t => if t = true then pianolalaw03_PunchCrowds.l2 k a2 C ja C C.length i (C.take i) (C.take i).length ((j + 1 : Nat) : Int) rest l else some false) (fun k => ?_) ?_
      · rw [pianolalaw03_PunchCrowds.l2, if_pos (by omega), if_pos (by omega), if_pos (by omega), if_pos (by omega), if_pos (by omega), e, if_pos (by omega), if_pos (by omega), w_succ j (by omega)]
      · refine Ev.bind hn ?_
        simp only [if_true]
        exact crowds_l2 h hC hi hja hb hr _ rfl n (j + 1) (by omega)
    · obtain rfl : j = i := by omega
      refine Ev.step (fun k => ?_) hr
      rw [pianolalaw03_PunchCrowds.l2, if_neg (by omega), w_succ j (by omega)]
theorem crowds_l1 {rest : Int} {l : List S47} (h : Small rest l) {a2 : Int} (ha2 : 0 ≤ a2 ∧ a2 ≤ 255) {C : List Int} (hC : C = crowdL rest (a2 % 60) l) :
    ∀ (n i : Nat), i + n = C.length → Ev (fun k => pianolalaw03_PunchCrowds.l1 k a2 C C C.length i rest l) true
  | 0, i, hi => by
    refine Ev.step (f := fun _ => some true) (fun k => ?_) (Ev.now _)
    rw [pianolalaw03_PunchCrowds.l1, if_neg (by omega)]
    rfl
  | n + 1, i, hi => by
    have hc40 : C.length ≤ 40 := by
      rw [hC]
      exact Nat.le_trans (crowdTo_len rest (a2 % 60) l l.length) h.2.2.1
    have him : rd C (i : Int) ∈ crowdL rest (a2 % 60) l := by
      rw [rd_nat (by omega), ← hC]; exact List.getElem_mem _
    obtain ⟨ja, hja, e, hb⟩ := mem_crowd.1 him
    obtain ⟨g0, g1, hg⟩ := chk_good (small_chk h)
    have ga := hg ja hja
    have hb' := hb
    rw [inB_iff g0 g1 (by omega) ga.2.2] at hb'
    have em : Int.tmod (wrap64 a2) 60 = a2 % 60 := by
      rw [show wrap64 a2 = a2 by unfold wrap64; omega, Int.tmod_eq_emod_of_nonneg ha2.1]
    have e2 : wrap64 ((rd_T47 l (ja : Int)).f1 + rest) = (rd_T47 l (ja : Int)).f1 + rest := by unfold wrap64; omega
    have hj3 : Ev (fun k => pianolalaw03_PunchCrowds.j3 k a2 C i ja C C.length i false rest l) true := by
      refine Ev.step (fun k => ?_) (crowds_l2 h hC (i := i) (by omega) hja hb (crowds_l1 h ha2 hC n (i + 1) (by omega)) ja rfl i 0 (by omega))
      rw [pianolalaw03_PunchCrowds.j3, if_neg (by decide), if_pos (by omega), if_pos (by omega), Option.bind_some]
      rfl
    refine Ev.step (fun k => ?_) hj3
    rw [pianolalaw03_PunchCrowds.l1, if_pos (by omega), if_pos (by omega), if_pos (by omega), e, if_neg (by omega), if_neg (by omega), em, e2]
    have ed : decide ((rd_T47 l (ja : Int)).f1 + rest ≤ a2 % 60) = false := decide_eq_false (by omega)
    by_cases c : (i : Int) > 0
    · have hp : rd C (wrap64 ((i : Int) - 1)) < rd C (i : Int) := by
        have ei : wrap64 ((i : Int) - 1) = ((i - 1 : Nat) : Int) := by unfold wrap64; omega
        rw [ei, rd_nat (by omega), rd_nat (by omega)]
        have hpw := crowd_nodup rest (a2 % 60) l
        rw [← hC] at hpw
        exact List.pairwise_iff_getElem.1 hpw (i - 1) i (by omega) (by omega) (by omega)
      rw [if_pos c, if_pos (by unfold wrap64; omega), if_pos (by unfold wrap64; omega), if_neg (by omega), if_pos (by omega), if_pos (by omega), if_neg (by omega), ed]
    · rw [if_neg c, if_pos (by omega), if_pos (by omega), if_neg (by omega), ed]
theorem crowds_end {rest : Int} {l : List S47} (h : Small rest l) (h7 : l.length ≤ 7) {a2 : Int} (ha2 : 0 ≤ a2 ∧ a2 ≤ 255) {x : List Int} (hx : Bytes x) : Ev (fun k => pianolalaw03_PunchCrowds.l0 k x a2 (pP x l.length) (passN (pP x l.length)) l.length l.length rest l) true := by
 have hc := small_chk h
 have em : Int.tmod (wrap64 a2) 60 = a2 % 60 := by
  rw [show wrap64 a2 = a2 by unfold wrap64; omega, Int.tmod_eq_emod_of_nonneg ha2.1]
 have hno : (pP x l.length).any noPass = false := by
  rw [List.any_eq_false]
  intro y hy
  unfold pP at hy
  obtain ⟨i, hi, rfl⟩ := List.mem_map.1 hy
  have hi := List.mem_range.1 hi
  have := pC_bd hx (show i < 7 by omega)
  rw [noPass_iff.2 ⟨this.1, by omega⟩]; decide
 have hp : perr rest l (pP x l.length) = if planN rest l (pP x l.length) l.length = true then 0 else 14 := by
  unfold perr
  rw [if_pos hc, if_pos (pP_len x l.length), if_neg (by rw [hno]; decide)]
  rfl
 have hj : Ev (fun k => pianolalaw03_PunchCrowds.j1 k a2 (crowdL rest (a2 % 60) l) false rest l) true := by
  refine Ev.step (fun k => ?_) (crowds_l1 h ha2 (C := crowdL rest (a2 % 60) l) rfl (crowdL rest (a2 % 60) l).length 0 (by omega))
  rw [pianolalaw03_PunchCrowds.j1, if_neg (by decide)]
  rfl
 have hg := goodp_f h (pP x l.length) (by rw [pP_len]; exact Nat.le_refl _)
 rw [pP_len] at hg
 refine Ev.step (f := fun k => (pianolalaw03_good.f k rest l (pP x l.length)).bind fun t => if (((verR rest l (pP x l.length)).2 == 0) != t) = true then pianolalaw03_PunchCrowds.j1 k a2 (crowdL rest (a2 % 60) l) true rest l else if (verR rest l (pP x l.length)).2 = 0 then (if (verR rest l (pP x l.length)).1 = passN (pP x l.length) then pianolalaw03_PunchCrowds.j1 k a2 (crowdL rest (a2 % 60) l) (decide (((crowdL rest (a2 % 60) l).length : Int) > (verR rest l (pP x l.length)).1)) rest l else pianolalaw03_PunchCrowds.j1 k a2 (crowdL rest (a2 % 60) l) true rest l) else if (verR rest l (pP x l.length)).2 = 14 then pianolalaw03_PunchCrowds.j1 k a2 (crowdL rest (a2 % 60) l) false rest l else pianolalaw03_PunchCrowds.j1 k a2 (crowdL rest (a2 % 60) l) true rest l) (fun k => ?_) ?_
 ·
  rw [pianolalaw03_PunchCrowds.l0, if_neg (by omega), em, Verify_f, Option.bind_some, Crowd_f, Option.bind_some]
  unfold crowdR
  rw [if_pos hc, if_pos rfl]
 ·
  refine Ev.bind hg ?_
  cases hpl : planN rest l (pP x l.length) l.length with
  | true =>
   rw [hpl, if_pos rfl] at hp
   have hv : verR rest l (pP x l.length) = (passN (pP x l.length), 0) := by unfold verR; rw [if_pos hp]
   have hle : ((crowdL rest (a2 % 60) l).length : Int) ≤ passN (pP x l.length) := crowd_le hp _
   have hd : decide (((crowdL rest (a2 % 60) l).length : Int) > passN (pP x l.length)) = false := decide_eq_false (by omega)
   simp only [hv, beq_self_eq_true, bne_self_eq_false, Bool.false_eq_true, if_false, if_true, hd]
   exact hj
  | false =>
   rw [hpl, if_neg (by decide)] at hp
   have hv : verR rest l (pP x l.length) = (0, 14) := by unfold verR; rw [if_neg (by rw [hp]; decide), hp]
   simp only [hv, show ((14 : Int) == 0) = false by decide, bne_self_eq_false, Bool.false_eq_true, if_false, if_true, show ((14 : Int) = 0) = False by simp]
   exact hj
theorem crowds_l0 {rest : Int} {l : List S47} (h : Small rest l) (h7 : l.length ≤ 7) {a2 : Int} (ha2 : 0 ≤ a2 ∧ a2 ≤ 255) {x : List Int} (hx : Bytes x) :
    ∀ (n i : Nat), i + n = l.length → Ev (fun k => pianolalaw03_PunchCrowds.l0 k x a2 (pP x i) (passN (pP x i)) l.length i rest l) true
  | 0, i, hi => by
    obtain rfl : i = l.length := by omega
    exact crowds_end h h7 ha2 hx
  | n + 1, i, hi => by
    refine Ev.step (fun k => ?_) (crowds_l0 h h7 ha2 hx n (i + 1) (by omega))
    have hp := pP_len x i
    rw [pianolalaw03_PunchCrowds.l0, if_pos (by omega), pP_succ, passN_app, w_succ i (by omega)]
    by_cases c : i < x.length
    · have hb := hx (rd x (i : Int)) (by rw [rd_nat c]; exact List.getElem_mem _)
      have ec : Int.tmod (wrap64 (rd x (i : Int))) 5 = pC x i := by
        unfold pC
        rw [if_pos c, show wrap64 (rd x (i : Int)) = rd x (i : Int) by unfold wrap64; omega, Int.tmod_eq_emod_of_nonneg hb.1]
      have hbd := pC_bd hx (show i < 7 by omega)
      rw [if_pos (by omega), if_pos (by omega), if_pos (by omega), ec, mx_max, show wrap64 (pC x i + 1) = pC x i + 1 by unfold wrap64; omega]
    · have ec : pC x i = (i : Int) := by unfold pC; rw [if_neg c]
      rw [if_neg (by omega), if_pos (by omega), ec, mx_max]
      rfl
theorem crowdsLaw_ev (a : Int) (l : List S82) (x : List Int) (a2 : Int) (ha : 0 ≤ a ∧ a ≤ 255) (hu : U8l l) (hx : Bytes x) (ha2 : 0 ≤ a2 ∧ a2 ≤ 255) : Ev (fun k => pianolalaw03_PunchCrowds.f k a l x a2) true := by
  unfold pianolalaw03_PunchCrowds.f
  refine Ev.bind (lane_f a l ha hu) ?_
  exact crowds_l0 (lane_small a l ha hu) (laneS_len l) ha2 hx (laneS l).length 0 (by omega)
end Go.Proofs.Ytegffliopblajaa.P
namespace Go.Proofs.Ytegffliopblajaa.Pure
open P Go.Proofs.YtegffliopblajaaW.PrintWords
theorem u8_of2 {a : Int} (w : (Lit.int .u8 a).wf = true) : 0 ≤ a ∧ a ≤ 255 := by
  have h : IntKind.u8.min ≤ a ∧ a ≤ IntKind.u8.max := by simpa [Lit.wf] using w
  exact ⟨h.1, h.2⟩
theorem PunchCrowds (a : Int) (l : List S82) (x : List Int) (a2 : Int) (wa : (Lit.int .u8 a).wf = true) (wl : ∀ s ∈ l, (Lit.int .u8 s.f0).wf = true ∧ (Lit.int .u8 s.f1).wf = true) (hm : x.length ≤ maxLen) (hy : x.length * 1 ≤ 140737488351232) (hw : ∀ n ∈ x, (Lit.int .u8 n).wf = true) (w2 : (Lit.int .u8 a2).wf = true) : ∃ k, pianolalaw03_PunchCrowds.f k a l x a2 = some true :=
  (crowdsLaw_ev a l x a2 (u8_of2 wa) (fun s hs => ⟨u8_of2 (wl s hs).1, u8_of2 (wl s hs).2⟩) (fun y hy => u8_of2 (hw y hy)) (u8_of2 w2)).rounds
end Go.Proofs.Ytegffliopblajaa.Pure
end
