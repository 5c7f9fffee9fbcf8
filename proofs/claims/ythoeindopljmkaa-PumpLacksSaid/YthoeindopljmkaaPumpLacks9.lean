/- Words and contracts for a claim. -/
import Derived.Test.YthoeindopljmkaaPumpLacks8

section
namespace Go.Proofs.Ythoeindopljmkaa.P
open Go.RowKit Go.Proofs.YthoeindopljmkaaW.PrintWords Go.Proofs.YthoeindopljmkaaW.PrintLast Go.Proofs.YthoeindopljmkaaW.PrintMore
attribute [local go_sem] max2_int min2_int max_two min_two max_three min_three max_four min_four
set_option linter.unusedVariables false
set_option linter.unusedSimpArgs false
mutual
def pianolalaw04_PumpLacks.j0 : Nat → Bool → List (List (S71)) → List (List (S71)) → List (List Int) → List (List Int) → Option (Bool)
  | 0, _, _, _, _, _ => none
  | k + 1, x32, x453000, x453001, x454000, x454001 => if x32 = true then ((pianolalaw04_works.f).bind fun t456 => (some t456)) else ((some (([] : List (List Int)) : List (List Int))).bind fun y457 => (if y457.length + x454000.length < 5864062014805 then ((some (y457 ++ x454000 : List (List Int))).bind fun y460 => (if y460.length + x454001.length < 5864062014805 then (pianolalaw04_PumpLacks.l0 k (y460 ++ x454001) 0 x453000 x453001 x454000 x454001) else (none))) else (none)))
def pianolalaw04_PumpLacks.l0 : Nat → List (List Int) → Int → List (List (S71)) → List (List (S71)) → List (List Int) → List (List Int) → Option (Bool)
  | 0, _, _, _, _, _, _ => none
  | k + 1, x5, x6, x453000, x453001, x454000, x454001 => if x6 < (x5.length : Int) then (if 0 ≤ x6 then (if ((rd_L6 x5 x6).length : Int) > 60 then (if ((rd_L6 x5 x6).length : Int) ≤ 400 then ((pianolalaw04_works.f).bind fun t468 => (some t468)) else (if ((rd_L6 x5 x6).length : Int) > 500 then ((pianolalaw04_works.f).bind fun t470 => (some t470)) else (pianolalaw04_PumpLacks.l0 k x5 (wrap64 (x6 + 1)) x453000 x453001 x454000 x454001))) else (if ((rd_L6 x5 x6).length : Int) > 500 then ((pianolalaw04_works.f).bind fun t472 => (some t472)) else (pianolalaw04_PumpLacks.l0 k x5 (wrap64 (x6 + 1)) x453000 x453001 x454000 x454001))) else (none)) else ((pump_LacksG.f x453000 x453001 x454000 x454001).bind fun bt473 => ((pianolalaw04_plant.f k x453000 x453001).bind fun bt480 => ((pianolaref04_Lacks.f k bt480.1 bt480.2 x454000 x454001).bind fun bt486 => ((pianolalaw04_numbers.f k bt473.1 bt486.1).bind fun t493 => (if t493 = true then ((pianolalaw04_numbers.f k bt473.2.1 bt486.2.1).bind fun t494 => (if t494 = true then (if bt473.2.2 = bt486.2.2 then ((pianolalaw04_works.f).bind fun t495 => (some t495)) else (some false)) else (some false))) else (some false))))))
end
def pianolalaw04_PumpLacks.f (k : Nat) (l0_0 : List (List (S71))) (l0_1 : List (List (S71))) (l1_0 : List (List Int)) (l1_1 : List (List Int)) : Option (Bool) := (pianolalaw04_long.f k l0_0).bind fun t454 => (if t454 = true then (pianolalaw04_PumpLacks.j0 k true l0_0 l0_1 l1_0 l1_1) else ((pianolalaw04_long.f k l0_1).bind fun t455 => (if t455 = true then (pianolalaw04_PumpLacks.j0 k true l0_0 l0_1 l1_0 l1_1) else (if (l1_0.length : Int) > 10 then (pianolalaw04_PumpLacks.j0 k true l0_0 l0_1 l1_0 l1_1) else (pianolalaw04_PumpLacks.j0 k (decide ((l1_1.length : Int) > 10)) l0_0 l0_1 l1_0 l1_1)))))
def pianolalaw04_PumpLacks.T3 : Bool × List (List Nat × List Nat) := (true, [([], []), ([], []), ([1], [1]), ([0, 2], [0, 2]), ([], []), ([4], [4]), ([3, 5, 3], [3, 5]), ([6, 6, 0, 1, 2, 3, 4, 5, 6], [6])])
def pianolalaw04_PumpLacks.B3 : List Nat := [0, 0, 2, 7, 0, 16, 63, 127]
theorem pianolalaw04_PumpLacks.tab3 : rtab .any (opsOf Try.f6 3) = pianolalaw04_PumpLacks.T3 := by kernel_rfl
theorem pianolalaw04_PumpLacks.bits3 : waitsOk pianolalaw04_PumpLacks.T3.2 pianolalaw04_PumpLacks.B3 = true := by kernel_rfl
def pianolalaw04_PumpLacks.T10 : Bool × List (List Nat × List Nat) := (true, [([], []), ([0], [0]), ([], []), ([1, 2, 1], [1, 2]), ([3], [3]), ([4], [4]), ([4], [4]), ([4], [4]), ([5, 3, 0, 1, 2, 3, 4, 5], [5]), ([6, 8, 0, 1, 2, 3, 4, 5, 6, 8], [6]), ([7, 9, 0, 1, 2, 3, 4, 5, 6, 7, 8, 9], [7])])
def pianolalaw04_PumpLacks.B10 : List Nat := [0, 1, 0, 7, 15, 31, 31, 31, 63, 383, 1023]
theorem pianolalaw04_PumpLacks.tab10 : rtab .any (opsOf Try.f6 10) = pianolalaw04_PumpLacks.T10 := by kernel_rfl
theorem pianolalaw04_PumpLacks.bits10 : waitsOk pianolalaw04_PumpLacks.T10.2 pianolalaw04_PumpLacks.B10 = true := by kernel_rfl
set_option maxHeartbeats 8000000 in
set_option maxRecDepth 100000 in
theorem pianolalaw04_PumpLacks.calls (k : Nat) (A0_0 : Option Addr) (c0_0 : Nat) (l0_0 : List (List (S71))) (A0_1 : Option Addr) (c0_1 : Nat) (l0_1 : List (List (S71))) (P1_0_ : Nat → Prop) (A1_0 : Option Addr) (c1_0 : Nat) (l1_0 : List (List Int)) (P1_1_ : Nat → Prop) (A1_1 : Option Addr) (c1_1 : Nat) (l1_1 : List (List Int)) (r : Bool) (hrt : r = true) (w : World) (hr0_0 : Kd.C (Kd.slice 71 k71) w A0_0 l0_0.length l0_0) (hc0_0 : l0_0.length ≤ c0_0) (hr0_1 : Kd.C (Kd.slice 71 k71) w A0_1 l0_1.length l0_1) (hc0_1 : l0_1.length ≤ c0_1) (hs1_0 : Kd.V (Kd.slice 3 (Kd.int .i64)) 30 w w.heap.size (fun k_ => P1_0_ k_) (.slice A1_0 l1_0.length c1_0) l1_0) (hs1_1 : Kd.V (Kd.slice 3 (Kd.int .i64)) 30 w w.heap.size (fun k_ => P1_1_ k_) (.slice A1_1 l1_1.length c1_1) l1_1) (h : pianolalaw04_PumpLacks.f k l0_0 l0_1 l1_0 l1_1 = some r) :
  Calls Try.prog 6 #[.agg #[.slice A0_0 l0_0.length c0_0, .slice A0_1 l0_1.length c0_1], .agg #[.slice A1_0 l1_0.length c1_0, .slice A1_1 l1_1.length c1_1]] w fun e w' => e = .returned (.bool r) ∧ Below w.heap.size w w' := by
 have HRT := zA hrt
 clear hrt
 have hu40 := Try.underlying40
 have hu56 := Try.underlying56
 have HR0_0 := zA hr0_0
 have HC0_0 := zA hc0_0
 clear hr0_0 hc0_0
 have HR0_1 := zA hr0_1
 have HC0_1 := zA hc0_1
 clear hr0_1 hc0_1
 have HO1_0 := zA (show Kd.V (Kd.slice 3 (Kd.int .i64)) 30 w w.heap.size (fun k_ => ((P1_0_ k_ ∨ P1_1_ k_) ∨ w.heap.size ≤ k_)) (.slice A1_0 l1_0.length c1_0) l1_0 from Kd.V_mono hs1_0 (fun k_ hk => .inl (.inl hk)))
 have HO1_1 := zA (show Kd.V (Kd.slice 3 (Kd.int .i64)) 30 w w.heap.size (fun k_ => ((P1_0_ k_ ∨ P1_1_ k_) ∨ w.heap.size ≤ k_)) (.slice A1_1 l1_1.length c1_1) l1_1 from Kd.V_mono hs1_1 (fun k_ hk => .inl (.inr hk)))
 have HB := zA (Below.refl w.heap.size w)
 have H : ((pianolalaw04_long.f k l0_0).bind fun t454 => (if t454 = true then (pianolalaw04_PumpLacks.j0 k true l0_0 l0_1 l1_0 l1_1) else ((pianolalaw04_long.f k l0_1).bind fun t455 => (if t455 = true then (pianolalaw04_PumpLacks.j0 k true l0_0 l0_1 l1_0 l1_1) else (if (l1_0.length : Int) > 10 then (pianolalaw04_PumpLacks.j0 k true l0_0 l0_1 l1_0 l1_1) else (pianolalaw04_PumpLacks.j0 k (decide ((l1_1.length : Int) > 10)) l0_0 l0_1 l1_0 l1_1)))))) = some r := h
 clear h
 have HC3 := zA H
 clear H
 go_enter Try.func6, Try.ntmps6
 go_upto_region 1 with (first | ((with_reducible refine gate_dst (N := 2) rfl ?_); (try (refine gate_guard (by rfl) ?_; dsimp only)); refine box_event ?hg (N := 2) ?hd (cs := #[.slice A0_0 l0_0.length c0_0, .slice A0_1 l0_1.length c0_1]) (t := 40) ?hr ?_; (case hd => rfl); (case hg => rfl); (case hr => first | (go_simp; done) | (go_simp; rfl)); intro gb452 hg w4 hbox hb; have n0_ := zA (Kd.V_below (Kd.V_elderB (by (with_reducible repeat (first | apply Kd.V_alloc | apply Kd.V_drewN | apply Kd.V_drew)); exact HO1_0.out) gb452 (Nat.le_of_eq hg.symm)) hb); have n1_ := zA (Kd.V_below (Kd.V_elderB (by (with_reducible repeat (first | apply Kd.V_alloc | apply Kd.V_drewN | apply Kd.V_drew)); exact HO1_1.out) gb452 (Nat.le_of_eq hg.symm)) hb); have n2_ := zA (below_step (zqA HB.out) hb); have n3_ := zA (hbox); have n4_ := zA ((by rw [hg]; exact (below_size (zqA HB.out)) : w.heap.size ≤ gb452)); have n5_ := zA ((by rw [hg]; exact (below_size (zqA HB.out)) : w.heap.size ≤ gb452)); clear HO1_0; clear HO1_1; clear HB; have HO1_0 := n0_; have HO1_1 := n1_; have HB := n2_; have BK452 := n3_; have GW452 := n4_; have GE452 := n5_; clear n0_ n1_ n2_ n3_ n4_ n5_; clear hb hbox hg) | ((with_reducible refine gate_dst (N := 3) rfl ?_); (try (refine gate_guard (by rfl) ?_; dsimp only)); refine box_event ?hg (N := 3) ?hd (cs := #[.slice A1_0 l1_0.length c1_0, .slice A1_1 l1_1.length c1_1]) (t := 56) ?hr ?_; (case hd => rfl); (case hg => rfl); (case hr => first | (go_simp; done) | (go_simp; rfl)); intro gb453 hg w5 hbox hb; have n0_ := zA (Kd.V_below (Kd.V_elderB (by (with_reducible repeat (first | apply Kd.V_alloc | apply Kd.V_drewN | apply Kd.V_drew)); exact HO1_0.out) gb453 (Nat.le_of_eq hg.symm)) hb); have n1_ := zA (Kd.V_below (Kd.V_elderB (by (with_reducible repeat (first | apply Kd.V_alloc | apply Kd.V_drewN | apply Kd.V_drew)); exact HO1_1.out) gb453 (Nat.le_of_eq hg.symm)) hb); have n2_ := zA (blk_below (g := gb452) (o := .cells #[.slice A0_0 l0_0.length c0_0, .slice A0_1 l0_1.length c0_1] 40 (0, 0)) (zqB BK452.out) hb); have n3_ := zA (below_step (zqG HB.out GE452.out) hb); have n4_ := zA (hbox); have n5_ := zA ((by rw [hg]; exact (below_size (zqG HB.out GE452.out)) : w.heap.size ≤ gb453)); have n6_ := zA ((by rw [hg]; exact (below_size (zqG HB.out GE452.out)) : w.heap.size ≤ gb453)); have n7_ := zA ((by rw [hg]; exact Nat.ne_of_lt (blk_lt (g := gb452) (o := .cells #[.slice A0_0 l0_0.length c0_0, .slice A0_1 l0_1.length c0_1] 40 (0, 0)) (zqB BK452.out)) : gb452 ≠ gb453)); have n8_ := zA ((by rw [hg]; exact Nat.ne_of_gt (blk_lt (g := gb452) (o := .cells #[.slice A0_0 l0_0.length c0_0, .slice A0_1 l0_1.length c0_1] 40 (0, 0)) (zqB BK452.out)) : gb453 ≠ gb452)); clear HO1_0; clear HO1_1; clear BK452; clear HB; have HO1_0 := n0_; have HO1_1 := n1_; have BK452 := n2_; have HB := n3_; have BK453 := n4_; have GW453 := n5_; have GE453 := n6_; have NB452_453 := n7_; have NB453_452 := n8_; clear n0_ n1_ n2_ n3_ n4_ n5_ n6_ n7_ n8_; clear hb hbox hg))
 (try simp only [Act.put, List.setIfInBounds_toArray, List.set_cons_zero, List.set_cons_succ])
 go_cut [32] (fun v32 wc => ∃ (kq : Nat) (x32_2 : Bool), v32 = .bool x32_2 ∧ Aside0 (pianolalaw04_PumpLacks.j0 kq x32_2 l0_0 l0_1 l1_0 l1_1 = some r) ∧ Aside0 (kq ≤ k) ∧ Aside0 (Kd.V (Kd.slice 3 (Kd.int .i64)) 30 wc w.heap.size (fun k_ => ((P1_0_ k_ ∨ P1_1_ k_) ∨ w.heap.size ≤ k_) ∧ k_ ≠ gb452 ∧ k_ ≠ gb453) (.slice A1_0 l1_0.length c1_0) l1_0) ∧ Aside0 (Kd.V (Kd.slice 3 (Kd.int .i64)) 30 wc w.heap.size (fun k_ => ((P1_0_ k_ ∨ P1_1_ k_) ∨ w.heap.size ≤ k_) ∧ k_ ≠ gb452 ∧ k_ ≠ gb453) (.slice A1_1 l1_1.length c1_1) l1_1) ∧ Aside0 (wc.heap[gb452]? = some (.cells #[(.slice A0_0 l0_0.length c0_0), (.slice A0_1 l0_1.length c0_1)] 40 (0, 0))) ∧ Aside0 (wc.heap[gb453]? = some (.cells #[(.slice A1_0 l1_0.length c1_0), (.slice A1_1 l1_1.length c1_1)] 56 (0, 0))) ∧ Aside0 (Below w.heap.size w wc))
 case first =>
  have H := HC3.out
  clear HC3
  replace H := Option.bind_eq_some_iff.mp H
  obtain ⟨t454, A60, H⟩ := H
  replace H : (if t454 = true then (pianolalaw04_PumpLacks.j0 k true l0_0 l0_1 l1_0 l1_1) else ((pianolalaw04_long.f k l0_1).bind fun t455 => (if t455 = true then (pianolalaw04_PumpLacks.j0 k true l0_0 l0_1 l1_0 l1_1) else (if (l1_0.length : Int) > 10 then (pianolalaw04_PumpLacks.j0 k true l0_0 l0_1 l1_0 l1_1) else (pianolalaw04_PumpLacks.j0 k (decide ((l1_1.length : Int) > 10)) l0_0 l0_1 l1_0 l1_1))))) = some r := H
  have A6 := zA A60
  clear A60
  by_cases c7 : t454 = true
  ·
   subst c7
   have H1 : (pianolalaw04_PumpLacks.j0 k true l0_0 l0_1 l1_0 l1_1) = some r := by rw [if_pos rfl] at H; exact H
   clear H; have H := H1; clear H1
   have H' := zA H
   clear H
   have hnb8 := NB452_453.out
   have hnc8 := NB453_452.out
   have hcz9_0 : w5.cell? ⟨gb452, 0, none⟩ = some (.slice A0_0 l0_0.length c0_0) := (blk_cell BK452.out 0).trans rfl
   have hcz9_1 : w5.cell? ⟨gb452, 1, none⟩ = some (.slice A0_1 l0_1.length c0_1) := (blk_cell BK452.out 1).trans rfl
   have hfz9_0 := blk_frozen BK452.out 0
   have hfz9_1 := blk_frozen BK452.out 1
   go_wp2_with (first | ((with_reducible refine gate_callee (f := 26) rfl ?_); refine goesL_ (some 15) rfl rfl Try.func26 (by kernel_rfl) rfl #[.slice A0_0 l0_0.length c0_0] rfl zqE ?_; (with_reducible refine (pianolalaw04_long.calls k _ _ l0_0 true _ ?side1 ?side2 A6.out).mono ?_); (case side1 => exact zqK (Kd.C_below HR0_0.out HB.out)); (case side2 => exact HC0_0.out); rintro e w' ⟨rfl, ⟨nd, rfl⟩⟩; refine ⟨_, rfl, ?_⟩))
   go_meet
   case rel => exact ⟨_, (true), zqQ, H', ⟨by first | omega | exact Nat.le_refl _⟩, ⟨by (with_reducible repeat (first | apply Kd.V_alloc | apply Kd.V_drewN | apply Kd.V_drew)); exact Kd.V_mono HO1_0.out (fun _ hk => ⟨hk.1.1, ⟨hk.1.2, hk.2⟩⟩)⟩, ⟨by (with_reducible repeat (first | apply Kd.V_alloc | apply Kd.V_drewN | apply Kd.V_drew)); exact Kd.V_mono HO1_1.out (fun _ hk => ⟨hk.1.1, ⟨hk.1.2, hk.2⟩⟩)⟩, ⟨zqB BK452.out⟩, ⟨zqB BK453.out⟩, ⟨zqH HB.out GE452.out GE453.out⟩⟩
  ·
   replace c7 := Bool.eq_false_iff.mpr c7
   subst c7
   have H1 : ((pianolalaw04_long.f k l0_1).bind fun t455 => (if t455 = true then (pianolalaw04_PumpLacks.j0 k true l0_0 l0_1 l1_0 l1_1) else (if (l1_0.length : Int) > 10 then (pianolalaw04_PumpLacks.j0 k true l0_0 l0_1 l1_0 l1_1) else (pianolalaw04_PumpLacks.j0 k (decide ((l1_1.length : Int) > 10)) l0_0 l0_1 l1_0 l1_1)))) = some r := by rw [if_neg (show ¬ (false = true) by decide)] at H; exact H
   clear H; have H := H1; clear H1
   replace H := Option.bind_eq_some_iff.mp H
   obtain ⟨t455, A100, H⟩ := H
   replace H : (if t455 = true then (pianolalaw04_PumpLacks.j0 k true l0_0 l0_1 l1_0 l1_1) else (if (l1_0.length : Int) > 10 then (pianolalaw04_PumpLacks.j0 k true l0_0 l0_1 l1_0 l1_1) else (pianolalaw04_PumpLacks.j0 k (decide ((l1_1.length : Int) > 10)) l0_0 l0_1 l1_0 l1_1))) = some r := H
   have A10 := zA A100
   clear A100
   by_cases c11 : t455 = true
   ·
    subst c11
    have H1 : (pianolalaw04_PumpLacks.j0 k true l0_0 l0_1 l1_0 l1_1) = some r := by rw [if_pos rfl] at H; exact H
    clear H; have H := H1; clear H1
    have H' := zA H
    clear H
    have hnb12 := NB452_453.out
    have hnc12 := NB453_452.out
    have hcz13_0 : w5.cell? ⟨gb452, 0, none⟩ = some (.slice A0_0 l0_0.length c0_0) := (blk_cell BK452.out 0).trans rfl
    have hcz13_1 : w5.cell? ⟨gb452, 1, none⟩ = some (.slice A0_1 l0_1.length c0_1) := (blk_cell BK452.out 1).trans rfl
    have hfz13_0 := blk_frozen BK452.out 0
    have hfz13_1 := blk_frozen BK452.out 1
    go_wp2_with (first | ((with_reducible refine gate_callee (f := 26) rfl ?_); refine goesL_ (some 15) rfl rfl Try.func26 (by kernel_rfl) rfl #[.slice A0_0 l0_0.length c0_0] rfl zqE ?_; (with_reducible refine (pianolalaw04_long.calls k _ _ l0_0 false _ ?side1 ?side2 A6.out).mono ?_); (case side1 => exact zqK (Kd.C_below HR0_0.out HB.out)); (case side2 => exact HC0_0.out); rintro e w' ⟨rfl, ⟨nd, rfl⟩⟩; refine ⟨_, rfl, ?_⟩) | (go_at_call 26; (with_reducible refine (pianolalaw04_long.calls k _ _ l0_1 true _ ?side1 ?side2 A10.out).mono ?_); (case side1 => repeat (first | exact (Kd.C_below HR0_1.out (zqH HB.out GE452.out GE453.out)) | (with_reducible refine Kd.C_alloc ?_ _) | (with_reducible refine Kd.C_drewN ?_ _) | (with_reducible refine Kd.C_drew ?_))); (case side2 => exact HC0_1.out); rintro e w' ⟨rfl, ⟨nd, rfl⟩⟩))
    go_meet
    case rel => exact ⟨_, (true), zqQ, H', ⟨by first | omega | exact Nat.le_refl _⟩, ⟨by (with_reducible repeat (first | apply Kd.V_alloc | apply Kd.V_drewN | apply Kd.V_drew)); exact Kd.V_mono HO1_0.out (fun _ hk => ⟨hk.1.1, ⟨hk.1.2, hk.2⟩⟩)⟩, ⟨by (with_reducible repeat (first | apply Kd.V_alloc | apply Kd.V_drewN | apply Kd.V_drew)); exact Kd.V_mono HO1_1.out (fun _ hk => ⟨hk.1.1, ⟨hk.1.2, hk.2⟩⟩)⟩, ⟨zqB BK452.out⟩, ⟨zqB BK453.out⟩, ⟨zqH HB.out GE452.out GE453.out⟩⟩
   ·
    replace c11 := Bool.eq_false_iff.mpr c11
    subst c11
    have H1 : (if (l1_0.length : Int) > 10 then (pianolalaw04_PumpLacks.j0 k true l0_0 l0_1 l1_0 l1_1) else (pianolalaw04_PumpLacks.j0 k (decide ((l1_1.length : Int) > 10)) l0_0 l0_1 l1_0 l1_1)) = some r := by rw [if_neg (show ¬ (false = true) by decide)] at H; exact H
    clear H; have H := H1; clear H1
    by_cases c14 : (l1_0.length : Int) > 10
    ·
     rw [if_pos c14] at H
     have c14b0 : decide (10 < (l1_0.length : Int)) = true := decide_eq_true c14
     have c14b1 : decide (10 < l1_0.length) = true := decide_eq_true (by omega)
     clear c14
     (first | rw [c14b0] | rw [c14b1] | (simp only [i64_w, i32_w]; rw [c14b0]) | skip)
     have H' := zA H
     clear H
     have hnb15 := NB452_453.out
     have hnc15 := NB453_452.out
     have hcz16_0 : w5.cell? ⟨gb452, 0, none⟩ = some (.slice A0_0 l0_0.length c0_0) := (blk_cell BK452.out 0).trans rfl
     have hcz16_1 : w5.cell? ⟨gb452, 1, none⟩ = some (.slice A0_1 l0_1.length c0_1) := (blk_cell BK452.out 1).trans rfl
     have hfz16_0 := blk_frozen BK452.out 0
     have hfz16_1 := blk_frozen BK452.out 1
     go_wp2_with (first | ((with_reducible refine gate_callee (f := 26) rfl ?_); refine goesL_ (some 15) rfl rfl Try.func26 (by kernel_rfl) rfl #[.slice A0_0 l0_0.length c0_0] rfl zqE ?_; (with_reducible refine (pianolalaw04_long.calls k _ _ l0_0 false _ ?side1 ?side2 A6.out).mono ?_); (case side1 => exact zqK (Kd.C_below HR0_0.out HB.out)); (case side2 => exact HC0_0.out); rintro e w' ⟨rfl, ⟨nd, rfl⟩⟩; refine ⟨_, rfl, ?_⟩) | (go_at_call 26; (with_reducible refine (pianolalaw04_long.calls k _ _ l0_1 false _ ?side1 ?side2 A10.out).mono ?_); (case side1 => repeat (first | exact (Kd.C_below HR0_1.out (zqH HB.out GE452.out GE453.out)) | (with_reducible refine Kd.C_alloc ?_ _) | (with_reducible refine Kd.C_drewN ?_ _) | (with_reducible refine Kd.C_drew ?_))); (case side2 => exact HC0_1.out); rintro e w' ⟨rfl, ⟨nd, rfl⟩⟩; have hcz17_0 : w5.cell? ⟨gb453, 0, none⟩ = some (.slice A1_0 l1_0.length c1_0) := (blk_cell BK453.out 0).trans rfl; have hcz17_1 : w5.cell? ⟨gb453, 1, none⟩ = some (.slice A1_1 l1_1.length c1_1) := (blk_cell BK453.out 1).trans rfl; have hfz17_0 := blk_frozen BK453.out 0; have hfz17_1 := blk_frozen BK453.out 1))
     go_meet
     case rel => exact ⟨_, (true), zqQ, H', ⟨by first | omega | exact Nat.le_refl _⟩, ⟨by (with_reducible repeat (first | apply Kd.V_alloc | apply Kd.V_drewN | apply Kd.V_drew)); exact Kd.V_mono HO1_0.out (fun _ hk => ⟨hk.1.1, ⟨hk.1.2, hk.2⟩⟩)⟩, ⟨by (with_reducible repeat (first | apply Kd.V_alloc | apply Kd.V_drewN | apply Kd.V_drew)); exact Kd.V_mono HO1_1.out (fun _ hk => ⟨hk.1.1, ⟨hk.1.2, hk.2⟩⟩)⟩, ⟨zqB BK452.out⟩, ⟨zqB BK453.out⟩, ⟨zqH HB.out GE452.out GE453.out⟩⟩
    ·
     rw [if_neg c14] at H
     have c14b0 : decide (10 < (l1_0.length : Int)) = false := decide_eq_false c14
     have c14b1 : decide (10 < l1_0.length) = false := decide_eq_false (by omega)
     clear c14
     (first | rw [c14b0] | rw [c14b1] | (simp only [i64_w, i32_w]; rw [c14b0]) | skip)
     have H' := zA H
     clear H
     have hnb18 := NB452_453.out
     have hnc18 := NB453_452.out
     have hcz19_0 : w5.cell? ⟨gb452, 0, none⟩ = some (.slice A0_0 l0_0.length c0_0) := (blk_cell BK452.out 0).trans rfl
     have hcz19_1 : w5.cell? ⟨gb452, 1, none⟩ = some (.slice A0_1 l0_1.length c0_1) := (blk_cell BK452.out 1).trans rfl
     have hfz19_0 := blk_frozen BK452.out 0
     have hfz19_1 := blk_frozen BK452.out 1
     go_wp2_with (first | ((with_reducible refine gate_callee (f := 26) rfl ?_); refine goesL_ (some 15) rfl rfl Try.func26 (by kernel_rfl) rfl #[.slice A0_0 l0_0.length c0_0] rfl zqE ?_; (with_reducible refine (pianolalaw04_long.calls k _ _ l0_0 false _ ?side1 ?side2 A6.out).mono ?_); (case side1 => exact zqK (Kd.C_below HR0_0.out HB.out)); (case side2 => exact HC0_0.out); rintro e w' ⟨rfl, ⟨nd, rfl⟩⟩; refine ⟨_, rfl, ?_⟩) | (go_at_call 26; (with_reducible refine (pianolalaw04_long.calls k _ _ l0_1 false _ ?side1 ?side2 A10.out).mono ?_); (case side1 => repeat (first | exact (Kd.C_below HR0_1.out (zqH HB.out GE452.out GE453.out)) | (with_reducible refine Kd.C_alloc ?_ _) | (with_reducible refine Kd.C_drewN ?_ _) | (with_reducible refine Kd.C_drew ?_))); (case side2 => exact HC0_1.out); rintro e w' ⟨rfl, ⟨nd, rfl⟩⟩; have hcz20_0 : w5.cell? ⟨gb453, 0, none⟩ = some (.slice A1_0 l1_0.length c1_0) := (blk_cell BK453.out 0).trans rfl; have hcz20_1 : w5.cell? ⟨gb453, 1, none⟩ = some (.slice A1_1 l1_1.length c1_1) := (blk_cell BK453.out 1).trans rfl; have hfz20_0 := blk_frozen BK453.out 0; have hfz20_1 := blk_frozen BK453.out 1))
     go_meet
     case rel => exact ⟨_, (decide ((l1_1.length : Int) > 10)), zqQ, H', ⟨by first | omega | exact Nat.le_refl _⟩, ⟨by (with_reducible repeat (first | apply Kd.V_alloc | apply Kd.V_drewN | apply Kd.V_drew)); exact Kd.V_mono HO1_0.out (fun _ hk => ⟨hk.1.1, ⟨hk.1.2, hk.2⟩⟩)⟩, ⟨by (with_reducible repeat (first | apply Kd.V_alloc | apply Kd.V_drewN | apply Kd.V_drew)); exact Kd.V_mono HO1_1.out (fun _ hk => ⟨hk.1.1, ⟨hk.1.2, hk.2⟩⟩)⟩, ⟨zqB BK452.out⟩, ⟨zqB BK453.out⟩, ⟨zqH HB.out GE452.out GE453.out⟩⟩
 case rest =>
  clear HC3
  try clear c1
  try clear c2
  try clear p2
  try clear c6
  try clear c7
  try clear c8
  try clear c11
  try clear c12
  try clear c14
  try clear c14b0
  try clear c14b1
  try clear c15
  try clear c18
  try clear hcz13_0
  try clear hcz13_1
  try clear hcz16_0
  try clear hcz16_1
  try clear hcz17_0
  try clear hcz17_1
  try clear hcz19_0
  try clear hcz19_1
  try clear hcz20_0
  try clear hcz20_1
  try clear hcz9_0
  try clear hcz9_1
  try clear hfz13_0
  try clear hfz13_1
  try clear hfz16_0
  try clear hfz16_1
  try clear hfz17_0
  try clear hfz17_1
  try clear hfz19_0
  try clear hfz19_1
  try clear hfz20_0
  try clear hfz20_1
  try clear hfz9_0
  try clear hfz9_1
  obtain ⟨kq, x32_2, rfl, HA, HJ2, HO_454000, HO_454001, BK452, BK453, HB⟩ := hcut
  cases kq with
  | zero => exact absurd HA.out (by simp [pianolalaw04_PumpLacks.j0])
  | succ kj2 =>
   have H := HA.out
   clear HA
   simp only [pianolalaw04_PumpLacks.j0] at H
   by_cases c21 : x32_2 = true
   ·
    subst c21
    have H1 : ((pianolalaw04_works.f).bind fun t456 => (some t456)) = some r := by rw [if_pos rfl] at H; exact H
    clear H; have H := H1; clear H1
    replace H := Option.bind_eq_some_iff.mp H
    obtain ⟨t456, A220, H⟩ := H
    replace H : (some t456) = some r := H
    have A22 := zA A220
    clear A220
    obtain rfl := Option.some.inj H
    go_wp2_with (first | ((with_reducible refine gate_callee (f := 15) rfl ?_); refine goesL_ (some 33) rfl rfl Try.func15 (by kernel_rfl) rfl #[] rfl zqE ?_; (with_reducible refine (pianolalaw04_works.calls  t456 _ A22.out).mono ?_); rintro e w23 ⟨rfl, hb⟩; refine ⟨_, rfl, ?_⟩; have n0_ := zA (Kd.V_below (by (with_reducible repeat (first | apply Kd.V_alloc | apply Kd.V_drewN | apply Kd.V_drew)); exact HO_454000.out) hb); have n1_ := zA (Kd.V_below (by (with_reducible repeat (first | apply Kd.V_alloc | apply Kd.V_drewN | apply Kd.V_drew)); exact HO_454001.out) hb); have n2_ := zA (blk_below (g := gb452) (o := .cells #[.slice A0_0 l0_0.length c0_0, .slice A0_1 l0_1.length c0_1] 40 (0, 0)) (zqB BK452.out) hb); have n3_ := zA (blk_below (g := gb453) (o := .cells #[.slice A1_0 l1_0.length c1_0, .slice A1_1 l1_1.length c1_1] 56 (0, 0)) (zqB BK453.out) hb); have n4_ := zA (below_step (zqH HB.out GE452.out GE453.out) hb); clear HO_454000; clear HO_454001; clear BK452; clear BK453; clear HB; have HO_454000 := n0_; have HO_454001 := n1_; have BK452 := n2_; have BK453 := n3_; have HB := n4_; clear n0_ n1_ n2_ n3_ n4_; (try clear hb); (try clear hb2); (try clear hk); (try clear hi)))
    go_ret
    exact ⟨zqR, zqH HB.out GE452.out GE453.out⟩
   ·
    replace c21 := Bool.eq_false_iff.mpr c21
    subst c21
    have H1 : ((some (([] : List (List Int)) : List (List Int))).bind fun y457 => (if y457.length + l1_0.length < 5864062014805 then ((some (y457 ++ l1_0 : List (List Int))).bind fun y460 => (if y460.length + l1_1.length < 5864062014805 then (pianolalaw04_PumpLacks.l0 kj2 (y460 ++ l1_1) 0 l0_0 l0_1 l1_0 l1_1) else (none))) else (none))) = some r := by rw [if_neg (show ¬ (false = true) by decide)] at H; exact H
    clear H; have H := H1; clear H1
    obtain ⟨y457, hy457⟩ : ∃ y_ : List (List Int), y_ = (([] : List (List Int))) := ⟨_, rfl⟩
    replace H : (if y457.length + l1_0.length < 5864062014805 then ((some (y457 ++ l1_0 : List (List Int))).bind fun y460 => (if y460.length + l1_1.length < 5864062014805 then (pianolalaw04_PumpLacks.l0 kj2 (y460 ++ l1_1) 0 l0_0 l0_1 l1_0 l1_1) else (none))) else (none)) = some r := zqF hy457 H
    have Ny457 := zA hy457
    clear hy457
    by_cases c24 : y457.length + l1_0.length < 5864062014805
    ·
     rw [if_pos c24] at H
     have LMc24 := zA c24
     clear c24
     obtain ⟨y460, hy460⟩ : ∃ y_ : List (List Int), y_ = (y457 ++ l1_0) := ⟨_, rfl⟩
     replace H : (if y460.length + l1_1.length < 5864062014805 then (pianolalaw04_PumpLacks.l0 kj2 (y460 ++ l1_1) 0 l0_0 l0_1 l1_0 l1_1) else (none)) = some r := zqF hy460 H
     have Ny460 := zA hy460
     clear hy460
     by_cases c25 : y460.length + l1_1.length < 5864062014805
     ·
      rw [if_pos c25] at H
      have LMc25 := zA c25
      clear c25
      obtain ⟨y463, hy463⟩ : ∃ y_ : List (List Int), y_ = (y460 ++ l1_1) := ⟨_, rfl⟩
      replace H : (pianolalaw04_PumpLacks.l0 kj2 y463 0 l0_0 l0_1 l1_0 l1_1) = some r := zqF hy463 H
      have Ny463 := zA hy463
      clear hy463
      have H' := zA H
      clear H
      try go_wp2
      have n0_ := zA (Kd.V_drew HO_454000.out); have n1_ := zA (Kd.V_drew HO_454001.out); have n2_ := zA (blk_drew BK452.out); have n3_ := zA (blk_drew BK453.out); have n4_ := zA (below_drew1 HB.out); clear HO_454000 HO_454001 BK452 BK453 HB; have HO_454000 := n0_; have HO_454001 := n1_; have BK452 := n2_; have BK453 := n3_; have HB := n4_; clear n0_ n1_ n2_ n3_ n4_
      refine start_ (n := 8) (S := fun w' => w'.cell? ⟨gb453, 0, none⟩ = some (.slice A1_0 l1_0.length c1_0) ∧ w'.cell? ⟨gb453, 1, none⟩ = some (.slice A1_1 l1_1.length c1_1)) (ds := []) #[false, false, false, false, false, false, false, false] (by kernel_rfl) rfl rfl ⟨(blk_cell BK453.out 0).trans rfl, (blk_cell BK453.out 1).trans rfl⟩ (fun hHeld => ?_); refine with_tabW pianolalaw04_PumpLacks.tab3 pianolalaw04_PumpLacks.bits3 (fun HT_ HW_ => ?_)
      generalize wc.drew = w26 at HO_454000 HO_454001 BK452 BK453 HB hHeld ⊢
      refine pure_ (i := 1) (N := some 35) (v := ?_) (a' := ?_) #[false, true, false, false, false, false, false, false] rfl rfl (any_of HT_.out (by kernel_rfl)) (fun _ _ _ h => h) (Or.inl ⟨by rfl, ?_⟩) ?_ ?_
      rotate_left
      ·
       intro w'
       go_simp
       with_reducible rfl
      rotate_left
      · simp only [Act.put, List.setIfInBounds_toArray, List.set_cons_zero, List.set_cons_succ, i64_w, i32_w]; rfl
      refine pure_ (i := 4) (N := some 38) (v := ?_) (a' := ?_) #[false, true, false, false, true, false, false, false] rfl rfl (any_of HT_.out (by kernel_rfl)) (fun _ _ _ h => h) (Or.inl ⟨by rfl, ?_⟩) ?_ ?_
      rotate_left
      ·
       intro w'
       go_simp
       with_reducible rfl
      rotate_left
      · simp only [Act.put, List.setIfInBounds_toArray, List.set_cons_zero, List.set_cons_succ, i64_w, i32_w]; rfl
      refine take_ (i := 2) (N := some 36) (v := ?_) (a' := ?_) #[false, true, true, false, true, false, false, false] rfl rfl (take_ofW HT_.out HW_.out (by kernel_rfl)) (fun _ _ _ h => h) (Or.inl ⟨by rfl, ?_⟩) hHeld ?_ ?_
      rotate_left
      ·
       rintro w' ⟨s0, s1⟩
       go_simp
       with_reducible rfl
      rotate_left
      · simp only [Act.put, List.setIfInBounds_toArray, List.set_cons_zero, List.set_cons_succ, i64_w, i32_w]; rfl
      refine take_ (i := 5) (N := some 39) (v := ?_) (a' := ?_) #[false, true, true, false, true, true, false, false] rfl rfl (take_ofW HT_.out HW_.out (by kernel_rfl)) (fun _ _ _ h => h) (Or.inl ⟨by rfl, ?_⟩) hHeld ?_ ?_
      rotate_left
      ·
       rintro w' ⟨s0, s1⟩
       go_simp
       with_reducible rfl
      rotate_left
      · simp only [Act.put, List.setIfInBounds_toArray, List.set_cons_zero, List.set_cons_succ, i64_w, i32_w]; rfl
      refine one_ (i := 0) (N := some 34) #[true, true, true, false, true, true, false, false] rfl rfl (one_of HT_.out (by kernel_rfl)) (by decide) (fun K hK => ?_)
      refine Kd.N_lit_step (Kd.slice 3 (Kd.int .i64)) _ 30 ?hg (N' := 34) ?hd (xs := ([] : List (List Int))) (inner := []) (ok := (fun k_ => ((P1_0_ k_ ∨ P1_1_ k_) ∨ w.heap.size ≤ k_) ∧ k_ ≠ gb452 ∧ k_ ≠ gb453)) (okp := (fun k_ => ((P1_0_ k_ ∨ P1_1_ k_) ∨ w.heap.size ≤ k_) ∧ k_ ≠ gb452 ∧ k_ ≠ gb453)) ?hr ?hp (fun _ hk => hk) ((show ∀ k_, w26.heap.size ≤ k_ → (fun k_ => ((P1_0_ k_ ∨ P1_1_ k_) ∨ w.heap.size ≤ k_) ∧ k_ ≠ gb452 ∧ k_ ≠ gb453) k_ from fun k_ hk => ⟨(.inr (Nat.le_trans (below_size (zqH HB.out GE452.out GE453.out)) hk)), Kd.freshB (g := gb452) (o := .cells #[.slice A0_0 l0_0.length c0_0, .slice A0_1 l0_1.length c0_1] 40 (0, 0)) (zqB BK452.out) k_ hk, Kd.freshB (g := gb453) (o := .cells #[.slice A1_0 l1_0.length c1_0, .slice A1_1 l1_1.length c1_1] 56 (0, 0)) (zqB BK453.out) k_ hk⟩) _ (Nat.le_refl _)) (Below.refl _ _) (Nat.le_refl _) (by simp) ?_; (case hd => rfl); (case hg => rfl); (case hr => first | (go_simp; done) | (go_simp; rfl)); (case hp => exact (Reps.none _ _))
      intro v458 w27 ho28 hb hg_ hnew_
      clear hg_ hnew_
      (first | rw [← Ny457.out] at ho28 | (simp only [Int.reduceToNat] at ho28; rw [← Ny457.out] at ho28))
      have n0_ := zA (Kd.V_elder' (by (with_reducible repeat (first | apply Kd.V_alloc | apply Kd.V_drewN | apply Kd.V_drew)); exact HO_454000.out) (Kd.N_base ho28) hb)
      have n1_ := zA (Kd.V_elder' (by (with_reducible repeat (first | apply Kd.V_alloc | apply Kd.V_drewN | apply Kd.V_drew)); exact HO_454001.out) (Kd.N_base ho28) hb)
      have n2_ := zA (Kd.N_lower ho28 (below_size (zqH HB.out GE452.out GE453.out))); have n3_ := zA (blk_below (g := gb452) (zqB BK452.out) hb); have n4_ := zA (blk_below (g := gb453) (zqB BK453.out) hb); have n5_ := zA (below_step (zqH HB.out GE452.out GE453.out) hb); clear HO_454000 HO_454001 BK452 BK453 HB; have HO_454000 := n0_; have HO_454001 := n1_; have HO459 := n2_; have BK452 := n3_; have BK453 := n4_; have HB := n5_; clear n0_ n1_ n2_ n3_ n4_ n5_ hb ho28
      refine hK.out _ _ ⟨(blk_cell BK453.out 0).trans rfl, (blk_cell BK453.out 1).trans rfl⟩ (fun hHeld => ?_)
      clear hK K; refine norm_ (a' := ?_) ?_ ?_; rotate_left
      · show Act.put _ (some 34) _ = _; simp only [Act.put, List.setIfInBounds_toArray, List.set_cons_zero, List.set_cons_succ, i64_w, i32_w]; rfl
      refine one_ (i := 3) (N := some 37) #[true, true, true, true, true, true, false, false] rfl rfl (one_of HT_.out (by kernel_rfl)) (by decide) (fun K hK => ?_)
      refine Kd.N_append_rows_step (Kd.slice 3 (Kd.int .i64)) (w0 := w) w.heap.size (by rfl) (.tmp 34) (.tmp 36) 54 30 (.slice none 0 0) 24 rfl Try.underlying54 info30 rfl (by decide) (by omega) v458 y457 l1_0 _ _ _ (fun k_ => ((P1_0_ k_ ∨ P1_1_ k_) ∨ w.heap.size ≤ k_) ∧ k_ ≠ gb452 ∧ k_ ≠ gb453) (fun k_ => ((fun k_ => ((P1_0_ k_ ∨ P1_1_ k_) ∨ w.heap.size ≤ k_) ∧ k_ ≠ gb452 ∧ k_ ≠ gb453)) k_ ∧ some k_ ≠ (v458 : Value).ownBlock) rfl rfl ?aO ?aR (fun _ hk => hk) ?aF ?aB ?aS ?aL ?_
      (case aR => exact (by skip; exact Kd.V_F (Kd.V_mono (ok' := (fun k_ => ((fun k_ => ((P1_0_ k_ ∨ P1_1_ k_) ∨ w.heap.size ≤ k_) ∧ k_ ≠ gb452 ∧ k_ ≠ gb453)) k_ ∧ some k_ ≠ (v458 : Value).ownBlock)) (HO_454000.out) (fun k_ hk => ⟨⟨hk.1.1, ⟨hk.1.2.1, hk.1.2.2⟩⟩, hk.2⟩))))
      (case aB => exact (zqH HB.out GE452.out GE453.out))
      (case aF => exact (fun k_ hk => ⟨(.inr (Nat.le_trans (below_size (zqH HB.out GE452.out GE453.out)) hk)), Kd.freshB (g := gb452) (o := .cells #[.slice A0_0 l0_0.length c0_0, .slice A0_1 l0_1.length c0_1] 40 (0, 0)) (zqB BK452.out) k_ hk, Kd.freshB (g := gb453) (o := .cells #[.slice A1_0 l1_0.length c1_0, .slice A1_1 l1_1.length c1_1] 56 (0, 0)) (zqB BK453.out) k_ hk⟩))
      (case aO => exact (zqN HO459.out))
      (case aS => exact (below_size (zqH HB.out GE452.out GE453.out)))
      (case aL => have := LMc24.out; omega)
      intro v461 w29 ho hb hg hat
      rw [← Ny460.out] at ho
      have n0_ := zA (Kd.V_afterv (ok := (fun k_ => ((P1_0_ k_ ∨ P1_1_ k_) ∨ w.heap.size ≤ k_) ∧ k_ ≠ gb452 ∧ k_ ≠ gb453)) (by (with_reducible repeat (first | apply Kd.V_alloc | apply Kd.V_drewN | apply Kd.V_drew)); exact HO_454000.out) hg hat)
      have n1_ := zA (Kd.V_afterv (ok := (fun k_ => ((P1_0_ k_ ∨ P1_1_ k_) ∨ w.heap.size ≤ k_) ∧ k_ ≠ gb452 ∧ k_ ≠ gb453)) (by (with_reducible repeat (first | apply Kd.V_alloc | apply Kd.V_drewN | apply Kd.V_drew)); exact HO_454001.out) hg hat)
      have n2_ := zA (blk_grown (g := gb452) (o := .cells #[.slice A0_0 l0_0.length c0_0, .slice A0_1 l0_1.length c0_1] 40 (0, 0)) (zqB BK452.out) hg (Kd.N_ne HO459.out BK452.out (by decide))); have n3_ := zA (blk_grown (g := gb453) (o := .cells #[.slice A1_0 l1_0.length c1_0, .slice A1_1 l1_1.length c1_1] 56 (0, 0)) (zqB BK453.out) hg (Kd.N_ne HO459.out BK453.out (by decide))); have n4_ := zA (hb); have n5_ := zA (ho); clear HO_454000 HO_454001 BK452 BK453 HB HO459; have HO_454000 := n0_; have HO_454001 := n1_; have BK452 := n2_; have BK453 := n3_; have HB := n4_; have HO462 := n5_; clear n0_ n1_ n2_ n3_ n4_ n5_ ho hb hg hat
      refine hK.out _ _ ⟨(blk_cell BK453.out 0).trans rfl, (blk_cell BK453.out 1).trans rfl⟩ (fun hHeld => ?_)
      clear hK K; refine norm_ (a' := ?_) ?_ ?_; rotate_left
      · show Act.put _ (some 37) _ = _; simp only [Act.put, List.setIfInBounds_toArray, List.set_cons_zero, List.set_cons_succ, i64_w, i32_w]; rfl
      refine one_ (i := 6) (N := some 40) #[true, true, true, true, true, true, true, false] rfl rfl (one_of HT_.out (by kernel_rfl)) (by decide) (fun K hK => ?_)
      refine Kd.N_append_rows_step (Kd.slice 3 (Kd.int .i64)) (w0 := w) w.heap.size (by rfl) (.tmp 37) (.tmp 39) 54 30 (.slice none 0 0) 24 rfl Try.underlying54 info30 rfl (by decide) (by omega) v461 y460 l1_1 _ _ _ (fun k_ => ((P1_0_ k_ ∨ P1_1_ k_) ∨ w.heap.size ≤ k_) ∧ k_ ≠ gb452 ∧ k_ ≠ gb453) (fun k_ => ((fun k_ => ((P1_0_ k_ ∨ P1_1_ k_) ∨ w.heap.size ≤ k_) ∧ k_ ≠ gb452 ∧ k_ ≠ gb453)) k_ ∧ some k_ ≠ (v461 : Value).ownBlock) rfl rfl ?aO ?aR (fun _ hk => hk) ?aF ?aB ?aS ?aL ?_
      (case aR => exact (by skip; exact Kd.V_F (Kd.V_mono (ok' := (fun k_ => ((fun k_ => ((P1_0_ k_ ∨ P1_1_ k_) ∨ w.heap.size ≤ k_) ∧ k_ ≠ gb452 ∧ k_ ≠ gb453)) k_ ∧ some k_ ≠ (v461 : Value).ownBlock)) (HO_454001.out) (fun k_ hk => ⟨⟨hk.1.1, ⟨hk.1.2.1, hk.1.2.2⟩⟩, hk.2⟩))))
      (case aB => exact (zqH HB.out GE452.out GE453.out))
      (case aF => exact (fun k_ hk => ⟨(.inr (Nat.le_trans (below_size (zqH HB.out GE452.out GE453.out)) hk)), Kd.freshB (g := gb452) (o := .cells #[.slice A0_0 l0_0.length c0_0, .slice A0_1 l0_1.length c0_1] 40 (0, 0)) (zqB BK452.out) k_ hk, Kd.freshB (g := gb453) (o := .cells #[.slice A1_0 l1_0.length c1_0, .slice A1_1 l1_1.length c1_1] 56 (0, 0)) (zqB BK453.out) k_ hk⟩))
      (case aO => exact (zqN HO462.out))
      (case aS => exact (below_size (zqH HB.out GE452.out GE453.out)))
      (case aL => have := LMc25.out; omega)
      intro v464 w30 ho hb hg hat
      rw [← Ny463.out] at ho
      have n0_ := zA (Kd.V_afterv (ok := (fun k_ => ((P1_0_ k_ ∨ P1_1_ k_) ∨ w.heap.size ≤ k_) ∧ k_ ≠ gb452 ∧ k_ ≠ gb453)) (by (with_reducible repeat (first | apply Kd.V_alloc | apply Kd.V_drewN | apply Kd.V_drew)); exact HO_454000.out) hg hat)
      have n1_ := zA (Kd.V_afterv (ok := (fun k_ => ((P1_0_ k_ ∨ P1_1_ k_) ∨ w.heap.size ≤ k_) ∧ k_ ≠ gb452 ∧ k_ ≠ gb453)) (by (with_reducible repeat (first | apply Kd.V_alloc | apply Kd.V_drewN | apply Kd.V_drew)); exact HO_454001.out) hg hat)
      have n2_ := zA (blk_grown (g := gb452) (o := .cells #[.slice A0_0 l0_0.length c0_0, .slice A0_1 l0_1.length c0_1] 40 (0, 0)) (zqB BK452.out) hg (Kd.N_ne HO462.out BK452.out (by decide))); have n3_ := zA (blk_grown (g := gb453) (o := .cells #[.slice A1_0 l1_0.length c1_0, .slice A1_1 l1_1.length c1_1] 56 (0, 0)) (zqB BK453.out) hg (Kd.N_ne HO462.out BK453.out (by decide))); have n4_ := zA (hb); have n5_ := zA (ho); clear HO_454000 HO_454001 BK452 BK453 HB HO462; have HO_454000 := n0_; have HO_454001 := n1_; have BK452 := n2_; have BK453 := n3_; have HB := n4_; have HO465 := n5_; clear n0_ n1_ n2_ n3_ n4_ n5_ ho hb hg hat
      refine hK.out _ _ ⟨(blk_cell BK453.out 0).trans rfl, (blk_cell BK453.out 1).trans rfl⟩ (fun hHeld => ?_)
      clear hK K; refine norm_ (a' := ?_) ?_ ?_; rotate_left
      · show Act.put _ (some 40) _ = _; simp only [Act.put, List.setIfInBounds_toArray, List.set_cons_zero, List.set_cons_succ, i64_w, i32_w]; rfl
      refine pure_ (i := 7) (N := some 5) (v := ?_) (a' := ?_) #[true, true, true, true, true, true, true, true] rfl rfl (any_of HT_.out (by kernel_rfl)) (fun _ _ _ h => h) (Or.inl ⟨by rfl, ?_⟩) ?_ ?_
      rotate_left
      ·
       intro w'
       go_simp
       with_reducible rfl
      rotate_left
      · simp only [Act.put, List.setIfInBounds_toArray, List.set_cons_zero, List.set_cons_succ, i64_w, i32_w]; rfl
      refine done_ (done_of HT_.out (by kernel_rfl)) ?_
      try go_wp2
      go_loopg [6] kj2 (fun kq v6 w' => ∃ (x6_2 : Int), v6 = .int .i64 x6_2 ∧ Aside0 (pianolalaw04_PumpLacks.l0 kq y463 x6_2 l0_0 l0_1 l1_0 l1_1 = some r) ∧ Aside0 (kq ≤ kj2) ∧ Aside0 (Kd.N (Kd.slice 3 (Kd.int .i64)) 30 w' w.heap.size (fun k_ => ((P1_0_ k_ ∨ P1_1_ k_) ∨ w.heap.size ≤ k_) ∧ k_ ≠ gb452 ∧ k_ ≠ gb453) v464 y463) ∧ Aside0 (Kd.V (Kd.slice 3 (Kd.int .i64)) 30 w' w.heap.size (fun k_ => ((P1_0_ k_ ∨ P1_1_ k_) ∨ w.heap.size ≤ k_) ∧ some k_ ≠ (v464 : Value).ownBlock ∧ k_ ≠ gb452 ∧ k_ ≠ gb453) (.slice A1_0 l1_0.length c1_0) l1_0) ∧ Aside0 (Kd.V (Kd.slice 3 (Kd.int .i64)) 30 w' w.heap.size (fun k_ => ((P1_0_ k_ ∨ P1_1_ k_) ∨ w.heap.size ≤ k_) ∧ some k_ ≠ (v464 : Value).ownBlock ∧ k_ ≠ gb452 ∧ k_ ≠ gb453) (.slice A1_1 l1_1.length c1_1) l1_1) ∧ Aside0 (w'.heap[gb452]? = some (.cells #[(.slice A0_0 l0_0.length c0_0), (.slice A0_1 l0_1.length c0_1)] 40 (0, 0))) ∧ Aside0 (w'.heap[gb453]? = some (.cells #[(.slice A1_0 l1_0.length c1_0), (.slice A1_1 l1_1.length c1_1)] 56 (0, 0))) ∧ Aside0 (Below w.heap.size w w'))
      case atStart => exact ⟨(0), zqQ, H', ⟨Nat.le_refl _⟩, ⟨zqN HO465.out⟩, ⟨by (with_reducible repeat (first | apply Kd.V_alloc | apply Kd.V_drewN | apply Kd.V_drew)); exact Kd.V_mono HO_454000.out (fun _ hk => ⟨hk.1.1, ⟨hk.2, ⟨hk.1.2.1, hk.1.2.2⟩⟩⟩)⟩, ⟨by (with_reducible repeat (first | apply Kd.V_alloc | apply Kd.V_drewN | apply Kd.V_drew)); exact Kd.V_mono HO_454001.out (fun _ hk => ⟨hk.1.1, ⟨hk.2, ⟨hk.1.2.1, hk.1.2.2⟩⟩⟩)⟩, ⟨zqB BK452.out⟩, ⟨zqB BK453.out⟩, ⟨zqH HB.out GE452.out GE453.out⟩⟩
      case round =>
       clear H'
       try clear c1
       try clear c2
       try clear p2
       try clear c6
       try clear c7
       try clear c8
       try clear c11
       try clear c12
       try clear c14
       try clear c14b0
       try clear c14b1
       try clear c15
       try clear c18
       try clear c21
       try clear c24
       try clear c25
       try clear c26
       try clear hcz13_0
       try clear hcz13_1
       try clear hcz16_0
       try clear hcz16_1
       try clear hcz17_0
       try clear hcz17_1
       try clear hcz19_0
       try clear hcz19_1
       try clear hcz20_0
       try clear hcz20_1
       try clear hcz9_0
       try clear hcz9_1
       try clear hfz13_0
       try clear hfz13_1
       try clear hfz16_0
       try clear hfz16_1
       try clear hfz17_0
       try clear hfz17_1
       try clear hfz19_0
       try clear hfz19_1
       try clear hfz20_0
       try clear hfz20_1
       try clear hfz9_0
       try clear hfz9_1
       try clear p2
       obtain ⟨x6_2, rfl, HA, HK2, HO_5, HO_454000, HO_454001, BK452, BK453, HB⟩ := hrel
       cases gk with
       | zero => exact absurd HA.out (by simp [pianolalaw04_PumpLacks.l0])
       | succ k2 =>
        have H := HA.out
        clear HA
        simp only [pianolalaw04_PumpLacks.l0] at H
        by_cases c31 : x6_2 < (y463.length : Int)
        ·
         rw [if_pos c31] at H
         have c31b0 : decide (x6_2 < (y463.length : Int)) = true := decide_eq_true c31
         clear c31
         by_cases c32 : 0 ≤ x6_2
         ·
          rw [if_pos c32] at H
          have c32b0 : decide (0 ≤ x6_2) = true := decide_eq_true c32
          clear c32
          by_cases c33 : ((rd_L6 y463 x6_2).length : Int) > 60
          ·
           rw [if_pos c33] at H
           have c33b0 : decide (60 < ((rd_L6 y463 x6_2).length : Int)) = true := decide_eq_true c33
           have c33b1 : decide (60 < (rd_L6 y463 x6_2).length) = true := decide_eq_true (by omega)
           clear c33
           by_cases c34 : ((rd_L6 y463 x6_2).length : Int) ≤ 400
           ·
            rw [if_pos c34] at H
            have c34b0 : decide (((rd_L6 y463 x6_2).length : Int) ≤ 400) = true := decide_eq_true c34
            have c34b1 : decide ((rd_L6 y463 x6_2).length ≤ 400) = true := decide_eq_true (by omega)
            clear c34
            replace H := Option.bind_eq_some_iff.mp H
            obtain ⟨t468, A350, H⟩ := H
            replace H : (some t468) = some r := H
            have A35 := zA A350
            clear A350
            obtain rfl := Option.some.inj H
            obtain ⟨Ao36, co36, eo36⟩ := Kd.N_slice HO_5.out
            subst eo36
            have p466 : 0 ≤ (x6_2 : Int) := of_decide_eq_true (zqD)
            have q466 : x6_2 < (y463.length : Int) := of_decide_eq_true (zqD)
            obtain ⟨ad466, A466_0, c466_0, e466, hx466_0, hl466_0, hi466_0⟩ := at_L6 (Kd.N_reads' HO_5.out).2.2 x6_2 p466 q466
            cases e466
            obtain ⟨ce466, hce466, hMe466, hcc466⟩ := Kd.N_get HO_5.out [] x6_2 p466 (by first | exact q466 | exact of_decide_eq_true (zqD) | (have e_ := (Kd.N_reads' HO_5.out).1; omega))
            obtain ⟨ua466_0, uc466_0, rfl, ul466_0, ge466_0⟩ := Kd.FK_slice_open hMe466
            have hv466_0 := hcc466 0 _ rfl
            rw [Nat.add_zero, show ((Kd.slice 3 (Kd.int .i64))).sz = 1 from rfl, Nat.mul_one] at hv466_0
            replace hv466_0 := Option.some.inj (hv466_0.symm.trans hx466_0)
            injection hv466_0 with hva_ hvn_ hvc_
            rw [hva_] at ge466_0
            rw [hvc_] at ul466_0
            have HL466_0 := zA (show Kd.V (Kd.int .i64) 3 _ w.heap.size _ _ (rd_L6 y463 x6_2) from Kd.V_mk ul466_0 ge466_0)
            clear hva_ hvn_ hvc_ ge466_0 ul466_0 hcc466 hce466
            have HR466_0 := zA hi466_0
            have HC466_0 := zA hl466_0
            clear hi466_0 hl466_0; replace p466 := eq_true p466; replace q466 := eq_true q466
            have p467 : 0 ≤ (x6_2 : Int) := of_decide_eq_true (zqD)
            have q467 : x6_2 < (y463.length : Int) := of_decide_eq_true (zqD)
            obtain ⟨ad467, A467_0, c467_0, e467, hx467_0, hl467_0, hi467_0⟩ := at_L6 (Kd.N_reads' HO_5.out).2.2 x6_2 p467 q467
            obtain rfl : ad466 = ad467 := (by injection e467)
            obtain ⟨ce467, hce467, hMe467, hcc467⟩ := Kd.N_get HO_5.out [] x6_2 p467 (by first | exact q467 | exact of_decide_eq_true (zqD) | (have e_ := (Kd.N_reads' HO_5.out).1; omega))
            obtain ⟨ua467_0, uc467_0, rfl, ul467_0, ge467_0⟩ := Kd.FK_slice_open hMe467
            have hv467_0 := hcc467 0 _ rfl
            rw [Nat.add_zero, show ((Kd.slice 3 (Kd.int .i64))).sz = 1 from rfl, Nat.mul_one] at hv467_0
            replace hv467_0 := Option.some.inj (hv467_0.symm.trans hx467_0)
            injection hv467_0 with hva_ hvn_ hvc_
            rw [hva_] at ge467_0
            rw [hvc_] at ul467_0
            have HL467_0 := zA (show Kd.V (Kd.int .i64) 3 _ w.heap.size _ _ (rd_L6 y463 x6_2) from Kd.V_mk ul467_0 ge467_0)
            clear hva_ hvn_ hvc_ ge467_0 ul467_0 hcc467 hce467
            have HR467_0 := zA hi467_0
            have HC467_0 := zA hl467_0
            clear hi467_0 hl467_0; replace p467 := eq_true p467; replace q467 := eq_true q467
            have ea_ := Option.some.inj (hx466_0.symm.trans hx467_0)
            injection ea_ with ea_ en_ ec_
            subst ea_; subst ec_; clear en_
            go_wp2_with (first | ((with_reducible refine gate_callee (f := 15) rfl ?_); refine goesL_ (some 69) rfl rfl Try.func15 (by kernel_rfl) rfl #[] rfl zqE ?_; (with_reducible refine (pianolalaw04_works.calls  t468 _ A35.out).mono ?_); rintro e w37 ⟨rfl, hb⟩; refine ⟨_, rfl, ?_⟩; have n0_ := zA (Kd.N_below (zqN HO_5.out) hb); have n1_ := zA (Kd.V_below (by (with_reducible repeat (first | apply Kd.V_alloc | apply Kd.V_drewN | apply Kd.V_drew)); exact HO_454000.out) hb); have n2_ := zA (Kd.V_below (by (with_reducible repeat (first | apply Kd.V_alloc | apply Kd.V_drewN | apply Kd.V_drew)); exact HO_454001.out) hb); have n3_ := zA (Kd.V_below (by (with_reducible repeat (first | apply Kd.V_alloc | apply Kd.V_drewN | apply Kd.V_drew)); exact HL466_0.out) hb); have n4_ := zA (Kd.V_below (by (with_reducible repeat (first | apply Kd.V_alloc | apply Kd.V_drewN | apply Kd.V_drew)); exact HL467_0.out) hb); have n5_ := zA (blk_below (g := gb452) (o := .cells #[.slice A0_0 l0_0.length c0_0, .slice A0_1 l0_1.length c0_1] 40 (0, 0)) (zqB BK452.out) hb); have n6_ := zA (blk_below (g := gb453) (o := .cells #[.slice A1_0 l1_0.length c1_0, .slice A1_1 l1_1.length c1_1] 56 (0, 0)) (zqB BK453.out) hb); have n7_ := zA (Kd.C_below (by repeat (first | (with_reducible exact HR466_0.out) | (with_reducible refine Kd.C_alloc ?_ _) | (with_reducible refine Kd.C_drewN ?_ _) | (with_reducible refine Kd.C_drew ?_) | exact HR466_0.out)) hb); have n8_ := zA (Kd.C_below (by repeat (first | (with_reducible exact HR467_0.out) | (with_reducible refine Kd.C_alloc ?_ _) | (with_reducible refine Kd.C_drewN ?_ _) | (with_reducible refine Kd.C_drew ?_) | exact HR467_0.out)) hb); have n9_ := zA (below_step (zqH HB.out GE452.out GE453.out) hb); clear HO_5; clear HO_454000; clear HO_454001; clear HL466_0; clear HL467_0; clear BK452; clear BK453; clear HR466_0; clear HR467_0; clear HB; have HO_5 := n0_; have HO_454000 := n1_; have HO_454001 := n2_; have HL466_0 := n3_; have HL467_0 := n4_; have BK452 := n5_; have BK453 := n6_; have HR466_0 := n7_; have HR467_0 := n8_; have HB := n9_; clear n0_ n1_ n2_ n3_ n4_ n5_ n6_ n7_ n8_ n9_; (try clear hb); (try clear hb2); (try clear hk); (try clear hi)))
            go_ret
            exact ⟨zqR, zqH HB.out GE452.out GE453.out⟩
           ·
            rw [if_neg c34] at H
            have c34b0 : decide (((rd_L6 y463 x6_2).length : Int) ≤ 400) = false := decide_eq_false c34
            have c34b1 : decide ((rd_L6 y463 x6_2).length ≤ 400) = false := decide_eq_false (by omega)
            clear c34
            by_cases c38 : ((rd_L6 y463 x6_2).length : Int) > 500
            ·
             rw [if_pos c38] at H
             have c38b0 : decide (500 < ((rd_L6 y463 x6_2).length : Int)) = true := decide_eq_true c38
             have c38b1 : decide (500 < (rd_L6 y463 x6_2).length) = true := decide_eq_true (by omega)
             clear c38
             replace H := Option.bind_eq_some_iff.mp H
             obtain ⟨t470, A390, H⟩ := H
             replace H : (some t470) = some r := H
             have A39 := zA A390
             clear A390
             obtain rfl := Option.some.inj H
             obtain ⟨Ao40, co40, eo40⟩ := Kd.N_slice HO_5.out
             subst eo40
             have p466 : 0 ≤ (x6_2 : Int) := of_decide_eq_true (zqD)
             have q466 : x6_2 < (y463.length : Int) := of_decide_eq_true (zqD)
             obtain ⟨ad466, A466_0, c466_0, e466, hx466_0, hl466_0, hi466_0⟩ := at_L6 (Kd.N_reads' HO_5.out).2.2 x6_2 p466 q466
             cases e466
             obtain ⟨ce466, hce466, hMe466, hcc466⟩ := Kd.N_get HO_5.out [] x6_2 p466 (by first | exact q466 | exact of_decide_eq_true (zqD) | (have e_ := (Kd.N_reads' HO_5.out).1; omega))
             obtain ⟨ua466_0, uc466_0, rfl, ul466_0, ge466_0⟩ := Kd.FK_slice_open hMe466
             have hv466_0 := hcc466 0 _ rfl
             rw [Nat.add_zero, show ((Kd.slice 3 (Kd.int .i64))).sz = 1 from rfl, Nat.mul_one] at hv466_0
             replace hv466_0 := Option.some.inj (hv466_0.symm.trans hx466_0)
             injection hv466_0 with hva_ hvn_ hvc_
             rw [hva_] at ge466_0
             rw [hvc_] at ul466_0
             have HL466_0 := zA (show Kd.V (Kd.int .i64) 3 _ w.heap.size _ _ (rd_L6 y463 x6_2) from Kd.V_mk ul466_0 ge466_0)
             clear hva_ hvn_ hvc_ ge466_0 ul466_0 hcc466 hce466
             have HR466_0 := zA hi466_0
             have HC466_0 := zA hl466_0
             clear hi466_0 hl466_0; replace p466 := eq_true p466; replace q466 := eq_true q466
             have p467 : 0 ≤ (x6_2 : Int) := of_decide_eq_true (zqD)
             have q467 : x6_2 < (y463.length : Int) := of_decide_eq_true (zqD)
             obtain ⟨ad467, A467_0, c467_0, e467, hx467_0, hl467_0, hi467_0⟩ := at_L6 (Kd.N_reads' HO_5.out).2.2 x6_2 p467 q467
             obtain rfl : ad466 = ad467 := (by injection e467)
             obtain ⟨ce467, hce467, hMe467, hcc467⟩ := Kd.N_get HO_5.out [] x6_2 p467 (by first | exact q467 | exact of_decide_eq_true (zqD) | (have e_ := (Kd.N_reads' HO_5.out).1; omega))
             obtain ⟨ua467_0, uc467_0, rfl, ul467_0, ge467_0⟩ := Kd.FK_slice_open hMe467
             have hv467_0 := hcc467 0 _ rfl
             rw [Nat.add_zero, show ((Kd.slice 3 (Kd.int .i64))).sz = 1 from rfl, Nat.mul_one] at hv467_0
             replace hv467_0 := Option.some.inj (hv467_0.symm.trans hx467_0)
             injection hv467_0 with hva_ hvn_ hvc_
             rw [hva_] at ge467_0
             rw [hvc_] at ul467_0
             have HL467_0 := zA (show Kd.V (Kd.int .i64) 3 _ w.heap.size _ _ (rd_L6 y463 x6_2) from Kd.V_mk ul467_0 ge467_0)
             clear hva_ hvn_ hvc_ ge467_0 ul467_0 hcc467 hce467
             have HR467_0 := zA hi467_0
             have HC467_0 := zA hl467_0
             clear hi467_0 hl467_0; replace p467 := eq_true p467; replace q467 := eq_true q467
             have ea_ := Option.some.inj (hx466_0.symm.trans hx467_0)
             injection ea_ with ea_ en_ ec_
             subst ea_; subst ec_; clear en_
             have p469 : 0 ≤ (x6_2 : Int) := of_decide_eq_true (zqD)
             have q469 : x6_2 < (y463.length : Int) := of_decide_eq_true (zqD)
             obtain ⟨ad469, A469_0, c469_0, e469, hx469_0, hl469_0, hi469_0⟩ := at_L6 (Kd.N_reads' HO_5.out).2.2 x6_2 p469 q469
             obtain rfl : ad466 = ad469 := (by injection e469)
             obtain ⟨ce469, hce469, hMe469, hcc469⟩ := Kd.N_get HO_5.out [] x6_2 p469 (by first | exact q469 | exact of_decide_eq_true (zqD) | (have e_ := (Kd.N_reads' HO_5.out).1; omega))
             obtain ⟨ua469_0, uc469_0, rfl, ul469_0, ge469_0⟩ := Kd.FK_slice_open hMe469
             have hv469_0 := hcc469 0 _ rfl
             rw [Nat.add_zero, show ((Kd.slice 3 (Kd.int .i64))).sz = 1 from rfl, Nat.mul_one] at hv469_0
             replace hv469_0 := Option.some.inj (hv469_0.symm.trans hx469_0)
             injection hv469_0 with hva_ hvn_ hvc_
             rw [hva_] at ge469_0
             rw [hvc_] at ul469_0
             have HL469_0 := zA (show Kd.V (Kd.int .i64) 3 _ w.heap.size _ _ (rd_L6 y463 x6_2) from Kd.V_mk ul469_0 ge469_0)
             clear hva_ hvn_ hvc_ ge469_0 ul469_0 hcc469 hce469
             have HR469_0 := zA hi469_0
             have HC469_0 := zA hl469_0
             clear hi469_0 hl469_0; replace p469 := eq_true p469; replace q469 := eq_true q469
             have ea_ := Option.some.inj (hx466_0.symm.trans hx469_0)
             injection ea_ with ea_ en_ ec_
             subst ea_; subst ec_; clear en_
             go_wp2_with (first | ((with_reducible refine gate_callee (f := 15) rfl ?_); refine goesL_ (some 69) rfl rfl Try.func15 (by kernel_rfl) rfl #[] rfl zqE ?_; (with_reducible refine (pianolalaw04_works.calls  t470 _ A39.out).mono ?_); rintro e w41 ⟨rfl, hb⟩; refine ⟨_, rfl, ?_⟩; have n0_ := zA (Kd.N_below (zqN HO_5.out) hb); have n1_ := zA (Kd.V_below (by (with_reducible repeat (first | apply Kd.V_alloc | apply Kd.V_drewN | apply Kd.V_drew)); exact HO_454000.out) hb); have n2_ := zA (Kd.V_below (by (with_reducible repeat (first | apply Kd.V_alloc | apply Kd.V_drewN | apply Kd.V_drew)); exact HO_454001.out) hb); have n3_ := zA (Kd.V_below (by (with_reducible repeat (first | apply Kd.V_alloc | apply Kd.V_drewN | apply Kd.V_drew)); exact HL466_0.out) hb); have n4_ := zA (Kd.V_below (by (with_reducible repeat (first | apply Kd.V_alloc | apply Kd.V_drewN | apply Kd.V_drew)); exact HL467_0.out) hb); have n5_ := zA (Kd.V_below (by (with_reducible repeat (first | apply Kd.V_alloc | apply Kd.V_drewN | apply Kd.V_drew)); exact HL469_0.out) hb); have n6_ := zA (blk_below (g := gb452) (o := .cells #[.slice A0_0 l0_0.length c0_0, .slice A0_1 l0_1.length c0_1] 40 (0, 0)) (zqB BK452.out) hb); have n7_ := zA (blk_below (g := gb453) (o := .cells #[.slice A1_0 l1_0.length c1_0, .slice A1_1 l1_1.length c1_1] 56 (0, 0)) (zqB BK453.out) hb); have n8_ := zA (Kd.C_below (by repeat (first | (with_reducible exact HR466_0.out) | (with_reducible refine Kd.C_alloc ?_ _) | (with_reducible refine Kd.C_drewN ?_ _) | (with_reducible refine Kd.C_drew ?_) | exact HR466_0.out)) hb); have n9_ := zA (Kd.C_below (by repeat (first | (with_reducible exact HR467_0.out) | (with_reducible refine Kd.C_alloc ?_ _) | (with_reducible refine Kd.C_drewN ?_ _) | (with_reducible refine Kd.C_drew ?_) | exact HR467_0.out)) hb); have n10_ := zA (Kd.C_below (by repeat (first | (with_reducible exact HR469_0.out) | (with_reducible refine Kd.C_alloc ?_ _) | (with_reducible refine Kd.C_drewN ?_ _) | (with_reducible refine Kd.C_drew ?_) | exact HR469_0.out)) hb); have n11_ := zA (below_step (zqH HB.out GE452.out GE453.out) hb); clear HO_5; clear HO_454000; clear HO_454001; clear HL466_0; clear HL467_0; clear HL469_0; clear BK452; clear BK453; clear HR466_0; clear HR467_0; clear HR469_0; clear HB; have HO_5 := n0_; have HO_454000 := n1_; have HO_454001 := n2_; have HL466_0 := n3_; have HL467_0 := n4_; have HL469_0 := n5_; have BK452 := n6_; have BK453 := n7_; have HR466_0 := n8_; have HR467_0 := n9_; have HR469_0 := n10_; have HB := n11_; clear n0_ n1_ n2_ n3_ n4_ n5_ n6_ n7_ n8_ n9_ n10_ n11_; (try clear hb); (try clear hb2); (try clear hk); (try clear hi)))
             go_ret
             exact ⟨zqR, zqH HB.out GE452.out GE453.out⟩
            ·
             rw [if_neg c38] at H
             have c38b0 : decide (500 < ((rd_L6 y463 x6_2).length : Int)) = false := decide_eq_false c38
             have c38b1 : decide (500 < (rd_L6 y463 x6_2).length) = false := decide_eq_false (by omega)
             clear c38
             have H' := zA H
             clear H
             obtain ⟨Ao42, co42, eo42⟩ := Kd.N_slice HO_5.out
             subst eo42
             have p466 : 0 ≤ (x6_2 : Int) := of_decide_eq_true (zqD)
             have q466 : x6_2 < (y463.length : Int) := of_decide_eq_true (zqD)
             obtain ⟨ad466, A466_0, c466_0, e466, hx466_0, hl466_0, hi466_0⟩ := at_L6 (Kd.N_reads' HO_5.out).2.2 x6_2 p466 q466
             cases e466
             obtain ⟨ce466, hce466, hMe466, hcc466⟩ := Kd.N_get HO_5.out [] x6_2 p466 (by first | exact q466 | exact of_decide_eq_true (zqD) | (have e_ := (Kd.N_reads' HO_5.out).1; omega))
             obtain ⟨ua466_0, uc466_0, rfl, ul466_0, ge466_0⟩ := Kd.FK_slice_open hMe466
             have hv466_0 := hcc466 0 _ rfl
             rw [Nat.add_zero, show ((Kd.slice 3 (Kd.int .i64))).sz = 1 from rfl, Nat.mul_one] at hv466_0
             replace hv466_0 := Option.some.inj (hv466_0.symm.trans hx466_0)
             injection hv466_0 with hva_ hvn_ hvc_
             rw [hva_] at ge466_0
             rw [hvc_] at ul466_0
             have HL466_0 := zA (show Kd.V (Kd.int .i64) 3 _ w.heap.size _ _ (rd_L6 y463 x6_2) from Kd.V_mk ul466_0 ge466_0)
             clear hva_ hvn_ hvc_ ge466_0 ul466_0 hcc466 hce466
             have HR466_0 := zA hi466_0
             have HC466_0 := zA hl466_0
             clear hi466_0 hl466_0; replace p466 := eq_true p466; replace q466 := eq_true q466
             have p467 : 0 ≤ (x6_2 : Int) := of_decide_eq_true (zqD)
             have q467 : x6_2 < (y463.length : Int) := of_decide_eq_true (zqD)
             obtain ⟨ad467, A467_0, c467_0, e467, hx467_0, hl467_0, hi467_0⟩ := at_L6 (Kd.N_reads' HO_5.out).2.2 x6_2 p467 q467
             obtain rfl : ad466 = ad467 := (by injection e467)
             obtain ⟨ce467, hce467, hMe467, hcc467⟩ := Kd.N_get HO_5.out [] x6_2 p467 (by first | exact q467 | exact of_decide_eq_true (zqD) | (have e_ := (Kd.N_reads' HO_5.out).1; omega))
             obtain ⟨ua467_0, uc467_0, rfl, ul467_0, ge467_0⟩ := Kd.FK_slice_open hMe467
             have hv467_0 := hcc467 0 _ rfl
             rw [Nat.add_zero, show ((Kd.slice 3 (Kd.int .i64))).sz = 1 from rfl, Nat.mul_one] at hv467_0
             replace hv467_0 := Option.some.inj (hv467_0.symm.trans hx467_0)
             injection hv467_0 with hva_ hvn_ hvc_
             rw [hva_] at ge467_0
             rw [hvc_] at ul467_0
             have HL467_0 := zA (show Kd.V (Kd.int .i64) 3 _ w.heap.size _ _ (rd_L6 y463 x6_2) from Kd.V_mk ul467_0 ge467_0)
             clear hva_ hvn_ hvc_ ge467_0 ul467_0 hcc467 hce467
             have HR467_0 := zA hi467_0
             have HC467_0 := zA hl467_0
             clear hi467_0 hl467_0; replace p467 := eq_true p467; replace q467 := eq_true q467
             have ea_ := Option.some.inj (hx466_0.symm.trans hx467_0)
             injection ea_ with ea_ en_ ec_
             subst ea_; subst ec_; clear en_
             have p469 : 0 ≤ (x6_2 : Int) := of_decide_eq_true (zqD)
             have q469 : x6_2 < (y463.length : Int) := of_decide_eq_true (zqD)
             obtain ⟨ad469, A469_0, c469_0, e469, hx469_0, hl469_0, hi469_0⟩ := at_L6 (Kd.N_reads' HO_5.out).2.2 x6_2 p469 q469
             obtain rfl : ad466 = ad469 := (by injection e469)
             obtain ⟨ce469, hce469, hMe469, hcc469⟩ := Kd.N_get HO_5.out [] x6_2 p469 (by first | exact q469 | exact of_decide_eq_true (zqD) | (have e_ := (Kd.N_reads' HO_5.out).1; omega))
             obtain ⟨ua469_0, uc469_0, rfl, ul469_0, ge469_0⟩ := Kd.FK_slice_open hMe469
             have hv469_0 := hcc469 0 _ rfl
             rw [Nat.add_zero, show ((Kd.slice 3 (Kd.int .i64))).sz = 1 from rfl, Nat.mul_one] at hv469_0
             replace hv469_0 := Option.some.inj (hv469_0.symm.trans hx469_0)
             injection hv469_0 with hva_ hvn_ hvc_
             rw [hva_] at ge469_0
             rw [hvc_] at ul469_0
             have HL469_0 := zA (show Kd.V (Kd.int .i64) 3 _ w.heap.size _ _ (rd_L6 y463 x6_2) from Kd.V_mk ul469_0 ge469_0)
             clear hva_ hvn_ hvc_ ge469_0 ul469_0 hcc469 hce469
             have HR469_0 := zA hi469_0
             have HC469_0 := zA hl469_0
             clear hi469_0 hl469_0; replace p469 := eq_true p469; replace q469 := eq_true q469
             have ea_ := Option.some.inj (hx466_0.symm.trans hx469_0)
             injection ea_ with ea_ en_ ec_
             subst ea_; subst ec_; clear en_
             go_wp2
             go_roundg k2
             case measure => have := HJ2.out; have := HK2.out; omega
             case rel => exact ⟨(wrap64 (x6_2 + 1)), zqQ, H', ⟨by have := HJ2.out; have := HK2.out; omega⟩, ⟨zqN HO_5.out⟩, ⟨by (with_reducible repeat (first | apply Kd.V_alloc | apply Kd.V_drewN | apply Kd.V_drew)); exact HO_454000.out⟩, ⟨by (with_reducible repeat (first | apply Kd.V_alloc | apply Kd.V_drewN | apply Kd.V_drew)); exact HO_454001.out⟩, ⟨zqB BK452.out⟩, ⟨zqB BK453.out⟩, ⟨zqH HB.out GE452.out GE453.out⟩⟩
          ·
           rw [if_neg c33] at H
           have c33b0 : decide (60 < ((rd_L6 y463 x6_2).length : Int)) = false := decide_eq_false c33
           have c33b1 : decide (60 < (rd_L6 y463 x6_2).length) = false := decide_eq_false (by omega)
           clear c33
           by_cases c43 : ((rd_L6 y463 x6_2).length : Int) > 500
           ·
            rw [if_pos c43] at H
            have c43b0 : decide (500 < ((rd_L6 y463 x6_2).length : Int)) = true := decide_eq_true c43
            have c43b1 : decide (500 < (rd_L6 y463 x6_2).length) = true := decide_eq_true (by omega)
            clear c43
            replace H := Option.bind_eq_some_iff.mp H
            obtain ⟨t472, A440, H⟩ := H
            replace H : (some t472) = some r := H
            have A44 := zA A440
            clear A440
            obtain rfl := Option.some.inj H
            obtain ⟨Ao45, co45, eo45⟩ := Kd.N_slice HO_5.out
            subst eo45
            have p466 : 0 ≤ (x6_2 : Int) := of_decide_eq_true (zqD)
            have q466 : x6_2 < (y463.length : Int) := of_decide_eq_true (zqD)
            obtain ⟨ad466, A466_0, c466_0, e466, hx466_0, hl466_0, hi466_0⟩ := at_L6 (Kd.N_reads' HO_5.out).2.2 x6_2 p466 q466
            cases e466
            obtain ⟨ce466, hce466, hMe466, hcc466⟩ := Kd.N_get HO_5.out [] x6_2 p466 (by first | exact q466 | exact of_decide_eq_true (zqD) | (have e_ := (Kd.N_reads' HO_5.out).1; omega))
            obtain ⟨ua466_0, uc466_0, rfl, ul466_0, ge466_0⟩ := Kd.FK_slice_open hMe466
            have hv466_0 := hcc466 0 _ rfl
            rw [Nat.add_zero, show ((Kd.slice 3 (Kd.int .i64))).sz = 1 from rfl, Nat.mul_one] at hv466_0
            replace hv466_0 := Option.some.inj (hv466_0.symm.trans hx466_0)
            injection hv466_0 with hva_ hvn_ hvc_
            rw [hva_] at ge466_0
            rw [hvc_] at ul466_0
            have HL466_0 := zA (show Kd.V (Kd.int .i64) 3 _ w.heap.size _ _ (rd_L6 y463 x6_2) from Kd.V_mk ul466_0 ge466_0)
            clear hva_ hvn_ hvc_ ge466_0 ul466_0 hcc466 hce466
            have HR466_0 := zA hi466_0
            have HC466_0 := zA hl466_0
            clear hi466_0 hl466_0; replace p466 := eq_true p466; replace q466 := eq_true q466
            have p471 : 0 ≤ (x6_2 : Int) := of_decide_eq_true (zqD)
            have q471 : x6_2 < (y463.length : Int) := of_decide_eq_true (zqD)
            obtain ⟨ad471, A471_0, c471_0, e471, hx471_0, hl471_0, hi471_0⟩ := at_L6 (Kd.N_reads' HO_5.out).2.2 x6_2 p471 q471
            obtain rfl : ad466 = ad471 := (by injection e471)
            obtain ⟨ce471, hce471, hMe471, hcc471⟩ := Kd.N_get HO_5.out [] x6_2 p471 (by first | exact q471 | exact of_decide_eq_true (zqD) | (have e_ := (Kd.N_reads' HO_5.out).1; omega))
            obtain ⟨ua471_0, uc471_0, rfl, ul471_0, ge471_0⟩ := Kd.FK_slice_open hMe471
            have hv471_0 := hcc471 0 _ rfl
            rw [Nat.add_zero, show ((Kd.slice 3 (Kd.int .i64))).sz = 1 from rfl, Nat.mul_one] at hv471_0
            replace hv471_0 := Option.some.inj (hv471_0.symm.trans hx471_0)
            injection hv471_0 with hva_ hvn_ hvc_
            rw [hva_] at ge471_0
            rw [hvc_] at ul471_0
            have HL471_0 := zA (show Kd.V (Kd.int .i64) 3 _ w.heap.size _ _ (rd_L6 y463 x6_2) from Kd.V_mk ul471_0 ge471_0)
            clear hva_ hvn_ hvc_ ge471_0 ul471_0 hcc471 hce471
            have HR471_0 := zA hi471_0
            have HC471_0 := zA hl471_0
            clear hi471_0 hl471_0; replace p471 := eq_true p471; replace q471 := eq_true q471
            have ea_ := Option.some.inj (hx466_0.symm.trans hx471_0)
            injection ea_ with ea_ en_ ec_
            subst ea_; subst ec_; clear en_
            go_wp2_with (first | ((with_reducible refine gate_callee (f := 15) rfl ?_); refine goesL_ (some 69) rfl rfl Try.func15 (by kernel_rfl) rfl #[] rfl zqE ?_; (with_reducible refine (pianolalaw04_works.calls  t472 _ A44.out).mono ?_); rintro e w46 ⟨rfl, hb⟩; refine ⟨_, rfl, ?_⟩; have n0_ := zA (Kd.N_below (zqN HO_5.out) hb); have n1_ := zA (Kd.V_below (by (with_reducible repeat (first | apply Kd.V_alloc | apply Kd.V_drewN | apply Kd.V_drew)); exact HO_454000.out) hb); have n2_ := zA (Kd.V_below (by (with_reducible repeat (first | apply Kd.V_alloc | apply Kd.V_drewN | apply Kd.V_drew)); exact HO_454001.out) hb); have n3_ := zA (Kd.V_below (by (with_reducible repeat (first | apply Kd.V_alloc | apply Kd.V_drewN | apply Kd.V_drew)); exact HL466_0.out) hb); have n4_ := zA (Kd.V_below (by (with_reducible repeat (first | apply Kd.V_alloc | apply Kd.V_drewN | apply Kd.V_drew)); exact HL471_0.out) hb); have n5_ := zA (blk_below (g := gb452) (o := .cells #[.slice A0_0 l0_0.length c0_0, .slice A0_1 l0_1.length c0_1] 40 (0, 0)) (zqB BK452.out) hb); have n6_ := zA (blk_below (g := gb453) (o := .cells #[.slice A1_0 l1_0.length c1_0, .slice A1_1 l1_1.length c1_1] 56 (0, 0)) (zqB BK453.out) hb); have n7_ := zA (Kd.C_below (by repeat (first | (with_reducible exact HR466_0.out) | (with_reducible refine Kd.C_alloc ?_ _) | (with_reducible refine Kd.C_drewN ?_ _) | (with_reducible refine Kd.C_drew ?_) | exact HR466_0.out)) hb); have n8_ := zA (Kd.C_below (by repeat (first | (with_reducible exact HR471_0.out) | (with_reducible refine Kd.C_alloc ?_ _) | (with_reducible refine Kd.C_drewN ?_ _) | (with_reducible refine Kd.C_drew ?_) | exact HR471_0.out)) hb); have n9_ := zA (below_step (zqH HB.out GE452.out GE453.out) hb); clear HO_5; clear HO_454000; clear HO_454001; clear HL466_0; clear HL471_0; clear BK452; clear BK453; clear HR466_0; clear HR471_0; clear HB; have HO_5 := n0_; have HO_454000 := n1_; have HO_454001 := n2_; have HL466_0 := n3_; have HL471_0 := n4_; have BK452 := n5_; have BK453 := n6_; have HR466_0 := n7_; have HR471_0 := n8_; have HB := n9_; clear n0_ n1_ n2_ n3_ n4_ n5_ n6_ n7_ n8_ n9_; (try clear hb); (try clear hb2); (try clear hk); (try clear hi)))
            go_ret
            exact ⟨zqR, zqH HB.out GE452.out GE453.out⟩
           ·
            rw [if_neg c43] at H
            have c43b0 : decide (500 < ((rd_L6 y463 x6_2).length : Int)) = false := decide_eq_false c43
            have c43b1 : decide (500 < (rd_L6 y463 x6_2).length) = false := decide_eq_false (by omega)
            clear c43
            have H' := zA H
            clear H
            obtain ⟨Ao47, co47, eo47⟩ := Kd.N_slice HO_5.out
            subst eo47
            have p466 : 0 ≤ (x6_2 : Int) := of_decide_eq_true (zqD)
            have q466 : x6_2 < (y463.length : Int) := of_decide_eq_true (zqD)
            obtain ⟨ad466, A466_0, c466_0, e466, hx466_0, hl466_0, hi466_0⟩ := at_L6 (Kd.N_reads' HO_5.out).2.2 x6_2 p466 q466
            cases e466
            obtain ⟨ce466, hce466, hMe466, hcc466⟩ := Kd.N_get HO_5.out [] x6_2 p466 (by first | exact q466 | exact of_decide_eq_true (zqD) | (have e_ := (Kd.N_reads' HO_5.out).1; omega))
            obtain ⟨ua466_0, uc466_0, rfl, ul466_0, ge466_0⟩ := Kd.FK_slice_open hMe466
            have hv466_0 := hcc466 0 _ rfl
            rw [Nat.add_zero, show ((Kd.slice 3 (Kd.int .i64))).sz = 1 from rfl, Nat.mul_one] at hv466_0
            replace hv466_0 := Option.some.inj (hv466_0.symm.trans hx466_0)
            injection hv466_0 with hva_ hvn_ hvc_
            rw [hva_] at ge466_0
            rw [hvc_] at ul466_0
            have HL466_0 := zA (show Kd.V (Kd.int .i64) 3 _ w.heap.size _ _ (rd_L6 y463 x6_2) from Kd.V_mk ul466_0 ge466_0)
            clear hva_ hvn_ hvc_ ge466_0 ul466_0 hcc466 hce466
            have HR466_0 := zA hi466_0
            have HC466_0 := zA hl466_0
            clear hi466_0 hl466_0; replace p466 := eq_true p466; replace q466 := eq_true q466
            have p471 : 0 ≤ (x6_2 : Int) := of_decide_eq_true (zqD)
            have q471 : x6_2 < (y463.length : Int) := of_decide_eq_true (zqD)
            obtain ⟨ad471, A471_0, c471_0, e471, hx471_0, hl471_0, hi471_0⟩ := at_L6 (Kd.N_reads' HO_5.out).2.2 x6_2 p471 q471
            obtain rfl : ad466 = ad471 := (by injection e471)
            obtain ⟨ce471, hce471, hMe471, hcc471⟩ := Kd.N_get HO_5.out [] x6_2 p471 (by first | exact q471 | exact of_decide_eq_true (zqD) | (have e_ := (Kd.N_reads' HO_5.out).1; omega))
            obtain ⟨ua471_0, uc471_0, rfl, ul471_0, ge471_0⟩ := Kd.FK_slice_open hMe471
            have hv471_0 := hcc471 0 _ rfl
            rw [Nat.add_zero, show ((Kd.slice 3 (Kd.int .i64))).sz = 1 from rfl, Nat.mul_one] at hv471_0
            replace hv471_0 := Option.some.inj (hv471_0.symm.trans hx471_0)
            injection hv471_0 with hva_ hvn_ hvc_
            rw [hva_] at ge471_0
            rw [hvc_] at ul471_0
            have HL471_0 := zA (show Kd.V (Kd.int .i64) 3 _ w.heap.size _ _ (rd_L6 y463 x6_2) from Kd.V_mk ul471_0 ge471_0)
            clear hva_ hvn_ hvc_ ge471_0 ul471_0 hcc471 hce471
            have HR471_0 := zA hi471_0
            have HC471_0 := zA hl471_0
            clear hi471_0 hl471_0; replace p471 := eq_true p471; replace q471 := eq_true q471
            have ea_ := Option.some.inj (hx466_0.symm.trans hx471_0)
            injection ea_ with ea_ en_ ec_
            subst ea_; subst ec_; clear en_
            go_wp2
            go_roundg k2
            case measure => have := HJ2.out; have := HK2.out; omega
            case rel => exact ⟨(wrap64 (x6_2 + 1)), zqQ, H', ⟨by have := HJ2.out; have := HK2.out; omega⟩, ⟨zqN HO_5.out⟩, ⟨by (with_reducible repeat (first | apply Kd.V_alloc | apply Kd.V_drewN | apply Kd.V_drew)); exact HO_454000.out⟩, ⟨by (with_reducible repeat (first | apply Kd.V_alloc | apply Kd.V_drewN | apply Kd.V_drew)); exact HO_454001.out⟩, ⟨zqB BK452.out⟩, ⟨zqB BK453.out⟩, ⟨zqH HB.out GE452.out GE453.out⟩⟩
         ·
          rw [if_neg c32] at H
          exact absurd H (by simp)
        ·
         rw [if_neg c31] at H
         have c31b0 : decide (x6_2 < (y463.length : Int)) = false := decide_eq_false c31
         clear c31
         replace H := Option.bind_eq_some_iff.mp H
         obtain ⟨⟨t473, t476, t479⟩, A480, H⟩ := H
         replace H : ((pianolalaw04_plant.f k2 l0_0 l0_1).bind fun bt480 => ((pianolaref04_Lacks.f k2 bt480.1 bt480.2 l1_0 l1_1).bind fun bt486 => ((pianolalaw04_numbers.f k2 t473 bt486.1).bind fun t493 => (if t493 = true then ((pianolalaw04_numbers.f k2 t476 bt486.2.1).bind fun t494 => (if t494 = true then (if t479 = bt486.2.2 then ((pianolalaw04_works.f).bind fun t495 => (some t495)) else (some false)) else (some false))) else (some false))))) = some r := H
         have A48 := zA A480
         clear A480
         replace H := Option.bind_eq_some_iff.mp H
         obtain ⟨⟨t480, t483⟩, A490, H⟩ := H
         replace H : ((pianolaref04_Lacks.f k2 t480 t483 l1_0 l1_1).bind fun bt486 => ((pianolalaw04_numbers.f k2 t473 bt486.1).bind fun t493 => (if t493 = true then ((pianolalaw04_numbers.f k2 t476 bt486.2.1).bind fun t494 => (if t494 = true then (if t479 = bt486.2.2 then ((pianolalaw04_works.f).bind fun t495 => (some t495)) else (some false)) else (some false))) else (some false)))) = some r := H
         have A49 := zA A490
         clear A490
         replace H := Option.bind_eq_some_iff.mp H
         obtain ⟨⟨t486, t489, t492⟩, A500, H⟩ := H
         replace H : ((pianolalaw04_numbers.f k2 t473 t486).bind fun t493 => (if t493 = true then ((pianolalaw04_numbers.f k2 t476 t489).bind fun t494 => (if t494 = true then (if t479 = t492 then ((pianolalaw04_works.f).bind fun t495 => (some t495)) else (some false)) else (some false))) else (some false))) = some r := H
         have A50 := zA A500
         clear A500
         replace H := Option.bind_eq_some_iff.mp H
         obtain ⟨t493, A510, H⟩ := H
         replace H : (if t493 = true then ((pianolalaw04_numbers.f k2 t476 t489).bind fun t494 => (if t494 = true then (if t479 = t492 then ((pianolalaw04_works.f).bind fun t495 => (some t495)) else (some false)) else (some false))) else (some false)) = some r := H
         have A51 := zA A510
         clear A510
         by_cases c52 : t493 = true
         ·
          subst c52
          have H1 : ((pianolalaw04_numbers.f k2 t476 t489).bind fun t494 => (if t494 = true then (if t479 = t492 then ((pianolalaw04_works.f).bind fun t495 => (some t495)) else (some false)) else (some false))) = some r := by rw [if_pos rfl] at H; exact H
          clear H; have H := H1; clear H1
          replace H := Option.bind_eq_some_iff.mp H
          obtain ⟨t494, A530, H⟩ := H
          replace H : (if t494 = true then (if t479 = t492 then ((pianolalaw04_works.f).bind fun t495 => (some t495)) else (some false)) else (some false)) = some r := H
          have A53 := zA A530
          clear A530
          by_cases c54 : t494 = true
          ·
           subst c54
           have H1 : (if t479 = t492 then ((pianolalaw04_works.f).bind fun t495 => (some t495)) else (some false)) = some r := by rw [if_pos rfl] at H; exact H
           clear H; have H := H1; clear H1
           by_cases c55 : t479 = t492
           ·
            rw [if_pos c55] at H
            have c55b0 : (t479 == t492) = true := beq_iff_eq.mpr c55
            have c55b1 : (t479 != t492) = false := bne_eq_false_iff_eq.mpr c55
            clear c55
            replace H := Option.bind_eq_some_iff.mp H
            obtain ⟨t495, A560, H⟩ := H
            replace H : (some t495) = some r := H
            have A56 := zA A560
            clear A560
            obtain rfl := Option.some.inj H
            obtain ⟨Ao57, co57, eo57⟩ := Kd.N_slice HO_5.out
            subst eo57
            have hnb58 := NB452_453.out
            have hnc58 := NB453_452.out
            have hcz59_0 : wr.cell? ⟨gb452, 0, none⟩ = some (.slice A0_0 l0_0.length c0_0) := (blk_cell BK452.out 0).trans rfl
            have hcz59_1 : wr.cell? ⟨gb452, 1, none⟩ = some (.slice A0_1 l0_1.length c0_1) := (blk_cell BK452.out 1).trans rfl
            have hfz59_0 := blk_frozen BK452.out 0
            have hfz59_1 := blk_frozen BK452.out 1
            have hcz60_0 : wr.cell? ⟨gb453, 0, none⟩ = some (.slice A1_0 l1_0.length c1_0) := (blk_cell BK453.out 0).trans rfl
            have hcz60_1 : wr.cell? ⟨gb453, 1, none⟩ = some (.slice A1_1 l1_1.length c1_1) := (blk_cell BK453.out 1).trans rfl
            have hfz60_0 := blk_frozen BK453.out 0
            have hfz60_1 := blk_frozen BK453.out 1
            try go_wp2_with (first | ((with_reducible refine gate_callee (f := 38) rfl ?_); refine goesL_ (some 73) rfl rfl Try.func38 (by kernel_rfl) rfl #[.agg #[.slice A0_0 l0_0.length c0_0, .slice A0_1 l0_1.length c0_1], .agg #[.slice A1_0 l1_0.length c1_0, .slice A1_1 l1_1.length c1_1]] rfl zqE ?_; (with_reducible refine (pump_LacksG.calls _ _ l0_0 _ _ l0_1 _ _ l1_0 _ _ l1_1 t473 t476 t479 _ ?side1 ?side2 ?side3 ?side4 ?side5 ?side6 ?side7 ?side8 A48.out).mono ?_); (case side1 => exact zqK (Kd.C_below HR0_0.out HB.out)); (case side2 => exact HC0_0.out); (case side3 => exact zqK (Kd.C_below HR0_1.out HB.out)); (case side4 => exact HC0_1.out); (case side5 => exact zqK (Kd.V_reads' HO_454000.out).2.2); (case side6 => exact (Kd.V_reads' HO_454000.out).2.1); (case side7 => exact zqK (Kd.V_reads' HO_454001.out).2.2); (case side8 => exact (Kd.V_reads' HO_454001.out).2.1); rintro e w61 ⟨v474, v477, rfl, ho0, ho1, hb⟩; refine ⟨_, rfl, ?_⟩; have n0_ := zA (Kd.N_mono (Kd.N_told (Kd.N_told (Kd.N_old (zqN HO_5.out) hb) (Kd.R_base ho0)) (Kd.R_base ho1)) (fun _ h_ => h_.1)); have n1_ := zA (Kd.V_mono (Kd.V_told (Kd.V_told (Kd.V_old (by (with_reducible repeat (first | apply Kd.V_alloc | apply Kd.V_drewN | apply Kd.V_drew)); exact HO_454000.out) hb) (Kd.R_base ho0)) (Kd.R_base ho1)) (fun _ h_ => h_.1)); have n2_ := zA (Kd.V_mono (Kd.V_told (Kd.V_told (Kd.V_old (by (with_reducible repeat (first | apply Kd.V_alloc | apply Kd.V_drewN | apply Kd.V_drew)); exact HO_454001.out) hb) (Kd.R_base ho0)) (Kd.R_base ho1)) (fun _ h_ => h_.1)); have n3_ := zA (Kd.R_lower (Kd.R_newM (M := fun k_ => (w.heap.size ≤ k_)) ho0 (below_size (zqH HB.out GE452.out GE453.out)) (fun k_ h_ => h_)) (below_size (zqH HB.out GE452.out GE453.out))); have n4_ := zA (Kd.R_lower (Kd.R_newM (M := fun k_ => (w.heap.size ≤ k_)) ho1 (below_size (zqH HB.out GE452.out GE453.out)) (fun k_ h_ => h_)) (below_size (zqH HB.out GE452.out GE453.out))); have n5_ := zA (blk_below (g := gb452) (o := .cells #[.slice A0_0 l0_0.length c0_0, .slice A0_1 l0_1.length c0_1] 40 (0, 0)) (zqB BK452.out) hb); have n6_ := zA (blk_below (g := gb453) (o := .cells #[.slice A1_0 l1_0.length c1_0, .slice A1_1 l1_1.length c1_1] 56 (0, 0)) (zqB BK453.out) hb); have n7_ := zA (below_step (zqH HB.out GE452.out GE453.out) hb); clear HO_5; clear HO_454000; clear HO_454001; clear BK452; clear BK453; clear HB; have HO_5 := n0_; have HO_454000 := n1_; have HO_454001 := n2_; have HO475 := n3_; have HO478 := n4_; have BK452 := n5_; have BK453 := n6_; have HB := n7_; clear n0_ n1_ n2_ n3_ n4_ n5_ n6_ n7_; (try clear hb); (try clear hb2); (try clear hk); (try clear hi); (try clear ho0); (try clear ho1)))
            have n0_ := zA (Kd.N_drew HO_5.out); have n1_ := zA (Kd.V_drew HO_454000.out); have n2_ := zA (Kd.V_drew HO_454001.out); have n3_ := zA (Kd.R_drew HO475.out); have n4_ := zA (Kd.R_drew HO478.out); have n5_ := zA (blk_drew BK452.out); have n6_ := zA (blk_drew BK453.out); have n7_ := zA (below_drew1 HB.out); clear HO_5 HO_454000 HO_454001 HO475 HO478 BK452 BK453 HB; have HO_5 := n0_; have HO_454000 := n1_; have HO_454001 := n2_; have HO475 := n3_; have HO478 := n4_; have BK452 := n5_; have BK453 := n6_; have HB := n7_; clear n0_ n1_ n2_ n3_ n4_ n5_ n6_ n7_
            refine start_ (n := 11) (S := fun w' => w'.cell? ⟨gb452, 0, none⟩ = some (.slice A0_0 l0_0.length c0_0) ∧ w'.cell? ⟨gb452, 1, none⟩ = some (.slice A0_1 l0_1.length c0_1) ∧ w'.cell? ⟨gb453, 0, none⟩ = some (.slice A1_0 l1_0.length c1_0) ∧ w'.cell? ⟨gb453, 1, none⟩ = some (.slice A1_1 l1_1.length c1_1)) (ds := []) #[false, false, false, false, false, false, false, false, false, false, false] (by kernel_rfl) rfl rfl ⟨(blk_cell BK452.out 0).trans rfl, (blk_cell BK452.out 1).trans rfl, (blk_cell BK453.out 0).trans rfl, (blk_cell BK453.out 1).trans rfl⟩ (fun hHeld => ?_); refine with_tabW pianolalaw04_PumpLacks.tab10 pianolalaw04_PumpLacks.bits10 (fun HT_ HW_ => ?_)
            generalize w61.drew = w62 at HO_5 HO_454000 HO_454001 HO475 HO478 BK452 BK453 HB hHeld ⊢
            refine take_ (i := 0) (N := some 78) (v := ?_) (a' := ?_) #[true, false, false, false, false, false, false, false, false, false, false] rfl rfl (take_ofW HT_.out HW_.out (by kernel_rfl)) (fun _ _ _ h => h) (Or.inl ⟨by rfl, ?_⟩) hHeld ?_ ?_
            rotate_left
            ·
             rintro w' ⟨s0, s1, s2, s3⟩
             go_simp
             with_reducible rfl
            rotate_left
            · simp only [Act.put, List.setIfInBounds_toArray, List.set_cons_zero, List.set_cons_succ, i64_w, i32_w]; rfl
            refine take_ (i := 2) (N := some 80) (v := ?_) (a' := ?_) #[true, false, true, false, false, false, false, false, false, false, false] rfl rfl (take_ofW HT_.out HW_.out (by kernel_rfl)) (fun _ _ _ h => h) (Or.inl ⟨by rfl, ?_⟩) hHeld ?_ ?_
            rotate_left
            ·
             rintro w' ⟨s0, s1, s2, s3⟩
             go_simp
             with_reducible rfl
            rotate_left
            · simp only [Act.put, List.setIfInBounds_toArray, List.set_cons_zero, List.set_cons_succ, i64_w, i32_w]; rfl
            refine one_ (i := 1) (N := some 79) #[true, true, true, false, false, false, false, false, false, false, false] rfl rfl (one_of HT_.out (by kernel_rfl)) (by decide) (fun K hK => ?_)
            refine goes_ Try.func27 (by kernel_rfl) rfl #[.agg #[.slice A0_0 l0_0.length c0_0, .slice A0_1 l0_1.length c0_1]] (by rfl) rfl rfl zqE ?_
            with_reducible refine (pianolalaw04_plant.calls k2 _ _ l0_0 _ _ l0_1 t480 t483 _ ?side1 ?side2 ?side3 ?side4 A49.out).mono ?_
            (case side1 => exact zqK (Kd.C_below HR0_0.out HB.out))
            (case side2 => exact HC0_0.out)
            (case side3 => exact zqK (Kd.C_below HR0_1.out HB.out))
            (case side4 => exact HC0_1.out)
            rintro e w63 ⟨v481, v484, rfl, ho0, ho1, hb⟩
            refine ⟨_, rfl, ?_⟩
            have n0_ := zA (Kd.N_mono (Kd.N_told (Kd.N_told (Kd.N_old (zqN HO_5.out) hb) (Kd.S_base ho0)) (Kd.S_base ho1)) (fun _ h_ => h_.1))
            have n1_ := zA (Kd.V_mono (Kd.V_told (Kd.V_told (Kd.V_old (by (with_reducible repeat (first | apply Kd.V_alloc | apply Kd.V_drewN | apply Kd.V_drew)); exact HO_454000.out) hb) (Kd.S_base ho0)) (Kd.S_base ho1)) (fun _ h_ => h_.1))
            have n2_ := zA (Kd.V_mono (Kd.V_told (Kd.V_told (Kd.V_old (by (with_reducible repeat (first | apply Kd.V_alloc | apply Kd.V_drewN | apply Kd.V_drew)); exact HO_454001.out) hb) (Kd.S_base ho0)) (Kd.S_base ho1)) (fun _ h_ => h_.1))
            have n3_ := zA (Kd.R_below (zqC HO475.out) hb); have n4_ := zA (Kd.R_below (zqC HO478.out) hb); have n5_ := zA (Kd.N_lower (Kd.N_mono (ok' := fun k_ => ((P1_0_ k_ ∨ P1_1_ k_) ∨ w.heap.size ≤ k_) ∧ some k_ ≠ (v484 : Value).ownBlock ∧ some k_ ≠ (.slice Ao57 y463.length co57 : Value).ownBlock ∧ some k_ ≠ (v474 : Value).ownBlock ∧ some k_ ≠ (v477 : Value).ownBlock ∧ k_ ≠ gb452 ∧ k_ ≠ gb453) (Kd.S_N (Kd.S_bound ho0)) (fun k_ hk_ => ⟨(.inr (Nat.le_trans (below_size (zqH HB.out GE452.out GE453.out)) hk_.2.1)), hk_.1, (Kd.fresh' (Kd.N_lt (zqN HO_5.out)) k_ hk_.2.1), (Kd.fresh' (Kd.R_lt (zqC HO475.out)) k_ hk_.2.1), (Kd.fresh' (Kd.R_lt (zqC HO478.out)) k_ hk_.2.1), (Kd.freshB (g := gb452) (zqB BK452.out) k_ hk_.2.1), (Kd.freshB (g := gb453) (zqB BK453.out) k_ hk_.2.1)⟩)) (below_size (zqH HB.out GE452.out GE453.out))); have n6_ := zA (Kd.N_lower (Kd.N_mono (ok' := fun k_ => ((P1_0_ k_ ∨ P1_1_ k_) ∨ w.heap.size ≤ k_) ∧ some k_ ≠ (v481 : Value).ownBlock ∧ some k_ ≠ (.slice Ao57 y463.length co57 : Value).ownBlock ∧ some k_ ≠ (v474 : Value).ownBlock ∧ some k_ ≠ (v477 : Value).ownBlock ∧ k_ ≠ gb452 ∧ k_ ≠ gb453) (Kd.S_N (Kd.S_bound ho1)) (fun k_ hk_ => ⟨(.inr (Nat.le_trans (below_size (zqH HB.out GE452.out GE453.out)) hk_.2.1)), hk_.1, (Kd.fresh' (Kd.N_lt (zqN HO_5.out)) k_ hk_.2.1), (Kd.fresh' (Kd.R_lt (zqC HO475.out)) k_ hk_.2.1), (Kd.fresh' (Kd.R_lt (zqC HO478.out)) k_ hk_.2.1), (Kd.freshB (g := gb452) (zqB BK452.out) k_ hk_.2.1), (Kd.freshB (g := gb453) (zqB BK453.out) k_ hk_.2.1)⟩)) (below_size (zqH HB.out GE452.out GE453.out))); have n7_ := zA (blk_below (g := gb452) (zqB BK452.out) hb); have n8_ := zA (blk_below (g := gb453) (zqB BK453.out) hb); have n9_ := zA (below_step (zqH HB.out GE452.out GE453.out) hb); clear HO_5 HO_454000 HO_454001 HO475 HO478 BK452 BK453 HB; have HO_5 := n0_; have HO_454000 := n1_; have HO_454001 := n2_; have HO475 := n3_; have HO478 := n4_; have HO482 := n5_; have HO485 := n6_; have BK452 := n7_; have BK453 := n8_; have HB := n9_; clear n0_ n1_ n2_ n3_ n4_ n5_ n6_ n7_ n8_ n9_
            (try clear hb); (try clear hb2); (try clear hk); (try clear hi); (try clear ho0)
            (try clear ho1)
            obtain ⟨Ao64, co64, eo64⟩ := Kd.N_slice HO482.out
            (first | subst eo64 | (injection eo64 with f1_ f2_ f3_; have f4_ := f1_.symm; have f5_ := f3_.symm; clear f1_ f2_ f3_; subst f4_; subst f5_))
            obtain ⟨Ao65, co65, eo65⟩ := Kd.N_slice HO485.out
            (first | subst eo65 | (injection eo65 with f1_ f2_ f3_; have f4_ := f1_.symm; have f5_ := f3_.symm; clear f1_ f2_ f3_; subst f4_; subst f5_))
            refine hK.out _ _ ⟨(blk_cell BK452.out 0).trans rfl, (blk_cell BK452.out 1).trans rfl, (blk_cell BK453.out 0).trans rfl, (blk_cell BK453.out 1).trans rfl⟩ (fun hHeld => ?_)
            clear hK K; refine norm_ (a' := ?_) ?_ ?_; rotate_left
            · show Act.put _ (some 79) _ = _; simp only [Act.put, List.setIfInBounds_toArray, List.set_cons_zero, List.set_cons_succ, i64_w, i32_w]; rfl
            refine one_ (i := 3) (N := some 81) #[true, true, true, true, false, false, false, false, false, false, false] rfl rfl (one_of HT_.out (by kernel_rfl)) (by decide) (fun K hK => ?_)
            refine goes_ Try.func37 (by kernel_rfl) rfl #[.agg #[.slice Ao64 t480.length co64, .slice Ao65 t483.length co65], .agg #[.slice A1_0 l1_0.length c1_0, .slice A1_1 l1_1.length c1_1]] (by rfl) rfl rfl zqE ?_
            with_reducible refine (pianolaref04_Lacks.calls k2 _ _ t480 _ _ t483 _ _ l1_0 _ _ l1_1 t486 t489 t492 _ ?side1 ?side2 ?side3 ?side4 ?side5 ?side6 ?side7 ?side8 A50.out).mono ?_
            (case side1 => exact zqK (Kd.N_reads' HO482.out).2.2)
            (case side2 => exact (Kd.N_reads' HO482.out).2.1)
            (case side3 => exact zqK (Kd.N_reads' HO485.out).2.2)
            (case side4 => exact (Kd.N_reads' HO485.out).2.1)
            (case side5 => exact zqK (Kd.V_reads' HO_454000.out).2.2)
            (case side6 => exact (Kd.V_reads' HO_454000.out).2.1)
            (case side7 => exact zqK (Kd.V_reads' HO_454001.out).2.2)
            (case side8 => exact (Kd.V_reads' HO_454001.out).2.1)
            rintro e w66 ⟨v487, v490, rfl, ho0, ho1, hb⟩
            refine ⟨_, rfl, ?_⟩
            have n0_ := zA (Kd.N_mono (Kd.N_told (Kd.N_told (Kd.N_old (zqN HO_5.out) hb) (Kd.R_base ho0)) (Kd.R_base ho1)) (fun _ h_ => h_.1))
            have n1_ := zA (Kd.V_mono (Kd.V_told (Kd.V_told (Kd.V_old (by (with_reducible repeat (first | apply Kd.V_alloc | apply Kd.V_drewN | apply Kd.V_drew)); exact HO_454000.out) hb) (Kd.R_base ho0)) (Kd.R_base ho1)) (fun _ h_ => h_.1))
            have n2_ := zA (Kd.V_mono (Kd.V_told (Kd.V_told (Kd.V_old (by (with_reducible repeat (first | apply Kd.V_alloc | apply Kd.V_drewN | apply Kd.V_drew)); exact HO_454001.out) hb) (Kd.R_base ho0)) (Kd.R_base ho1)) (fun _ h_ => h_.1))
            have n3_ := zA (Kd.R_mono (Kd.R_told (Kd.R_told (Kd.R_old (zqC HO475.out) hb) (Kd.R_base ho0)) (Kd.R_base ho1)) (fun _ h_ => h_.1)); have n4_ := zA (Kd.R_mono (Kd.R_told (Kd.R_told (Kd.R_old (zqC HO478.out) hb) (Kd.R_base ho0)) (Kd.R_base ho1)) (fun _ h_ => h_.1)); have n5_ := zA (Kd.N_mono (Kd.N_told (Kd.N_told (Kd.N_old (zqN HO482.out) hb) (Kd.R_base ho0)) (Kd.R_base ho1)) (fun _ h_ => h_.1)); have n6_ := zA (Kd.N_mono (Kd.N_told (Kd.N_told (Kd.N_old (zqN HO485.out) hb) (Kd.R_base ho0)) (Kd.R_base ho1)) (fun _ h_ => h_.1)); have n7_ := zA (Kd.R_lower (Kd.R_new' (Kd.R_new' (Kd.R_newM (M := fun k_ => (w.heap.size ≤ k_)) ho0 (below_size (zqH HB.out GE452.out GE453.out)) (fun k_ h_ => h_)) (Kd.R_lt (zqC HO475.out))) (Kd.R_lt (zqC HO478.out))) (below_size (zqH HB.out GE452.out GE453.out))); have n8_ := zA (Kd.R_lower (Kd.R_new' (Kd.R_new' (Kd.R_newM (M := fun k_ => (w.heap.size ≤ k_)) ho1 (below_size (zqH HB.out GE452.out GE453.out)) (fun k_ h_ => h_)) (Kd.R_lt (zqC HO475.out))) (Kd.R_lt (zqC HO478.out))) (below_size (zqH HB.out GE452.out GE453.out))); have n9_ := zA (blk_below (g := gb452) (zqB BK452.out) hb); have n10_ := zA (blk_below (g := gb453) (zqB BK453.out) hb); have n11_ := zA (below_step (zqH HB.out GE452.out GE453.out) hb); clear HO_5 HO_454000 HO_454001 HO475 HO478 HO482 HO485 BK452 BK453 HB; have HO_5 := n0_; have HO_454000 := n1_; have HO_454001 := n2_; have HO475 := n3_; have HO478 := n4_; have HO482 := n5_; have HO485 := n6_; have HO488 := n7_; have HO491 := n8_; have BK452 := n9_; have BK453 := n10_; have HB := n11_; clear n0_ n1_ n2_ n3_ n4_ n5_ n6_ n7_ n8_ n9_ n10_ n11_
            (try clear hb); (try clear hb2); (try clear hk); (try clear hi); (try clear ho0)
            (try clear ho1)
            refine hK.out _ _ ⟨(blk_cell BK452.out 0).trans rfl, (blk_cell BK452.out 1).trans rfl, (blk_cell BK453.out 0).trans rfl, (blk_cell BK453.out 1).trans rfl⟩ (fun hHeld => ?_)
            clear hK K; refine norm_ (a' := ?_) ?_ ?_; rotate_left
            · show Act.put _ (some 81) _ = _; simp only [Act.put, List.setIfInBounds_toArray, List.set_cons_zero, List.set_cons_succ, i64_w, i32_w]; rfl
            refine pure_ (i := 4) (N := some 77) (v := ?_) (a' := ?_) #[true, true, true, true, true, false, false, false, false, false, false] rfl rfl (any_of HT_.out (by kernel_rfl)) (fun _ _ _ h => h) (Or.inl ⟨by rfl, ?_⟩) ?_ ?_
            rotate_left
            ·
             intro w'
             go_simp
             with_reducible rfl
            rotate_left
            · simp only [Act.put, List.setIfInBounds_toArray, List.set_cons_zero, List.set_cons_succ, i64_w, i32_w]; rfl
            refine pure_ (i := 5) (N := some 82) (v := ?_) (a' := ?_) #[true, true, true, true, true, true, false, false, false, false, false] rfl rfl (any_of HT_.out (by kernel_rfl)) (fun _ _ _ h => h) (Or.inl ⟨by rfl, ?_⟩) ?_ ?_
            rotate_left
            ·
             intro w'
             go_simp
             with_reducible rfl
            rotate_left
            · simp only [Act.put, List.setIfInBounds_toArray, List.set_cons_zero, List.set_cons_succ, i64_w, i32_w]; rfl
            refine pure_ (i := 6) (N := some 83) (v := ?_) (a' := ?_) #[true, true, true, true, true, true, true, false, false, false, false] rfl rfl (any_of HT_.out (by kernel_rfl)) (fun _ _ _ h => h) (Or.inl ⟨by rfl, ?_⟩) ?_ ?_
            rotate_left
            ·
             intro w'
             go_simp
             with_reducible rfl
            rotate_left
            · simp only [Act.put, List.setIfInBounds_toArray, List.set_cons_zero, List.set_cons_succ, i64_w, i32_w]; rfl
            refine pure_ (i := 7) (N := some 84) (v := ?_) (a' := ?_) #[true, true, true, true, true, true, true, true, false, false, false] rfl rfl (any_of HT_.out (by kernel_rfl)) (fun _ _ _ h => h) (Or.inl ⟨by rfl, ?_⟩) ?_ ?_
            rotate_left
            ·
             intro w'
             go_simp
             with_reducible rfl
            rotate_left
            · simp only [Act.put, List.setIfInBounds_toArray, List.set_cons_zero, List.set_cons_succ, i64_w, i32_w]; rfl
            refine pure_ (i := 8) (N := some 10) (v := ?_) (a' := ?_) #[true, true, true, true, true, true, true, true, true, false, false] rfl rfl (any_of HT_.out (by kernel_rfl)) (fun _ _ _ h => h) (Or.inl ⟨by rfl, ?_⟩) ?_ ?_
            rotate_left
            ·
             intro w'
             go_simp
             with_reducible rfl
            rotate_left
            · simp only [Act.put, List.setIfInBounds_toArray, List.set_cons_zero, List.set_cons_succ, i64_w, i32_w]; rfl
            refine pure_ (i := 9) (N := some 11) (v := ?_) (a' := ?_) #[true, true, true, true, true, true, true, true, true, true, false] rfl rfl (any_of HT_.out (by kernel_rfl)) (fun _ _ _ h => h) (Or.inl ⟨by rfl, ?_⟩) ?_ ?_
            rotate_left
            ·
             intro w'
             go_simp
             with_reducible rfl
            rotate_left
            · simp only [Act.put, List.setIfInBounds_toArray, List.set_cons_zero, List.set_cons_succ, i64_w, i32_w]; rfl
            refine pure_ (i := 10) (N := some 12) (v := ?_) (a' := ?_) #[true, true, true, true, true, true, true, true, true, true, true] rfl rfl (any_of HT_.out (by kernel_rfl)) (fun _ _ _ h => h) (Or.inl ⟨by rfl, ?_⟩) ?_ ?_
            rotate_left
            ·
             intro w'
             go_simp
             with_reducible rfl
            rotate_left
            · simp only [Act.put, List.setIfInBounds_toArray, List.set_cons_zero, List.set_cons_succ, i64_w, i32_w]; rfl
            refine done_ (done_of HT_.out (by kernel_rfl)) ?_
            obtain ⟨Ao67, co67, eo67⟩ := Kd.R_slice HO475.out
            subst eo67
            obtain ⟨Ao68, co68, eo68⟩ := Kd.R_slice HO488.out
            subst eo68
            try go_wp2_with (first | ((with_reducible refine gate_callee (f := 39) rfl ?_); refine goesL_ (some 87) rfl rfl Try.func39 (by kernel_rfl) rfl #[.slice Ao67 t473.length co67, .slice Ao68 t486.length co68] rfl zqE ?_; (with_reducible refine (pianolalaw04_numbers.calls k2 _ _ t473 _ _ t486 true _ ?side1 ?side2 ?side3 ?side4 A51.out).mono ?_); (case side1 => exact zqK (Kd.R_reads' HO475.out).2.2); (case side2 => exact (Kd.R_reads' HO475.out).2.1); (case side3 => exact zqK (Kd.R_reads' HO488.out).2.2); (case side4 => exact (Kd.R_reads' HO488.out).2.1); rintro e w' ⟨rfl, ⟨nd, rfl⟩⟩; refine ⟨_, rfl, ?_⟩; obtain ⟨Ao69, co69, eo69⟩ := Kd.R_slice HO478.out; subst eo69; obtain ⟨Ao70, co70, eo70⟩ := Kd.R_slice HO491.out; subst eo70) | (go_at_call 39; (with_reducible refine (pianolalaw04_numbers.calls k2 _ _ t476 _ _ t489 true _ ?side1 ?side2 ?side3 ?side4 A53.out).mono ?_); (case side1 => exact zqK (Kd.R_reads' HO478.out).2.2); (case side2 => exact (Kd.R_reads' HO478.out).2.1); (case side3 => exact zqK (Kd.R_reads' HO491.out).2.2); (case side4 => exact (Kd.R_reads' HO491.out).2.1); rintro e w' ⟨rfl, ⟨nd, rfl⟩⟩) | (go_at_call 15; (with_reducible refine (pianolalaw04_works.calls  t495 _ A56.out).mono ?_); rintro e w71 ⟨rfl, hb⟩; have n0_ := zA (Kd.N_below (zqN HO_5.out) hb); have n1_ := zA (Kd.V_below (by (with_reducible repeat (first | apply Kd.V_alloc | apply Kd.V_drewN | apply Kd.V_drew)); exact HO_454000.out) hb); have n2_ := zA (Kd.V_below (by (with_reducible repeat (first | apply Kd.V_alloc | apply Kd.V_drewN | apply Kd.V_drew)); exact HO_454001.out) hb); have n3_ := zA (Kd.R_below (zqC HO475.out) hb); have n4_ := zA (Kd.R_below (zqC HO478.out) hb); have n5_ := zA (Kd.N_below (zqN HO482.out) hb); have n6_ := zA (Kd.N_below (zqN HO485.out) hb); have n7_ := zA (Kd.R_below (zqC HO488.out) hb); have n8_ := zA (Kd.R_below (zqC HO491.out) hb); have n9_ := zA (blk_below (g := gb452) (o := .cells #[.slice A0_0 l0_0.length c0_0, .slice A0_1 l0_1.length c0_1] 40 (0, 0)) (zqB BK452.out) hb); have n10_ := zA (blk_below (g := gb453) (o := .cells #[.slice A1_0 l1_0.length c1_0, .slice A1_1 l1_1.length c1_1] 56 (0, 0)) (zqB BK453.out) hb); have n11_ := zA (below_step (zqH HB.out GE452.out GE453.out) hb); clear HO_5; clear HO_454000; clear HO_454001; clear HO475; clear HO478; clear HO482; clear HO485; clear HO488; clear HO491; clear BK452; clear BK453; clear HB; have HO_5 := n0_; have HO_454000 := n1_; have HO_454001 := n2_; have HO475 := n3_; have HO478 := n4_; have HO482 := n5_; have HO485 := n6_; have HO488 := n7_; have HO491 := n8_; have BK452 := n9_; have BK453 := n10_; have HB := n11_; clear n0_ n1_ n2_ n3_ n4_ n5_ n6_ n7_ n8_ n9_ n10_ n11_; (try clear hb); (try clear hb2); (try clear hk); (try clear hi)))
            go_ret
            exact ⟨zqR, zqH HB.out GE452.out GE453.out⟩
           ·
            rw [if_neg c55] at H
            exact absurd ((Option.some.inj H).trans HRT.out) (by decide)
          ·
           replace c54 := Bool.eq_false_iff.mpr c54
           subst c54
           have H1 : (some false) = some r := by rw [if_neg (show ¬ (false = true) by decide)] at H; exact H
           clear H; have H := H1; clear H1
           exact absurd ((Option.some.inj H).trans HRT.out) (by decide)
         ·
          replace c52 := Bool.eq_false_iff.mpr c52
          subst c52
          have H1 : (some false) = some r := by rw [if_neg (show ¬ (false = true) by decide)] at H; exact H
          clear H; have H := H1; clear H1
          exact absurd ((Option.some.inj H).trans HRT.out) (by decide)
     ·
      rw [if_neg c25] at H
      exact absurd H (by simp)
    ·
     rw [if_neg c24] at H
     exact absurd H (by simp)
end Go.Proofs.Ythoeindopljmkaa.P
end
section
namespace Go.Proofs.Ythoeindopljmkaa.P
open Go.RowKit Go.Proofs.YthoeindopljmkaaW.PrintWords Go.Proofs.YthoeindopljmkaaW.PrintLast Go.Proofs.YthoeindopljmkaaW.PrintMore
open Pm
set_option linter.unusedSectionVars false
section
variable {l : List S71} (hb : Bds (bs l)) (hl : l.length ≤ 1000)
include hb hl
theorem bs_at {i : Nat} (h : i < l.length) : (1 ≤ (rd_T71 l i).f0 ∧ (rd_T71 l i).f0 ≤ 100) ∧ 0 ≤ (rd_T71 l i).f1 ∧ (rd_T71 l i).f1 ≤ 1000000 := by
  have hm : ((rd_T71 l i).f0, (rd_T71 l i).f1) ∈ bs l := List.mem_of_mem_drop (i := i) (by rw [bs_drop l h]; exact List.mem_cons_self)
  exact ⟨hb.t _ hm, hb.a _ hm⟩
end
end Go.Proofs.Ythoeindopljmkaa.P
end
section
namespace Go.Proofs.Ythoeindopljmkaa.P
open Go.RowKit Go.Proofs.YthoeindopljmkaaW.PrintWords Go.Proofs.YthoeindopljmkaaW.PrintLast Go.Proofs.YthoeindopljmkaaW.PrintMore
open Pm
set_option linter.unusedSectionVars false
theorem btw_isB (a v b : Int) : btw a v b = isB v a b := by
  rw [Bool.eq_iff_iff]; unfold btw isB
  simp only [Bool.and_eq_true, decide_eq_true_eq]
theorem rd_L6_get {all : List (List Int)} {i : Nat} (hi : i < all.length) : rd_L6 all (i : Int) = all[i] := by
  unfold rd_L6
  rw [List.getD_eq_getElem?_getD, Int.toNat_natCast, List.getElem?_eq_getElem hi]
  rfl
theorem rd_get {x : List Int} {i : Nat} (hi : i < x.length) : rd x (i : Int) = x[i] := by
  unfold rd
  rw [List.getD_eq_getElem?_getD, Int.toNat_natCast, List.getElem?_eq_getElem hi]
  rfl
theorem sh_l2 {all : List (List Int)} {n : Nat} (hn : n ≤ 400) {i : Nat} (hi : i < all.length) (hx : all[i].length = n) (hl : all.length ≤ 2000) (r : Int × Int) (hr : Ev (fun k => pianolaref04_shape.l1 k all n ((i + 1 : Nat) : Int)) r) : ∀ (m j : Nat), j + m = n →
    Ev (fun k => pianolaref04_shape.l2 k all n i j) (if ((all[i]).drop j).any (fun v => !btw 0 v 1000000) = true then (0, 3) else r)
  | 0, j, hj => by
    rw [List.drop_eq_nil_of_le (by omega), List.any_nil, if_neg (by decide)]
    refine Ev.step (fun k => ?_) hr
    rw [pianolaref04_shape.l2, if_neg (by omega), wrapN (by omega)]
  | m + 1, j, hj => by
    have ih := sh_l2 hn hi hx hl r hr m (j + 1) (by omega)
    have e : rd (rd_L6 all (i : Int)) (j : Int) = (all[i])[j]'(by omega) := by rw [rd_L6_get hi, rd_get (by omega)]
    have hlen : (rd_L6 all (i : Int)).length = n := by rw [rd_L6_get hi, hx]
    rw [List.drop_eq_getElem_cons (by omega), List.any_cons]
    by_cases q : isB ((all[i])[j]'(by omega)) 0 1000000 = true
    · rw [btw_isB, q]
      simp only [Bool.not_true, Bool.false_or]
      refine Ev.step (fun k => ?_) ih
      rw [pianolaref04_shape.l2, if_pos (by omega), if_pos (by omega), if_pos (by omega), if_pos (by omega), if_pos (by omega), isf, e, q, wrapN (by omega)]
      rfl
    · rw [btw_isB, Bool.not_eq_true _ |>.mp q]
      simp only [Bool.not_false, Bool.true_or, if_true]
      refine Ev.step (f := fun _ => some (0, 3)) (fun k => ?_) (Ev.now _)
      rw [pianolaref04_shape.l2, if_pos (by omega), if_pos (by omega), if_pos (by omega), if_pos (by omega), if_pos (by omega), isf, e, Bool.not_eq_true _ |>.mp q]
      rfl
theorem sh_l1 {all : List (List Int)} {n : Nat} (hn : n ≤ 400) (hx : ∀ x ∈ all, x.length = n) (hl : all.length ≤ 2000) : ∀ (m i : Nat), i + m = all.length →
    Ev (fun k => pianolaref04_shape.l1 k all n i) (if wrongL (all.drop i) = true then (0, 3) else ((n : Int), 0))
  | 0, i, hi => by
    rw [List.drop_eq_nil_of_le (by omega)]
    refine Ev.step (f := fun _ => some ((n : Int), 0)) (fun k => ?_) (Ev.now _)
    rw [pianolaref04_shape.l1, if_neg (by omega)]
  | m + 1, i, hi => by
    have h2 := sh_l2 hn (all := all) (i := i) (by omega) (hx _ (List.getElem_mem _)) hl _ (sh_l1 hn hx hl m (i + 1) (by omega)) n 0 (by omega)
    rw [List.drop_zero] at h2
    rw [List.drop_eq_getElem_cons (by omega)]
    have e : wrongL (all[i]'(by omega) :: all.drop (i + 1)) = ((all[i]'(by omega)).any (fun v => !btw 0 v 1000000) || wrongL (all.drop (i + 1))) := rfl
    rw [e]
    have e2 : (if ((all[i]'(by omega)).any (fun v => !btw 0 v 1000000) || wrongL (all.drop (i + 1))) = true then ((0 : Int), (3 : Int)) else ((n : Int), 0)) = (if (all[i]'(by omega)).any (fun v => !btw 0 v 1000000) = true then (0, 3) else if wrongL (all.drop (i + 1)) = true then (0, 3) else ((n : Int), 0)) := by
      cases (all[i]'(by omega)).any (fun v => !btw 0 v 1000000) <;> simp
    rw [e2]
    refine Ev.step (fun k => ?_) h2
    rw [pianolaref04_shape.l1, if_pos (by omega)]
    rfl
theorem sh_l0 {all : List (List Int)} {n : Nat} (hl : all.length ≤ 2000) : ∀ (m i : Nat), i + m = all.length → (∀ j, (hj : j < i) → (hj2 : j < all.length) → all[j].length = n) →
    Ev (fun k => pianolaref04_shape.l0 k all n i) (if otherL (all.drop i) n = true then (0, 6) else if (n : Int) > 400 then (0, 5) else if wrongL all = true then (0, 3) else ((n : Int), 0))
  | 0, i, hi, hx => by
    have hall : ∀ x ∈ all, x.length = n := by
      intro x hxm
      obtain ⟨j, hj, rfl⟩ := List.mem_iff_getElem.1 hxm
      exact hx j (by omega) hj
    rw [List.drop_eq_nil_of_le (by omega), if_neg (show ¬ otherL [] (n : Int) = true by unfold otherL; simp)]
    by_cases c : (n : Int) > 400
    · rw [if_pos c]
      refine Ev.step (f := fun _ => some (0, 5)) (fun k => ?_) (Ev.now _)
      rw [pianolaref04_shape.l0, if_neg (by omega), if_pos c]
    · rw [if_neg c]
      have h1 := sh_l1 (all := all) (n := n) (by omega) hall hl all.length 0 (by omega)
      rw [List.drop_zero] at h1
      refine Ev.step (fun k => ?_) h1
      rw [pianolaref04_shape.l0, if_neg (by omega), if_neg c]
      rfl
  | m + 1, i, hi, hx => by
    rw [List.drop_eq_getElem_cons (by omega)]
    have e : otherL (all[i]'(by omega) :: all.drop (i + 1)) (n : Int) = ((((all[i]'(by omega)).length : Int) != n) || otherL (all.drop (i + 1)) n) := rfl
    rw [e]
    by_cases q : (all[i]'(by omega)).length = n
    · have q2 : (((all[i]'(by omega)).length : Int) != n) = false := bne_eq_false_iff_eq.2 (by omega)
      rw [q2, Bool.false_or]
      refine Ev.step (fun k => ?_) (sh_l0 hl m (i + 1) (by omega) fun j hj hj2 => by
        by_cases c : j = i
        · subst c; exact q
        · exact hx j (by omega) hj2)
      rw [pianolaref04_shape.l0, if_pos (by omega), if_pos (by omega), rd_L6_get (by omega), if_pos (by omega), wrapN (by omega)]
    · have q2 : (((all[i]'(by omega)).length : Int) != n) = true := bne_iff_ne.2 (by omega)
      rw [q2, Bool.true_or, if_pos rfl]
      refine Ev.step (f := fun _ => some (0, 6)) (fun k => ?_) (Ev.now _)
      rw [pianolaref04_shape.l0, if_pos (by omega), if_pos (by omega), rd_L6_get (by omega), if_neg (by omega)]
theorem rshape_f {ps rs : List (List S71)} (hp : 0 < ps.length) {d c : List (List Int)} (hd : d.length ≤ 1000) (hc : c.length ≤ 1000) : Ev (fun k => pianolaref04_shape.f k (h90 ps) (h90 rs) d c) (shpF d c ps rs) := by
  unfold shpF
  by_cases c1 : d.length = ps.length
  · rw [if_neg (by omega)]
    by_cases c2 : c.length = rs.length
    · rw [if_neg (by omega)]
      have hall : (d ++ c).length = d.length + c.length := List.length_append
      have h0 := sh_l0 (all := d ++ c) (n := (rd_L6 (d ++ c) 0).length) (by omega) (d ++ c).length 0 (by omega) (fun j hj => by omega)
      rw [List.drop_zero] at h0
      refine Ev.congr (f := fun k => pianolaref04_shape.j0 k false d c) (fun k => ?_) (Ev.step (fun k => ?_) h0)
      · unfold pianolaref04_shape.f
        rw [h90_len, h90_len, if_pos (by omega), bne_eq_false_iff_eq.2 (show (c.length : Int) = (rs.length : Int) by omega)]
      · rw [pianolaref04_shape.j0, if_neg (by decide)]
        show (if _ then _ else _) = _
        rw [if_pos (by simp only [List.length_nil]; omega), List.nil_append]
        show (if _ then _ else _) = _
        rw [if_pos (by omega)]
        show (if _ then _ else _) = _
        rw [if_pos (by omega)]
        rfl
    · rw [if_pos (by omega)]
      refine Ev.congr (f := fun k => pianolaref04_shape.j0 k true d c) (fun k => ?_) (Ev.step (f := fun _ => some (0, 6)) (fun k => ?_) (Ev.now _))
      · unfold pianolaref04_shape.f
        rw [h90_len, h90_len, if_pos (by omega), bne_iff_ne.2 (show (c.length : Int) ≠ (rs.length : Int) by omega)]
      · rw [pianolaref04_shape.j0, if_pos rfl]
  · rw [if_pos (by omega)]
    refine Ev.congr (f := fun k => pianolaref04_shape.j0 k true d c) (fun k => ?_) (Ev.step (f := fun _ => some (0, 6)) (fun k => ?_) (Ev.now _))
    · unfold pianolaref04_shape.f
      rw [h90_len, if_neg (by omega)]
    · rw [pianolaref04_shape.j0, if_pos rfl]
theorem g90_f0 (l : List S71) (i : Nat) : (rd_T90 (g90 l) i).f0 = (rd_T71 l i).f0 := by rw [g90_get]
theorem g90_f1 (l : List S71) (i : Nat) : (rd_T90 (g90 l) i).f1 = (rd_T71 l i).f1 := by rw [g90_get]
section
variable {l : List S71} (hb : Bds (bs l)) (hl : l.length ≤ 1000) {xs : List Int} (hx : Fine xs)
include hb hl hx
theorem ke_l2 {i : Nat} (hi : i < l.length) {s : Nat} (hs : s ≤ xs.length) (r : Bool) (hr : Ev (fun k => pianolaref04_keeps.l1 k (g90 l) xs i ((s + 1 : Nat) : Int)) r) : ∀ (m t : Nat), t + m = min xs.length (s + (rd_T71 l i).f0.toNat) →
    Ev (fun k => pianolaref04_keeps.l2 k (g90 l) xs i s (preS xs t - preS xs s) t) (decide (preS xs (s + (rd_T71 l i).f0.toNat) - preS xs s ≤ (rd_T71 l i).f1) && r)
  | 0, t, ht => by
    obtain ⟨h1, h2⟩ := bs_at hb hl hi
    have hx4 := hx.1
    have gl := g90_len l
    have ew : wrap64 ((s : Int) + (rd_T71 l i).f0) = (s : Int) + (rd_T71 l i).f0 := by unfold wrap64; omega
    have e : preS xs t = preS xs (s + (rd_T71 l i).f0.toNat) := by
      by_cases q : s + (rd_T71 l i).f0.toNat ≤ xs.length
      · rw [show t = s + (rd_T71 l i).f0.toNat by omega]
      · rw [show t = xs.length by omega, preS_over (l := xs) (s + (rd_T71 l i).f0.toNat) (by omega)]
    rw [e]
    by_cases q : preS xs (s + (rd_T71 l i).f0.toNat) - preS xs s ≤ (rd_T71 l i).f1
    · rw [decide_eq_true q, Bool.true_and]
      refine Ev.step (fun k => ?_) hr
      rw [pianolaref04_keeps.l2, g90_f0, g90_f1]
      by_cases c : (t : Int) < xs.length
      · rw [if_pos c, if_pos (by omega), if_pos (by omega), ew, if_neg (by omega), if_neg (by omega), wrapN (by omega)]
      · rw [if_neg c, if_pos (by omega), if_pos (by omega), if_neg (by omega), wrapN (by omega)]
    · rw [decide_eq_false q, Bool.false_and]
      refine Ev.step (f := fun _ => some false) (fun k => ?_) (Ev.now _)
      rw [pianolaref04_keeps.l2, g90_f0, g90_f1]
      by_cases c : (t : Int) < xs.length
      · rw [if_pos c, if_pos (by omega), if_pos (by omega), ew, if_neg (by omega), if_pos (by omega)]
      · rw [if_neg c, if_pos (by omega), if_pos (by omega), if_pos (by omega)]
  | m + 1, t, ht => by
    obtain ⟨h1, h2⟩ := bs_at hb hl hi
    have hx4 := hx.1
    have gl := g90_len l
    have ew : wrap64 ((s : Int) + (rd_T71 l i).f0) = (s : Int) + (rd_T71 l i).f0 := by unfold wrap64; omega
    have e : preS xs (t + 1) = preS xs t + rd xs (t : Int) := rfl
    have b0 := preS_top hx t
    have b1 := preS_top hx s
    have b2 := preS_top hx (t + 1)
    refine Ev.step (fun k => ?_) (ke_l2 hi hs r hr m (t + 1) (by omega))
    rw [pianolaref04_keeps.l2, g90_f0, g90_f1, if_pos (by omega), if_pos (by omega), if_pos (by omega), ew, if_pos (by omega), if_pos (by omega), wrapN (by omega), show wrap64 (preS xs t - preS xs s + rd xs (t : Int)) = preS xs (t + 1) - preS xs s by unfold wrap64; omega]
theorem ke_l1 {i : Nat} (hi : i < l.length) (r : Bool) (hr : Ev (fun k => pianolaref04_keeps.l0 k (g90 l) xs ((i + 1 : Nat) : Int)) r) : ∀ (m s : Nat), s + m = xs.length →
    Ev (fun k => pianolaref04_keeps.l1 k (g90 l) xs i s) ((List.range' s m).all (fun s => decide (preS xs (s + (rd_T71 l i).f0.toNat) - preS xs s ≤ (rd_T71 l i).f1)) && r)
  | 0, s, hs => by
    have hx4 := hx.1
    refine Ev.step (fun k => ?_) hr
    rw [pianolaref04_keeps.l1, if_neg (by omega), wrapN (by omega)]
  | m + 1, s, hs => by
    have hx4 := hx.1
    obtain ⟨h1, h2⟩ := bs_at hb hl hi
    rw [List.range'_succ, List.all_cons, Bool.and_assoc]
    have h2 := ke_l2 hb hl hx hi (s := s) (by omega) _ (ke_l1 hi r hr m (s + 1) (by omega)) (min xs.length (s + (rd_T71 l i).f0.toNat) - s) s (by omega)
    rw [Int.sub_self] at h2
    refine Ev.step (fun k => ?_) h2
    rw [pianolaref04_keeps.l1, if_pos (by omega)]
theorem ke_l0 : ∀ (m i : Nat), i + m = l.length → Ev (fun k => pianolaref04_keeps.l0 k (g90 l) xs i) (keepsB ((bs l).drop i) xs)
  | 0, i, hi => by
    have gl := g90_len l
    rw [List.drop_eq_nil_of_le (by simp [bs]; omega)]
    refine Ev.step (f := fun _ => some true) (fun k => ?_) (Ev.now _)
    rw [pianolaref04_keeps.l0, if_neg (by omega)]
  | m + 1, i, hi => by
    have gl := g90_len l
    have h1 := ke_l1 hb hl hx (i := i) (by omega) _ (ke_l0 m (i + 1) (by omega)) xs.length 0 (by omega)
    rw [bs_drop l (by omega)]
    show Ev _ (((List.range xs.length).all fun s => decide (preS xs (s + (rd_T71 l i).f0.toNat) - preS xs s ≤ (rd_T71 l i).f1)) && keepsB ((bs l).drop (i + 1)) xs)
    rw [List.range_eq_range']
    refine Ev.step (fun k => ?_) h1
    rw [pianolaref04_keeps.l0, if_pos (by omega)]
    rfl
theorem rkeeps_f : Ev (fun k => pianolaref04_keeps.f k (g90 l) xs) (keepsB (bs l) xs) := ke_l0 hb hl hx l.length 0 (by omega)
theorem ha_l2 {i : Nat} (hi : i < l.length) {s : Nat} (hs : s + (rd_T71 l i).f0.toNat ≤ xs.length) (r : Bool) (hr : Ev (fun k => pianolaref04_has.l1 k (g90 l) xs i ((s + 1 : Nat) : Int)) r) : ∀ (m t : Nat), t + m = s + (rd_T71 l i).f0.toNat →
    Ev (fun k => pianolaref04_has.l2 k (g90 l) xs i s (preS xs t - preS xs s) t) (decide ((rd_T71 l i).f1 ≤ preS xs (s + (rd_T71 l i).f0.toNat) - preS xs s) && r)
  | 0, t, ht => by
    obtain ⟨h1, h2⟩ := bs_at hb hl hi
    have hx4 := hx.1
    have gl := g90_len l
    have ew : wrap64 ((s : Int) + (rd_T71 l i).f0) = (s : Int) + (rd_T71 l i).f0 := by unfold wrap64; omega
    obtain rfl : t = s + (rd_T71 l i).f0.toNat := by omega
    by_cases q : (rd_T71 l i).f1 ≤ preS xs (s + (rd_T71 l i).f0.toNat) - preS xs s
    · rw [decide_eq_true q, Bool.true_and]
      refine Ev.step (fun k => ?_) hr
      rw [pianolaref04_has.l2, g90_f0, g90_f1, if_pos (by omega), if_pos (by omega), ew, if_neg (by omega), if_neg (by omega), wrapN (by omega)]
    · rw [decide_eq_false q, Bool.false_and]
      refine Ev.step (f := fun _ => some false) (fun k => ?_) (Ev.now _)
      rw [pianolaref04_has.l2, g90_f0, g90_f1, if_pos (by omega), if_pos (by omega), ew, if_neg (by omega), if_pos (by omega)]
  | m + 1, t, ht => by
    obtain ⟨h1, h2⟩ := bs_at hb hl hi
    have hx4 := hx.1
    have gl := g90_len l
    have ew : wrap64 ((s : Int) + (rd_T71 l i).f0) = (s : Int) + (rd_T71 l i).f0 := by unfold wrap64; omega
    have e : preS xs (t + 1) = preS xs t + rd xs (t : Int) := rfl
    have b0 := preS_top hx t
    have b1 := preS_top hx s
    have b2 := preS_top hx (t + 1)
    refine Ev.step (fun k => ?_) (ha_l2 hi hs r hr m (t + 1) (by omega))
    rw [pianolaref04_has.l2, g90_f0, g90_f1, if_pos (by omega), if_pos (by omega), ew, if_pos (by omega), if_pos (by omega), if_pos (by omega), wrapN (by omega), show wrap64 (preS xs t - preS xs s + rd xs (t : Int)) = preS xs (t + 1) - preS xs s by unfold wrap64; omega]
theorem ha_none (b : Nat) (a : Int) : ∀ (m s : Nat), xs.length < s + b → (List.range' s m).all (fun s => decide (xs.length < s + b ∨ a ≤ preS xs (s + b) - preS xs s)) = true := fun m s h => by
  rw [List.all_eq_true]
  intro q hq
  rw [List.mem_range'_1] at hq
  exact decide_eq_true (.inl (by omega))
theorem ha_l1 {i : Nat} (hi : i < l.length) (r : Bool) (hr : Ev (fun k => pianolaref04_has.l0 k (g90 l) xs ((i + 1 : Nat) : Int)) r) : ∀ (m s : Nat), s + m = xs.length →
    Ev (fun k => pianolaref04_has.l1 k (g90 l) xs i s) ((List.range' s m).all (fun s => decide (xs.length < s + (rd_T71 l i).f0.toNat ∨ (rd_T71 l i).f1 ≤ preS xs (s + (rd_T71 l i).f0.toNat) - preS xs s)) && r) := fun m s hs => by
  have hx4 := hx.1
  have gl := g90_len l
  obtain ⟨h1, h2⟩ := bs_at hb hl hi
  have ew : wrap64 ((s : Int) + (rd_T71 l i).f0) = (s : Int) + (rd_T71 l i).f0 := by unfold wrap64; omega
  by_cases c : xs.length < s + (rd_T71 l i).f0.toNat
  · rw [ha_none hb hl hx _ _ m s c, Bool.true_and]
    refine Ev.step (fun k => ?_) hr
    rw [pianolaref04_has.l1, g90_f0, if_pos (by omega), if_pos (by omega), ew, if_neg (by omega), wrapN (by omega)]
  · match m, hs with
    | 0, hs => omega
    | m + 1, hs =>
      rw [List.range'_succ, List.all_cons, Bool.and_assoc]
      have h2 := ha_l2 hb hl hx hi (s := s) (by omega) _ (ha_l1 hi r hr m (s + 1) (by omega)) (rd_T71 l i).f0.toNat s (by omega)
      rw [Int.sub_self] at h2
      rw [show decide (xs.length < s + (rd_T71 l i).f0.toNat ∨ (rd_T71 l i).f1 ≤ preS xs (s + (rd_T71 l i).f0.toNat) - preS xs s) = decide ((rd_T71 l i).f1 ≤ preS xs (s + (rd_T71 l i).f0.toNat) - preS xs s) from decide_eq_decide.2 ⟨fun h => h.resolve_left c, .inr⟩]
      refine Ev.step (fun k => ?_) h2
      rw [pianolaref04_has.l1, g90_f0, if_pos (by omega), if_pos (by omega), ew, if_pos (by omega)]
termination_by m => m
theorem ha_l0 : ∀ (m i : Nat), i + m = l.length → Ev (fun k => pianolaref04_has.l0 k (g90 l) xs i) (hasB ((bs l).drop i) xs)
  | 0, i, hi => by
    have gl := g90_len l
    rw [List.drop_eq_nil_of_le (by simp [bs]; omega)]
    refine Ev.step (f := fun _ => some true) (fun k => ?_) (Ev.now _)
    rw [pianolaref04_has.l0, if_neg (by omega)]
  | m + 1, i, hi => by
    have gl := g90_len l
    have h1 := ha_l1 hb hl hx (i := i) (by omega) _ (ha_l0 m (i + 1) (by omega)) xs.length 0 (by omega)
    rw [bs_drop l (by omega)]
    show Ev _ (((List.range xs.length).all fun s => decide (xs.length < s + (rd_T71 l i).f0.toNat ∨ (rd_T71 l i).f1 ≤ preS xs (s + (rd_T71 l i).f0.toNat) - preS xs s)) && hasB ((bs l).drop (i + 1)) xs)
    rw [List.range_eq_range']
    refine Ev.step (fun k => ?_) h1
    rw [pianolaref04_has.l0, if_pos (by omega)]
    rfl
theorem rhas_f : Ev (fun k => pianolaref04_has.f k (g90 l) xs) (hasB (bs l) xs) := ha_l0 hb hl hx l.length 0 (by omega)
end
section
variable {D C : List (List Int)} {T : Nat} (h : Crs D C T)
include h
theorem rl_l6 {t : Nat} (ht : t < T) (r : List Int × List Int × Int) (X : List Int) (hX : X.length ≤ 1000)
    (hr : Ev (fun k => pianolaref04_Lacks.l5 k T (lackL D C T) (comeL D T) (thrL D C T) (X ++ [waitF D C T t]) ((t + 1 : Nat) : Int)) r) : ∀ (m q : Nat), t + q + m = T → (∀ j, j < q → through (comeF D) C (t + j + 1) < comeF D (t + 1)) →
    Ev (fun k => pianolaref04_Lacks.l6 k T (lackL D C T) (comeL D T) (thrL D C T) X t q) r
  | 0, q, hq, hj => by
    have hT := h.t
    have hlen : ((thrL D C T).drop t).length = T - t := by rw [List.length_drop]; unfold thrL; rw [rng_len]
    have ew : waitF D C T t = -1 := idxF_noneI fun j hjl => by
      rw [hlen] at hjl
      have := hj j (by omega)
      unfold thrL
      rw [rng_drop, rng_rd _ (by omega)]
      exact decide_eq_false (by show ¬ comeF D (t + 1) ≤ through (comeF D) C (t + j + 1); omega)
    rw [ew] at hr
    have e0 : wrap64 ((t : Int) + (q : Int)) = ((t + q : Nat) : Int) := by unfold wrap64; omega
    refine Ev.step (fun k => ?_) hr
    rw [pianolaref04_Lacks.l6, e0, if_neg (by omega), if_pos (by omega), if_pos (by omega), wrapN (by omega)]
  | m + 1, q, hq, hj => by
    have hT := h.t
    have e0 : wrap64 ((t : Int) + (q : Int)) = ((t + q : Nat) : Int) := by unfold wrap64; omega
    have l1 : (thrL D C T).length = T := rng_len _ _
    have l2 : (comeL D T).length = T := rng_len _ _
    have er : rd (comeL D T) (t : Int) = comeF D (t + 1) := rng_rd _ (by omega)
    have er2 : rd (thrL D C T) ((t + q : Nat) : Int) = through (comeF D) C (t + q + 1) := rng_rd _ (by omega)
    by_cases c : through (comeF D) C (t + q + 1) < comeF D (t + 1)
    · refine Ev.step (fun k => ?_) (rl_l6 ht r X hX hr m (q + 1) (by omega) fun j hj2 => by
        by_cases e : j = q
        · subst e; exact c
        · exact hj j (by omega))
      rw [pianolaref04_Lacks.l6, e0, if_pos (by omega), if_pos (by omega), if_pos (by omega), if_pos (by omega), if_pos (by omega), er, er2, if_pos c, wrapN (by omega)]
    · have hlen : ((thrL D C T).drop t).length = T - t := by rw [List.length_drop]; unfold thrL; rw [rng_len]
      have ew : waitF D C T t = (q : Int) := idxF_atI (by omega) (by rw [hlen]; omega) (fun j hj2 => by
        have := hj j (by omega)
        unfold thrL
        rw [rng_drop, rng_rd _ (by omega)]
        exact decide_eq_false (by show ¬ comeF D (t + 1) ≤ through (comeF D) C (t + j + 1); omega)) (by
        unfold thrL
        rw [rng_drop, rng_rd _ (by omega)]
        exact decide_eq_true (by show comeF D (t + 1) ≤ through (comeF D) C (t + q + 1); omega))
      rw [ew] at hr
      refine Ev.step (fun k => ?_) hr
      rw [pianolaref04_Lacks.l6, e0, if_pos (by omega), if_pos (by omega), if_pos (by omega), if_pos (by omega), if_pos (by omega), er, er2, if_neg c, if_neg (by omega), if_pos (by omega), wrapN (by omega)]
theorem rl_l5 : ∀ (m t : Nat), t + m = T → Ev (fun k => pianolaref04_Lacks.l5 k T (lackL D C T) (comeL D T) (thrL D C T) (rng (waitF D C T) t) t) (lackL D C T, waitL D C T, 0)
  | 0, t, ht => by
    obtain rfl : t = T := by omega
    refine Ev.step (f := fun _ => some (lackL D C t, waitL D C t, 0)) (fun k => ?_) (Ev.now _)
    rw [pianolaref04_Lacks.l5, if_neg (by omega)]
    rfl
  | m + 1, t, ht => by
    have hT := h.t
    have ih := rl_l5 m (t + 1) (by omega)
    rw [← rng_snoc] at ih
    refine Ev.step (fun k => ?_) (rl_l6 h (t := t) (by omega) _ (rng (waitF D C T) t) (by rw [rng_len]; omega) ih (T - t) 0 (by omega) (fun j hj => by omega))
    rw [pianolaref04_Lacks.l5, if_pos (by omega)]
    rfl
def midP (D C : List (List Int)) (t : Nat) (v : Int) : List Int := rng (fun j => if j = 0 then v else thr (comeF D) C j t - thr (comeF D) C (j + 1) t) C.length
def midR (D C : List (List Int)) (t i : Nat) : List Int := rng (fun j => if j < i then thr (comeF D) C j (t + 1) - thr (comeF D) C (j + 1) (t + 1) else if j = i then thr (comeF D) C i (t + 1) - thr (comeF D) C (i + 1) t else thr (comeF D) C j t - thr (comeF D) C (j + 1) t) C.length
omit h in
theorem midP_zero (t : Nat) : mid D C t 0 = midP D C t (comeF D t - thr (comeF D) C 1 t) := rng_congr fun j _ => by
  rw [if_neg (by omega)]
  by_cases q : j = 0
  · subst q; rw [if_pos rfl]; rfl
  · rw [if_neg q]
omit h in
theorem midP_all (t : Nat) : midP D C t (comeF D (t + 1) - thr (comeF D) C 1 t) = midR D C t 0 := rng_congr fun j _ => by
  rw [if_neg (show ¬ j < 0 by omega)]
  rfl
omit h in
theorem midR_all (t : Nat) : midR D C t C.length = mid D C (t + 1) 0 := rng_congr fun j hj => by rw [if_pos hj, if_neg (by omega)]
theorem rl_l3 {t : Nat} (ht : t < T) (X12 X13 X14 : List Int) (x16 : Int) (r : List Int × List Int × Int)
    (hr : Ev (fun k => pianolaref04_Lacks.l4 k T (midR D C t 0) X12 X13 X14 (comeF D (t + 1)) x16 t 0 0 D C) r) : ∀ (m j : Nat), j + m = D.length →
    Ev (fun k => pianolaref04_Lacks.l3 k T (midP D C t (comeF D t - thr (comeF D) C 1 t + sumTo (fun i => (D.getD i []).getD t 0) j)) X12 X13 X14 (comeF D t + sumTo (fun i => (D.getD i []).getD t 0) j) x16 t j D C) r
  | 0, j, hj => by
    obtain rfl : j = D.length := by omega
    have e := come_sum h t
    rw [show comeF D t - thr (comeF D) C 1 t + sumTo (fun i => (D.getD i []).getD t 0) D.length = comeF D (t + 1) - thr (comeF D) C 1 t by omega, ← e, midP_all]
    refine Ev.step (fun k => ?_) hr
    rw [pianolaref04_Lacks.l3, if_neg (by omega)]
  | m + 1, j, hj => by
    have hs : ∀ m, 0 ≤ sumTo (fun i => (D.getD i []).getD t 0) m ∧ sumTo (fun i => (D.getD i []).getD t 0) m ≤ 1000000 * m := by
      intro m
      induction m with
      | zero => show (0 : Int) ≤ 0 ∧ (0 : Int) ≤ _; omega
      | succ m ih =>
        have := h.dn m t
        have e : sumTo (fun i => (D.getD i []).getD t 0) (m + 1) = sumTo (fun i => (D.getD i []).getD t 0) m + (D.getD m []).getD t 0 := rfl
        omega
    have h3 := h.d3
    have hc1 := h.c1
    have hT := h.t
    have hl : (rd_L6 D (j : Int)).length = T := h.d j (by omega)
    have er : rd (rd_L6 D (j : Int)) (t : Int) = (D.getD j []).getD t 0 := rfl
    have b1 := hs (j + 1)
    have b0 := hs j
    have b2 := come_bd h t
    have b3 := thr_bd h 1 t
    have e1 : sumTo (fun i => (D.getD i []).getD t 0) (j + 1) = sumTo (fun i => (D.getD i []).getD t 0) j + (D.getD j []).getD t 0 := rfl
    have hlen : ∀ v, (midP D C t v).length = C.length := fun v => rng_len _ _
    have erm : ∀ v, rd (midP D C t v) 0 = v := fun v => by
      rw [show (0 : Int) = ((0 : Nat) : Int) from rfl, midP, rng_rd _ (by omega), if_pos rfl]
    have es : ∀ v v', (midP D C t v).set 0 v' = midP D C t v' := fun v v' => by
      rw [midP, rng_set]
      refine rng_congr fun j _ => ?_
      by_cases q : j = 0
      · rw [if_pos q, if_pos q]
      · rw [if_neg q, if_neg q, if_neg q]
    refine Ev.step (fun k => ?_) (rl_l3 ht X12 X13 X14 x16 r hr m (j + 1) (by omega))
    rw [pianolaref04_Lacks.l3, if_pos (by omega), if_pos (by rw [hlen]; omega), if_pos (by omega), if_pos (by omega), if_pos (by omega), er, erm, wrapN (by omega), show Int.toNat 0 = 0 from rfl, es]
    rw [show wrap64 (comeF D t - thr (comeF D) C 1 t + sumTo (fun i => (D.getD i []).getD t 0) j + (D.getD j []).getD t 0) = comeF D t - thr (comeF D) C 1 t + sumTo (fun i => (D.getD i []).getD t 0) (j + 1) by rw [e1] at b1 ⊢; unfold wrap64; omega]
    rw [show wrap64 (comeF D t + sumTo (fun i => (D.getD i []).getD t 0) j + (D.getD j []).getD t 0) = comeF D t + sumTo (fun i => (D.getD i []).getD t 0) (j + 1) by rw [e1] at b1 ⊢; unfold wrap64; omega]
theorem rl_l4 {t : Nat} (ht : t < T) (X12 X13 X14 : List Int) (h12 : X12.length ≤ 1000) (h13 : X13.length ≤ 1000) (h14 : X14.length ≤ 1000) (r : List Int × List Int × Int)
  (hr : Ev (fun k => pianolaref04_Lacks.l2 k T (mid D C (t + 1) 0) (X12 ++ [comeF D (t + 1) - through (comeF D) C (t + 1)]) (X13 ++ [comeF D (t + 1)]) (X14 ++ [through (comeF D) C (t + 1)]) (comeF D (t + 1)) (through (comeF D) C (t + 1)) ((t + 1 : Nat) : Int) D C) r) : ∀ (m i : Nat), i + m = C.length →
  Ev (fun k => pianolaref04_Lacks.l4 k T (midR D C t i) X12 X13 X14 (comeF D (t + 1)) (if i < C.length then through (comeF D) C t else through (comeF D) C (t + 1)) t (comeF D (t + 1) - thr (comeF D) C i (t + 1)) i D C) r
 | 0, i, hi => by
  obtain rfl : i = C.length := by omega
  have hT := h.t
  have hlen : (midR D C t C.length).length = C.length := rng_len _ _
  rw [if_neg (by omega), thr_all]
  refine Ev.step (fun k => ?_) hr
  rw [pianolaref04_Lacks.l4, if_neg (by omega), if_pos (by omega), if_pos (by omega), if_pos (by omega), midR_all, wrapN (by omega)]
 | m + 1, i, hi => by
  have ih := rl_l4 ht X12 X13 X14 h12 h13 h14 r hr m (i + 1) (by omega)
  have hT := h.t
  have c3 := h.c3
  have hlen : ∀ i, (midR D C t i).length = C.length := fun i => rng_len _ _
  have hl : (rd_L6 C (i : Int)).length = T := h.c i (by omega)
  have er : rd (rd_L6 C (i : Int)) (t : Int) = (C.getD i []).getD t 0 := rfl
  have hrd : rd (midR D C t i) (i : Int) = thr (comeF D) C i (t + 1) - thr (comeF D) C (i + 1) t := by
   rw [midR, rng_rd _ (by omega), if_neg (by omega), if_pos rfl]
  have b0 := thr_bd h i t
  have b1 := thr_bd h (i + 1) t
  have b2 := thr_bd h i (t + 1)
  have b3 := thr_bd h (i + 1) (t + 1)
  have b4 := come_bd h (t + 1)
  have e0 := thr_step (comeF D) C i t
  have hc := h.cn i t
  have em : mn (thr (comeF D) C i (t + 1) - thr (comeF D) C (i + 1) t) ((C.getD i []).getD t 0) = thr (comeF D) C (i + 1) (t + 1) - thr (comeF D) C (i + 1) t := by
   rw [mn_min]; omega
  have ew : wrap64 (thr (comeF D) C i (t + 1) - thr (comeF D) C (i + 1) t - (thr (comeF D) C (i + 1) (t + 1) - thr (comeF D) C (i + 1) t)) = thr (comeF D) C i (t + 1) - thr (comeF D) C (i + 1) (t + 1) := by unfold wrap64; omega
  have el : wrap64 (comeF D (t + 1) - thr (comeF D) C i (t + 1) + (thr (comeF D) C i (t + 1) - thr (comeF D) C (i + 1) (t + 1))) = comeF D (t + 1) - thr (comeF D) C (i + 1) (t + 1) := by unfold wrap64; omega
  have hs : ((midR D C t i).set i (thr (comeF D) C i (t + 1) - thr (comeF D) C (i + 1) (t + 1))).length = C.length := by rw [List.length_set]; exact hlen i
  by_cases cl : i + 1 < C.length
  ·
   rw [if_pos cl] at ih
   rw [if_pos (by omega)]
   have c0 := thr_bd h (i + 1 + 1) t
   have e1 : rd ((midR D C t i).set i (thr (comeF D) C i (t + 1) - thr (comeF D) C (i + 1) (t + 1))) ((i + 1 : Nat) : Int) = thr (comeF D) C (i + 1) t - thr (comeF D) C (i + 1 + 1) t := by
    rw [midR, rng_set, rng_rd _ (by omega), if_neg (by omega), if_neg (by omega), if_neg (by omega)]
   have e2 : ((midR D C t i).set i (thr (comeF D) C i (t + 1) - thr (comeF D) C (i + 1) (t + 1))).set (i + 1) (thr (comeF D) C (i + 1) (t + 1) - thr (comeF D) C (i + 1 + 1) t) = midR D C t (i + 1) := by
    rw [midR, rng_set, rng_set]
    refine rng_congr fun j _ => ?_
    by_cases q : j = i + 1
    ·
     subst q
     rw [if_pos rfl, if_neg (by omega), if_pos rfl]
    ·
     rw [if_neg q]
     by_cases q2 : j = i
     ·
      subst q2
      rw [if_pos rfl, if_pos (by omega)]
     ·
      rw [if_neg q2]
      by_cases q3 : j < i
      ·
       rw [if_pos q3, if_pos (by omega)]
      ·
       rw [if_neg q3, if_neg q2, if_neg (by omega), if_neg q]
   have e3 : rd (midR D C t (i + 1)) (i : Int) = thr (comeF D) C i (t + 1) - thr (comeF D) C (i + 1) (t + 1) := by
    rw [midR, rng_rd _ (by omega), if_pos (by omega)]
   have ew2 : wrap64 (thr (comeF D) C (i + 1) t - thr (comeF D) C (i + 1 + 1) t + (thr (comeF D) C (i + 1) (t + 1) - thr (comeF D) C (i + 1) t)) = thr (comeF D) C (i + 1) (t + 1) - thr (comeF D) C (i + 1 + 1) t := by unfold wrap64; omega
   refine Ev.step (fun k => ?_) ih
   rw [pianolaref04_Lacks.l4, if_pos (by rw [hlen]; omega), if_pos (by omega), if_pos (by omega), if_pos (by omega), if_pos (by omega), hrd, er, em, ew, Int.toNat_natCast, wrapN (by omega)]
   show (if _ then _ else _) = _
   rw [if_pos (by rw [hlen]; omega), if_pos (by omega), e1, ew2, Int.toNat_natCast, e2]
   show pianolaref04_Lacks.l4 _ _ _ _ _ _ _ _ _ _ _ _ _ = _
   rw [e3, el]
  ·
   rw [if_neg cl] at ih
   rw [if_pos (by omega)]
   have hlast : i + 1 = C.length := by omega
   have e2 : (midR D C t i).set i (thr (comeF D) C i (t + 1) - thr (comeF D) C (i + 1) (t + 1)) = midR D C t (i + 1) := by
    rw [midR, rng_set]
    refine rng_congr fun j hj => ?_
    by_cases q2 : j = i
    ·
     subst q2
     rw [if_pos rfl, if_pos (by omega)]
    ·
     rw [if_neg q2, if_pos (by omega), if_pos (by omega)]
   have e3 : rd (midR D C t (i + 1)) (i : Int) = thr (comeF D) C i (t + 1) - thr (comeF D) C (i + 1) (t + 1) := by
    rw [midR, rng_rd _ (by omega), if_pos (by omega)]
   have eo : wrap64 (through (comeF D) C t + (thr (comeF D) C (i + 1) (t + 1) - thr (comeF D) C (i + 1) t)) = through (comeF D) C (t + 1) := by
    rw [hlast, thr_all] at b1 b3 ⊢
    unfold wrap64; omega
   refine Ev.step (fun k => ?_) ih
   rw [pianolaref04_Lacks.l4, if_pos (by rw [hlen]; omega), if_pos (by omega), if_pos (by omega), if_pos (by omega), if_pos (by omega), hrd, er, em, ew, Int.toNat_natCast, wrapN (by omega), e2]
   show (if _ then _ else _) = _
   rw [if_neg (by rw [hlen]; omega), eo, e3, el]
theorem rl_l2 : ∀ (m t : Nat), t + m = T → Ev (fun k => pianolaref04_Lacks.l2 k T (mid D C t 0) (lackL D C t) (comeL D t) (thrL D C t) (comeF D t) (through (comeF D) C t) t D C) (lackL D C T, waitL D C T, 0)
  | 0, t, ht => by
    obtain rfl : t = T := by omega
    refine Ev.step (fun k => ?_) (rl_l5 h t 0 (by omega))
    rw [pianolaref04_Lacks.l2, if_neg (by omega)]
    rfl
  | m + 1, t, ht => by
    have hT := h.t
    have hc1 := h.c1
    have ih := rl_l2 m (t + 1) (by omega)
    rw [← lackL_snoc] at ih
    rw [show comeL D (t + 1) = comeL D t ++ [comeF D (t + 1)] from (rng_snoc _ _).symm, show thrL D C (t + 1) = thrL D C t ++ [through (comeF D) C (t + 1)] from (rng_snoc _ _).symm] at ih
    have h4 := rl_l4 h (t := t) (by omega) (lackL D C t) (comeL D t) (thrL D C t) (by rw [lackL_len]; omega) (by unfold comeL; rw [rng_len]; omega) (by unfold thrL; rw [rng_len]; omega) _ ih C.length 0 (by omega)
    rw [if_pos hc1] at h4
    have h3 := rl_l3 h (t := t) (by omega) (lackL D C t) (comeL D t) (thrL D C t) (through (comeF D) C t) _ (by
      rw [show comeF D (t + 1) - thr (comeF D) C 0 (t + 1) = 0 from Int.sub_self _] at h4
      exact h4) D.length 0 (by omega)
    rw [show comeF D t - thr (comeF D) C 1 t + sumTo (fun i => (D.getD i []).getD t 0) 0 = comeF D t - thr (comeF D) C 1 t from Int.add_zero _, ← midP_zero, show comeF D t + sumTo (fun i => (D.getD i []).getD t 0) 0 = comeF D t from Int.add_zero _] at h3
    refine Ev.step (fun k => ?_) h3
    rw [pianolaref04_Lacks.l2, if_pos (by omega)]
    rfl
end
theorem fine_d {D C : List (List Int)} {T : Nat} (h : Crs D C T) (i : Nat) : Fine (D.getD i []) := by
  have := h.t
  refine ⟨?_, h.dn i⟩
  by_cases q : i < D.length
  · rw [h.d i q]; omega
  · rw [getD_out q]; exact Nat.zero_le _
theorem fine_c {D C : List (List Int)} {T : Nat} (h : Crs D C T) (i : Nat) : Fine (C.getD i []) := by
  have := h.t
  refine ⟨?_, h.cn i⟩
  by_cases q : i < C.length
  · rw [h.c i q]; omega
  · rw [getD_out q]; exact Nat.zero_le _
theorem zip_drop {ps : List (List S71)} {d : List (List Int)} {i : Nat} (h1 : i < ps.length) (h2 : i < d.length) : (ps.zip d).drop i = (ps[i], d.getD i []) :: (ps.zip d).drop (i + 1) := by
  rw [List.drop_eq_getElem_cons (by rw [List.length_zip]; omega), List.getElem_zip, List.getD_eq_getElem?_getD, List.getElem?_eq_getElem h2]
  rfl
theorem zip_end {ps : List (List S71)} {d : List (List Int)} {i : Nat} (h : ps.length ≤ i) : (ps.zip d).drop i = [] := List.drop_eq_nil_of_le (by rw [List.length_zip]; omega)
section
variable {ps rs : List (List S71)} (hP : Plant ps rs) {D C : List (List Int)} {T : Nat} (h : Crs D C T) (e1 : D.length = ps.length) (e2 : C.length = rs.length)
include hP h e1 e2
theorem rl_l1 : ∀ (m i : Nat), i + m = rs.length → Ev (fun k => pianolaref04_Lacks.l1 k T i (h90 ps) (h90 rs) D C) (if ((rs.zip C).drop i).all (fun p => hadL p.2 p.1) = false then ([], [], 21) else (lackL D C T, waitL D C T, 0))
  | 0, i, hi => by
    have hr3 := hP.r3
    rw [zip_end (by omega), if_neg (by simp)]
    refine Ev.step (fun k => ?_) (rl_l2 h T 0 (by omega))
    rw [pianolaref04_Lacks.l1, h90_len, if_neg (by omega), if_pos (by omega), if_pos (by omega), Int.toNat_natCast]
    rw [show mid D C 0 0 = List.replicate rs.length 0 by
      rw [rng_zero, ← e2]
      exact rng_congr fun j _ => by rw [if_neg (by omega), thr_zero (A := comeF D) rfl, thr_zero (A := comeF D) rfl]; rfl, through_zero (A := comeF D) rfl]
    rfl
  | m + 1, i, hi => by
    have hr3 := hP.r3
    obtain ⟨hb, h5⟩ := bds_of (hP.r (rs[i]'(by omega)) (List.getElem_mem _))
    have hk := rhas_f hb (by omega) (fine_c h i)
    rw [zip_drop (by omega) (by omega), List.all_cons]
    rw [← hadL_B (fine_c h i)] at hk
    have ih := rl_l1 m (i + 1) (by omega)
    have e : rd_L6 C (i : Int) = C.getD i [] := rfl
    refine Ev.step (f := fun k => (pianolaref04_has.f k (g90 (rs[i]'(by omega))) (C.getD i [])).bind fun t => if t = true then pianolaref04_Lacks.l1 k T ((i + 1 : Nat) : Int) (h90 ps) (h90 rs) D C else some ([], [], 21)) (fun k => ?_) (Ev.bind hk ?_)
    · rw [pianolaref04_Lacks.l1, h90_len, if_pos (by omega), if_pos (by omega), if_pos (by omega), h90_get (by omega), e, wrapN (by omega)]
    · show Ev _ (if (hadL (C.getD i []) (rs[i]'(by omega)) && _) = false then _ else _)
      cases q : hadL (C.getD i []) (rs[i]'(by omega)) with
      | false => exact Ev.now _
      | true => rw [Bool.true_and]; exact ih
theorem rl_l0 : ∀ (m i : Nat), i + m = ps.length → Ev (fun k => pianolaref04_Lacks.l0 k T i (h90 ps) (h90 rs) D C) (if ((ps.zip D).drop i).all (fun p => keptL p.2 p.1) = false then ([], [], 21) else if hadAll rs C = false then ([], [], 21) else (lackL D C T, waitL D C T, 0))
  | 0, i, hi => by
    have hp3 := hP.p3
    rw [zip_end (by omega), if_neg (by simp)]
    refine Ev.step (fun k => ?_) (rl_l1 hP h e1 e2 rs.length 0 (by omega))
    rw [pianolaref04_Lacks.l0, h90_len, if_neg (by omega)]
    rfl
  | m + 1, i, hi => by
    have hp3 := hP.p3
    obtain ⟨hb, h5⟩ := bds_of (hP.p (ps[i]'(by omega)) (List.getElem_mem _))
    have hk := rkeeps_f hb (by omega) (fine_d h i)
    rw [zip_drop (by omega) (by omega), List.all_cons]
    rw [← keptL_B (fine_d h i)] at hk
    have ih := rl_l0 m (i + 1) (by omega)
    have e : rd_L6 D (i : Int) = D.getD i [] := rfl
    refine Ev.step (f := fun k => (pianolaref04_keeps.f k (g90 (ps[i]'(by omega))) (D.getD i [])).bind fun t => if t = true then pianolaref04_Lacks.l0 k T ((i + 1 : Nat) : Int) (h90 ps) (h90 rs) D C else some ([], [], 21)) (fun k => ?_) (Ev.bind hk ?_)
    · rw [pianolaref04_Lacks.l0, h90_len, if_pos (by omega), if_pos (by omega), if_pos (by omega), h90_get (by omega), e, wrapN (by omega)]
    · show Ev _ (if (keptL (D.getD i []) (ps[i]'(by omega)) && _) = false then _ else _)
      cases q : keptL (D.getD i []) (ps[i]'(by omega)) with
      | false => exact Ev.now _
      | true => rw [Bool.true_and]; exact ih
end
theorem rLacks_f (ps rs : List (List S71)) {d c : List (List Int)} (hd : d.length ≤ 1000) (hc : c.length ≤ 1000) : Ev (fun k => pianolaref04_Lacks.f k (h90 ps) (h90 rs) d c) (lacksF ps rs d c) := by
  unfold lacksF pianolaref04_Lacks.f
  refine Ev.bind (rCheck_f ps rs) ?_
  by_cases c0 : chk ps rs = 0
  · simp only [if_pos c0]
    have hP := chk_zero.1 c0
    refine Ev.bind (rshape_f hP.p0 hd hc) ?_
    rw [chkF_shp]
    by_cases c1 : (shpF d c ps rs).2 = 0
    · simp only [if_pos c1]
      obtain ⟨e1, e2, T, eT, hX⟩ := shp_zero hP c1
      have h0 := rl_l0 hP hX e1 e2 ps.length 0 (by omega)
      rw [eT]
      have e3 : ((ps.zip d).drop 0).all (fun p => keptL p.2 p.1) = keptAll ps d := rfl
      rw [e3] at h0
      by_cases c2 : keptAll ps d = false
      · rw [if_pos c2] at h0 ⊢
        exact h0
      · rw [if_neg c2] at h0 ⊢
        by_cases c3 : hadAll rs c = false
        · rw [if_pos c3] at h0 ⊢
          exact h0
        · rw [if_neg c3] at h0 ⊢
          exact h0
    · simp only [if_neg c1]
      exact Ev.now _
  · simp only [if_neg c0]
    exact Ev.now _
end Go.Proofs.Ythoeindopljmkaa.P
end
section
namespace Go.Proofs.Ythoeindopljmkaa.P
open Go.RowKit Go.Proofs.YthoeindopljmkaaW.PrintWords Go.Proofs.YthoeindopljmkaaW.PrintLast Go.Proofs.YthoeindopljmkaaW.PrintMore
set_option linter.unusedSimpArgs false
theorem numbers_l0 (x : List Int) (hx : x.length ≤ 1000) : ∀ (m i : Nat), i + m = x.length → Ev (fun k => pianolalaw04_numbers.l0 k x x i) true
  | 0, i, hi => by
    refine Ev.step (f := fun _ => some true) (fun k => ?_) (Ev.now _)
    rw [pianolalaw04_numbers.l0, if_neg (by omega)]
  | m + 1, i, hi => by
    refine Ev.step (fun k => ?_) (numbers_l0 x hx m (i + 1) (by omega))
    rw [pianolalaw04_numbers.l0, if_pos (by omega), if_pos (by omega), if_pos (by omega), if_pos rfl, wrapN (by omega)]
theorem numbers_same (x : List Int) (hx : x.length ≤ 1000) : Ev (fun k => pianolalaw04_numbers.f k x x) true := by
  refine Ev.congr (f := fun k => pianolalaw04_numbers.l0 k x x 0) (fun k => ?_) (numbers_l0 x hx x.length 0 (by omega))
  unfold pianolalaw04_numbers.f
  rw [if_pos rfl]
theorem lacksF_len (ps rs : List (List S71)) (d c : List (List Int)) : (lacksF ps rs d c).1.length ≤ 1000 ∧ (lacksF ps rs d c).2.1.length ≤ 1000 := by
  unfold lacksF
  by_cases c0 : chk ps rs = 0
  · rw [if_pos c0]
    by_cases c1 : (chkF d c ps rs).2 = 0
    · rw [if_pos c1]
      obtain ⟨e, c2, _, _⟩ := chk_shp c1
      obtain ⟨_, _, T, eT, hX⟩ := shp_zero (chk_zero.1 c0) c2
      have := hX.t
      rw [e, eT]
      simp only [Int.toNat_natCast]
      rw [lackL_len]
      unfold waitL
      rw [Pm.rng_len]
      omega
    · rw [if_neg c1]
      simp
  · rw [if_neg c0]
    simp
theorem lacks_l0 {ps rs : List (List S71)} {d c : List (List Int)} (b1 : Brief ps) (b2 : Brief rs) (hd : d.length ≤ 10) (hc : c.length ≤ 10) : ∀ (m i : Nat), i + m = (d ++ c).length → (∀ j, j < i → (h : j < (d ++ c).length) → (d ++ c)[j].length ≤ 500) →
    Ev (fun k => pianolalaw04_PumpLacks.l0 k (d ++ c) i ps rs d c) true
  | 0, i, hi, hs => by
    have hall : ∀ x ∈ d ++ c, x.length ≤ 1000000 := by
      intro x hx
      obtain ⟨j, hj, rfl⟩ := List.mem_iff_getElem.1 hx
      have := hs j (by omega) hj
      omega
    have ed : Lean0 d := ⟨by omega, fun x hx => hall x (List.mem_append_left _ hx)⟩
    have ec : Lean0 c := ⟨by omega, fun x hx => hall x (List.mem_append_right _ hx)⟩
    obtain ⟨h1, h2⟩ := lacksF_len ps rs d c
    have hl : (d ++ c).length = d.length + c.length := List.length_append
    refine Ev.step (fun k => by rw [pianolalaw04_PumpLacks.l0, if_neg (by omega)]) ?_
    refine Ev.bind (a := lacksF ps rs d c) ⟨0, fun k _ => by unfold pump_LacksG.f; rw [if_pos ⟨shortB_iff.2 ed, shortB_iff.2 ec⟩]⟩ ?_
    refine Ev.bind (plant_f b1 b2) ?_
    refine Ev.bind (rLacks_f ps rs (by omega) (by omega)) ?_
    refine Ev.bind (numbers_same _ h1) ?_
    simp only [if_true]
    refine Ev.bind (numbers_same _ h2) ?_
    simp only [if_true]
    exact Ev.now _
  | m + 1, i, hi, hs => by
    have hl : (d ++ c).length = d.length + c.length := List.length_append
    have e : rd_L6 (d ++ c) (i : Int) = (d ++ c)[i]'(by omega) := rd_L6_get (by omega)
    have step : ((d ++ c)[i]'(by omega)).length ≤ 500 → Ev (fun k => pianolalaw04_PumpLacks.l0 k (d ++ c) ((i + 1 : Nat) : Int) ps rs d c) true := fun q => lacks_l0 b1 b2 hd hc m (i + 1) (by omega) fun j hj h => by
      by_cases c : j = i
      · subst c; exact q
      · exact hs j (by omega) h
    by_cases c1 : (((d ++ c)[i]'(by omega)).length : Int) > 60
    · by_cases c2 : (((d ++ c)[i]'(by omega)).length : Int) ≤ 400
      · refine Ev.step (f := fun _ => some true) (fun k => ?_) (Ev.now _)
        rw [pianolalaw04_PumpLacks.l0, if_pos (by omega), if_pos (by omega), e, if_pos c1, if_pos c2]; rfl
      · by_cases c3 : (((d ++ c)[i]'(by omega)).length : Int) > 500
        · refine Ev.step (f := fun _ => some true) (fun k => ?_) (Ev.now _)
          rw [pianolalaw04_PumpLacks.l0, if_pos (by omega), if_pos (by omega), e, if_pos c1, if_neg c2, if_pos c3]; rfl
        · refine Ev.step (fun k => ?_) (step (by omega))
          rw [pianolalaw04_PumpLacks.l0, if_pos (by omega), if_pos (by omega), e, if_pos c1, if_neg c2, if_neg c3, wrapN (by omega)]
    · refine Ev.step (fun k => ?_) (step (by omega))
      rw [pianolalaw04_PumpLacks.l0, if_pos (by omega), if_pos (by omega), e, if_neg c1, if_neg (by omega), wrapN (by omega)]
theorem lacksLaw_ev (ps rs : List (List S71)) (d c : List (List Int)) (hp : ps.length ≤ 9223372036854775807) (hr : rs.length ≤ 9223372036854775807) : Ev (fun k => pianolalaw04_PumpLacks.f k ps rs d c) true := by
  unfold pianolalaw04_PumpLacks.f
  refine Ev.bind (long_f ps hp) ?_
  have works : ∀ k, pianolalaw04_PumpLacks.j0 (k + 1) true ps rs d c = some true := fun k => by rw [pianolalaw04_PumpLacks.j0, if_pos rfl]; rfl
  cases c1 : longB ps
  · simp only [Bool.false_eq_true, if_false]
    refine Ev.bind (long_f rs hr) ?_
    cases c2 : longB rs
    · have b1 := longB_false c1
      have b2 := longB_false c2
      simp only [Bool.false_eq_true, if_false]
      by_cases c3 : (d.length : Int) > 10
      · simp only [if_pos c3]
        exact Ev.step works (Ev.now _)
      · simp only [if_neg c3]
        by_cases c4 : (c.length : Int) > 10
        · rw [decide_eq_true c4]
          exact Ev.step works (Ev.now _)
        · rw [decide_eq_false c4]
          refine Ev.step (fun k => ?_) (lacks_l0 b1 b2 (d := d) (c := c) (by omega) (by omega) (d ++ c).length 0 (by omega) fun j hj => by omega)
          rw [pianolalaw04_PumpLacks.j0, if_neg (by decide)]
          show (if _ then _ else _) = _
          rw [if_pos (by simp only [List.length_nil]; omega), List.nil_append]
          show (if _ then _ else _) = _
          rw [if_pos (by omega)]
          rfl
    · exact Ev.step works (Ev.now _)
  · simp only [if_true]
    exact Ev.step works (Ev.now _)
end Go.Proofs.Ythoeindopljmkaa.P
namespace Go.Proofs.Ythoeindopljmkaa.Pure
open P Go.Proofs.YthoeindopljmkaaW.PrintWords
theorem PumpLacks (l0 l1 : List (List S71)) (d c : List (List Int)) (h0 : l0.length ≤ 9223372036854775807) (h1 : l1.length ≤ 9223372036854775807) : ∃ k, pianolalaw04_PumpLacks.f k l0 l1 d c = some true := (lacksLaw_ev l0 l1 d c h0 h1).rounds
end Go.Proofs.Ythoeindopljmkaa.Pure
end
