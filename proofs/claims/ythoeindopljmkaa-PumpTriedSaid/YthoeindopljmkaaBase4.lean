/- Words and contracts for a claim. -/
import Derived.Test.YthoeindopljmkaaBase3

section
namespace Go.Proofs.Ythoeindopljmkaa.P
open Go.RowKit Go.Proofs.YthoeindopljmkaaW.PrintWords Go.Proofs.YthoeindopljmkaaW.PrintLast Go.Proofs.YthoeindopljmkaaW.PrintMore
attribute [local go_sem] max2_int min2_int max_two min_two max_three min_three max_four min_four
set_option linter.unusedVariables false
set_option linter.unusedSimpArgs false
mutual
def pianolalaw04_course.l0 : Nat → Int → List Int → List (List (S71)) → Int → Int → List (List (S71)) → List (List (S71)) → List (List Int) → Option ((List (List Int)) × (List (List Int)))
  | 0, _, _, _, _, _, _, _, _ => none
  | k + 1, x1, x2, x15, x16, x17, x537000, x537001, x539000 => if x17 < x16 then (if 0 ≤ x17 then (if x17 < (x15.length : Int) then (if (x2.length : Int) > x17 then (if x17 ≤ (x2.length : Int) then ((pianolalaw04_demand.f k (rd_L4 x15 x17) x1 (x2.drop (x17 : Int).toNat)).bind fun t541 => (if x539000.length < 5864062014805 then (pianolalaw04_course.l0 k x1 x2 x15 x16 (wrap64 (x17 + 1)) x537000 x537001 (x539000 ++ [t541])) else (none))) else (none)) else ((pianolalaw04_demand.f k (rd_L4 x15 x17) x1 x2).bind fun t547 => (if x539000.length < 5864062014805 then (pianolalaw04_course.l0 k x1 x2 x15 x16 (wrap64 (x17 + 1)) x537000 x537001 (x539000 ++ [t547])) else (none)))) else (none)) else (none)) else (pianolalaw04_course.l1 k x1 x2 x537001 (x537001.length : Int) 0 x539000 ([] : List (List Int)))
def pianolalaw04_course.l1 : Nat → Int → List Int → List (List (S71)) → Int → Int → List (List Int) → List (List Int) → Option ((List (List Int)) × (List (List Int)))
  | 0, _, _, _, _, _, _, _ => none
  | k + 1, x1, x2, x41, x42, x43, x539000, x539001 => if x43 < x42 then (if 0 ≤ x43 then (if x43 < (x41.length : Int) then (if (x2.length : Int) > (wrap64 ((wrap64 (2 * x43)) + 1)) then (if 0 ≤ (wrap64 ((wrap64 (2 * x43)) + 1)) then (if (wrap64 ((wrap64 (2 * x43)) + 1)) ≤ (x2.length : Int) then ((pianolalaw04_capacity.f k (rd_L4 x41 x43) x1 (x2.drop ((wrap64 ((wrap64 (2 * x43)) + 1)) : Int).toNat)).bind fun t555 => (if x539001.length < 5864062014805 then (pianolalaw04_course.l1 k x1 x2 x41 x42 (wrap64 (x43 + 1)) x539000 (x539001 ++ [t555])) else (none))) else (none)) else (none)) else ((pianolalaw04_capacity.f k (rd_L4 x41 x43) x1 ([] : List Int)).bind fun t561 => (if x539001.length < 5864062014805 then (pianolalaw04_course.l1 k x1 x2 x41 x42 (wrap64 (x43 + 1)) x539000 (x539001 ++ [t561])) else (none)))) else (none)) else (none)) else (some (x539000, x539001))
end
def pianolalaw04_course.f (k : Nat) (l0_0 : List (List (S71))) (l0_1 : List (List (S71))) (a1 : Int) (l2 : List Int) : Option ((List (List Int)) × (List (List Int))) := pianolalaw04_course.l0 k a1 l2 l0_0 (l0_0.length : Int) 0 l0_0 l0_1 ([] : List (List Int))
def pianolalaw04_course.T8 : Bool × List (List Nat × List Nat) := (true, [([], []), ([0], [0]), ([], []), ([], []), ([], []), ([2, 3, 4], [2, 3, 4]), ([5], [5]), ([1, 6, 5], [1, 6]), ([0, 1, 2, 3, 4, 5, 6, 7], []), ([8, 7, 7, 0, 1, 2, 3, 4, 5, 6, 7], [7, 8])])
def pianolalaw04_course.B8 : List Nat := [0, 1, 0, 0, 0, 28, 60, 127, 255, 511]
theorem pianolalaw04_course.tab8 : rtab .any (opsOf Try.f45 8) = pianolalaw04_course.T8 := by kernel_rfl
theorem pianolalaw04_course.bits8 : waitsOk pianolalaw04_course.T8.2 pianolalaw04_course.B8 = true := by kernel_rfl
def pianolalaw04_course.T16 : Bool × List (List Nat × List Nat) := (true, [([], []), ([0], [0]), ([], []), ([], []), ([], []), ([2, 3, 4], [2, 3, 4]), ([5], [5]), ([1, 6, 5], [1, 6]), ([0, 1, 2, 3, 4, 5, 6, 7], []), ([8, 7, 7, 0, 1, 2, 3, 4, 5, 6, 7], [7, 8])])
def pianolalaw04_course.B16 : List Nat := [0, 1, 0, 0, 0, 28, 60, 127, 255, 511]
theorem pianolalaw04_course.tab16 : rtab .any (opsOf Try.f45 16) = pianolalaw04_course.T16 := by kernel_rfl
theorem pianolalaw04_course.bits16 : waitsOk pianolalaw04_course.T16.2 pianolalaw04_course.B16 = true := by kernel_rfl
set_option maxHeartbeats 8000000 in
set_option maxRecDepth 100000 in
theorem pianolalaw04_course.calls (k : Nat) (A0_0 : Option Addr) (c0_0 : Nat) (l0_0 : List (List (S71))) (A0_1 : Option Addr) (c0_1 : Nat) (l0_1 : List (List (S71))) (a1 : Int) (A2 : Option Addr) (c2 : Nat) (l2 : List Int) (r1 : List (List Int)) (r2 : List (List Int)) (w : World) (hr0_0 : Kd.C (Kd.slice 71 k71) w A0_0 l0_0.length l0_0) (hc0_0 : l0_0.length ≤ c0_0) (hr0_1 : Kd.C (Kd.slice 71 k71) w A0_1 l0_1.length l0_1) (hc0_1 : l0_1.length ≤ c0_1) (hr2 : Kd.C (Kd.int .u8) w A2 l2.length l2) (hc2 : l2.length ≤ c2) (h : pianolalaw04_course.f k l0_0 l0_1 a1 l2 = some (r1, r2)) :
  Calls Try.prog 45 #[.agg #[.slice A0_0 l0_0.length c0_0, .slice A0_1 l0_1.length c0_1], .int .i64 a1, .slice A2 l2.length c2] w fun e w' => ∃ v0_ v1_ : Value, e = .returned (.agg #[v0_, v1_]) ∧ Kd.S (Kd.slice 3 (Kd.int .i64)) 30 w' w.heap.size (fun k_ => some k_ ≠ (v1_ : Value).ownBlock) v0_ r1 ∧ Kd.S (Kd.slice 3 (Kd.int .i64)) 30 w' w.heap.size (fun k_ => some k_ ≠ (v0_ : Value).ownBlock) v1_ r2 ∧ Below w.heap.size w w' := by
 have hu40 := Try.underlying40
 have hu56 := Try.underlying56
 have HR0_0 := Aside0.mk hr0_0
 have HC0_0 := Aside0.mk hc0_0
 clear hr0_0 hc0_0
 have HR0_1 := Aside0.mk hr0_1
 have HC0_1 := Aside0.mk hc0_1
 clear hr0_1 hc0_1
 have HR2 := Aside0.mk hr2
 have HC2 := Aside0.mk hc2
 clear hr2 hc2
 have HB := Aside0.mk (Below.refl w.heap.size w)
 have H : (pianolalaw04_course.l0 k a1 l2 l0_0 (l0_0.length : Int) 0 l0_0 l0_1 ([] : List (List Int))) = some (r1, r2) := h
 clear h
 have H' := Aside0.mk H
 clear H
 go_enter Try.func45, Try.ntmps45
 go_wp2_with (first | ((with_reducible refine gate_dst (N := 3) rfl ?_); refine box_event ?hg (N := 3) ?hd (cs := #[.slice A0_0 l0_0.length c0_0, .slice A0_1 l0_1.length c0_1]) (t := 40) ?hr ?_; (case hd => rfl); (case hg => rfl); (case hr => first | (go_simp; done) | (go_simp; rfl)); intro gb536 hg w4 hbox hb; have n0_ := Aside0.mk (below_step (zqA HB.out) hb); have n1_ := Aside0.mk (hbox); have n2_ := Aside0.mk ((by rw [hg]; exact (below_size (zqA HB.out)) : w.heap.size ≤ gb536)); have n3_ := Aside0.mk ((by rw [hg]; exact (below_size (zqA HB.out)) : w.heap.size ≤ gb536)); clear HB; have HB := n0_; have BK536 := n1_; have GW536 := n2_; have GE536 := n3_; clear n0_ n1_ n2_ n3_; clear hb hbox hg) | ((with_reducible refine gate_dst (N := 6) rfl ?_); refine box_event ?hg (N := 6) ?hd (cs := #[.slice none 0 0, .slice none 0 0]) (t := 56) ?hr ?_; (case hd => rfl); (case hg => rfl); (case hr => first | (go_simp; done) | (go_simp; rfl)); intro gb537 hg w5 hbox hb; have n0_ := Aside0.mk (blk_below (g := gb536) (o := .cells #[.slice A0_0 l0_0.length c0_0, .slice A0_1 l0_1.length c0_1] 40 (0, 0)) (zqB BK536.out) hb); have n1_ := Aside0.mk (below_step (zqG HB.out GE536.out) hb); have n2_ := Aside0.mk (hbox); have n3_ := Aside0.mk ((by rw [hg]; exact (below_size (zqG HB.out GE536.out)) : w.heap.size ≤ gb537)); have n4_ := Aside0.mk ((by rw [hg]; exact (below_size (zqG HB.out GE536.out)) : w.heap.size ≤ gb537)); have n5_ := Aside0.mk ((by rw [hg]; exact Nat.ne_of_lt (blk_lt (g := gb536) (o := .cells #[.slice A0_0 l0_0.length c0_0, .slice A0_1 l0_1.length c0_1] 40 (0, 0)) (zqB BK536.out)) : gb536 ≠ gb537)); have n6_ := Aside0.mk ((by rw [hg]; exact Nat.ne_of_gt (blk_lt (g := gb536) (o := .cells #[.slice A0_0 l0_0.length c0_0, .slice A0_1 l0_1.length c0_1] 40 (0, 0)) (zqB BK536.out)) : gb537 ≠ gb536)); clear BK536; clear HB; have BK536 := n0_; have HB := n1_; have BK537 := n2_; have GW537 := n3_; have GE537 := n4_; have NB536_537 := n5_; have NB537_536 := n6_; clear n0_ n1_ n2_ n3_ n4_ n5_ n6_; clear hb hbox hg) | ((with_reducible refine gate_dst (N := 7) rfl ?_); refine box_event ?hg (N := 7) ?hd (cs := #[.slice none 0 0, .slice none 0 0]) (t := 56) ?hr ?_; (case hd => rfl); (case hg => rfl); (case hr => first | (go_simp; done) | (go_simp; rfl)); intro gb538 hg w6 hbox hb; have n0_ := Aside0.mk (blk_below (g := gb536) (o := .cells #[.slice A0_0 l0_0.length c0_0, .slice A0_1 l0_1.length c0_1] 40 (0, 0)) (zqB BK536.out) hb); have n1_ := Aside0.mk (blk_below (g := gb537) (o := .cells #[.slice none 0 0, .slice none 0 0] 56 (0, 0)) (zqB BK537.out) hb); have n2_ := Aside0.mk (below_step (zqH HB.out GE536.out GE537.out) hb); have n3_ := Aside0.mk (hbox); have n4_ := Aside0.mk ((by rw [hg]; exact (below_size (zqH HB.out GE536.out GE537.out)) : w.heap.size ≤ gb538)); have n5_ := Aside0.mk ((by rw [hg]; exact (below_size (zqH HB.out GE536.out GE537.out)) : w.heap.size ≤ gb538)); have n6_ := Aside0.mk ((by rw [hg]; exact Nat.ne_of_lt (blk_lt (g := gb536) (o := .cells #[.slice A0_0 l0_0.length c0_0, .slice A0_1 l0_1.length c0_1] 40 (0, 0)) (zqB BK536.out)) : gb536 ≠ gb538)); have n7_ := Aside0.mk ((by rw [hg]; exact Nat.ne_of_gt (blk_lt (g := gb536) (o := .cells #[.slice A0_0 l0_0.length c0_0, .slice A0_1 l0_1.length c0_1] 40 (0, 0)) (zqB BK536.out)) : gb538 ≠ gb536)); have n8_ := Aside0.mk ((by rw [hg]; exact Nat.ne_of_lt (blk_lt (g := gb537) (o := .cells #[.slice none 0 0, .slice none 0 0] 56 (0, 0)) (zqB BK537.out)) : gb537 ≠ gb538)); have n9_ := Aside0.mk ((by rw [hg]; exact Nat.ne_of_gt (blk_lt (g := gb537) (o := .cells #[.slice none 0 0, .slice none 0 0] 56 (0, 0)) (zqB BK537.out)) : gb538 ≠ gb537)); clear BK536; clear BK537; clear HB; have BK536 := n0_; have BK537 := n1_; have HB := n2_; have BK538 := n3_; have GW538 := n4_; have GE538 := n5_; have NB536_538 := n6_; have NB538_536 := n7_; have NB537_538 := n8_; have NB538_537 := n9_; clear n0_ n1_ n2_ n3_ n4_ n5_ n6_ n7_ n8_ n9_; clear hb hbox hg; have hnb7 := NB536_537.out; have hnc7 := NB537_536.out; have hnb8 := NB536_538.out; have hnc8 := NB538_536.out; have hcz9_0 : w6.cell? ⟨gb536, 0, none⟩ = some (.slice A0_0 l0_0.length c0_0) := (blk_cell BK536.out 0).trans rfl; have hcz9_1 : w6.cell? ⟨gb536, 1, none⟩ = some (.slice A0_1 l0_1.length c0_1) := (blk_cell BK536.out 1).trans rfl; have hfz9_0 := blk_frozen BK536.out 0; have hfz9_1 := blk_frozen BK536.out 1))
 go_loopg [17] k (fun kq v17 w' => ∃ (x17_1 : Int) (x539000_1 : List (List Int)) (u539000 : Value), v17 = .int .i64 x17_1 ∧ Aside0 (pianolalaw04_course.l0 kq a1 l2 l0_0 (l0_0.length : Int) x17_1 l0_0 l0_1 x539000_1 = some (r1, r2)) ∧ Aside0 (kq ≤ k) ∧ Aside0 (Kd.S (Kd.slice 3 (Kd.int .i64)) 30 w' w.heap.size (fun _ => True) u539000 x539000_1) ∧ Aside0 (w'.heap[gb536]? = some (.cells #[(.slice A0_0 l0_0.length c0_0), (.slice A0_1 l0_1.length c0_1)] 40 (0, 0))) ∧ Aside0 (w'.heap[gb537]? = some (.cells #[(.slice none 0 0), (.slice none 0 0)] 56 (0, 0))) ∧ Aside0 (w'.heap[gb538]? = some (.cells #[u539000, (.slice none 0 0)] 56 (0, 0))) ∧ Aside0 (Below w.heap.size w w'))
 case atStart => exact ⟨(0), (([] : List (List Int))), (.slice none 0 0), (by first | rfl | (simp; done) | (simp [*]; done)), H', ⟨Nat.le_refl _⟩, ⟨by first | exact Kd.S_nil _ _ _ _ _ | exact Kd.N_nil _ _ _ _ _ | exact Kd.V_nil _ _ _ _ _ | exact Kd.Q_nil _ _ _ _ _ | exact Kd.R_nil _ _ _ _ _⟩, ⟨zqB BK536.out⟩, ⟨zqB BK537.out⟩, ⟨zqB BK538.out⟩, ⟨by repeat (first | (with_reducible first | exact HB.out | apply below_alloc | apply pw_below_drewN | apply below_drew1 | refine below_set ?_ GE536.out | refine below_set ?_ GE537.out | refine below_set ?_ GE538.out) | exact HB.out)⟩⟩
 case round =>
  clear H'
  try clear c2
  try clear p2
  try clear c4
  try clear c7
  try clear c8
  try clear hcz9_0
  try clear hcz9_1
  try clear hfz9_0
  try clear hfz9_1
  obtain ⟨x17_1, x539000_1, u539000, rfl, HA, HK1, HO_539000, BK536, BK537, BK538, HB⟩ := hrel
  cases gk with
  | zero => exact absurd HA.out (by simp [pianolalaw04_course.l0])
  | succ k1 =>
   have H := HA.out
   clear HA
   simp only [pianolalaw04_course.l0] at H
   by_cases c10 : x17_1 < (l0_0.length : Int)
   ·
    rw [if_pos c10] at H
    have c10b0 : decide (x17_1 < (l0_0.length : Int)) = true := decide_eq_true c10
    clear c10
    by_cases c11 : 0 ≤ x17_1
    ·
     rw [if_pos c11] at H
     have c11b0 : decide (0 ≤ x17_1) = true := decide_eq_true c11
     clear c11
     by_cases c12 : x17_1 < (l0_0.length : Int)
     ·
      rw [if_pos c12] at H
      have c12b0 : decide (x17_1 < (l0_0.length : Int)) = true := decide_eq_true c12
      clear c12
      by_cases c13 : (l2.length : Int) > x17_1
      ·
       rw [if_pos c13] at H
       have c13b0 : decide (x17_1 < (l2.length : Int)) = true := decide_eq_true c13
       clear c13
       have c14b0 := eq_true (of_decide_eq_true (zqD) : 0 ≤ x17_1)
       by_cases c15 : x17_1 ≤ (l2.length : Int)
       ·
        rw [if_pos c15] at H
        have c15b0 := eq_true c15
        have c15b1 : decide (x17_1 ≤ (l2.length : Int)) = true := decide_eq_true c15
        clear c15
        replace H := Option.bind_eq_some_iff.mp H
        obtain ⟨t541, A160, H⟩ := H
        replace H : (if x539000_1.length < 5864062014805 then (pianolalaw04_course.l0 k1 a1 l2 l0_0 (l0_0.length : Int) (wrap64 (x17_1 + 1)) l0_0 l0_1 (x539000_1 ++ [t541])) else (none)) = some (r1, r2) := H
        have A16 := Aside0.mk A160
        clear A160
        by_cases c17 : x539000_1.length < 5864062014805
        ·
         rw [if_pos c17] at H
         have LMc17 := Aside0.mk c17
         clear c17
         obtain ⟨y544, hy544⟩ : ∃ y_ : List (List Int), y_ = (x539000_1 ++ [t541]) := ⟨_, rfl⟩
         replace H : (pianolalaw04_course.l0 k1 a1 l2 l0_0 (l0_0.length : Int) (wrap64 (x17_1 + 1)) l0_0 l0_1 y544) = some (r1, r2) := by first | (rw [hy544]; with_reducible exact H) | (have H2_ := (Option.bind_some _ _).symm.trans H; rw [hy544]; with_reducible exact H2_) | (have H2_ := (Option.bind_some _ _).symm.trans H; with_reducible exact H2_) | with_reducible exact H | (rw [hy544]; exact H) | exact H
         have Ny544 := Aside0.mk hy544
         clear hy544
         have H' := Aside0.mk H
         clear H
         have p539 : 0 ≤ (x17_1 : Int) := of_decide_eq_true (zqD)
         have q539 : x17_1 < (l0_0.length : Int) := of_decide_eq_true (zqD)
         obtain ⟨ad539, A539_0, c539_0, e539, hx539_0, hl539_0, hi539_0⟩ := at_L4 HR0_0.out x17_1 p539 q539
         cases e539
         replace hx539_0 := (HB.out.cell (World.block_lt_of_cell? w _ hx539_0)).trans hx539_0
         have HR539_0 := Aside0.mk hi539_0
         have HC539_0 := Aside0.mk hl539_0
         clear hi539_0 hl539_0
         replace p539 := eq_true p539
         replace q539 := eq_true q539
         obtain ⟨i018, hi018, _, hsz18, _⟩ := info_parts info5
         obtain ⟨A18, hcut18, hA18, hC18⟩ := print_drop_of (P := Try.prog) (Value.int .u8) 0 67 5 .i64 Try.underlying67 hi018 hsz18 A2 c2 l2 x17_1 (of_decide_eq_true (zqD)) (of_decide_eq_true (zqD)) HC2.out
         have HR540 := Aside0.mk (Kd.C_of_reads (h1 := fun _ => rfl) (hA18 _ (Kd.reads_of_C HR2.out)))
         have HC540 := Aside0.mk hC18
         clear hA18 hC18 hi018 hsz18
         try go_wp2
         have n0_ := Aside0.mk (Kd.S_drew HO_539000.out)
         have n1_ := Aside0.mk (blk_drew BK536.out)
         have n2_ := Aside0.mk (blk_drew BK537.out)
         have n3_ := Aside0.mk (blk_drew BK538.out)
         have n4_ := Aside0.mk (below_drew1 HB.out)
         clear HO_539000
         clear BK536
         clear BK537
         clear BK538
         clear HB
         have HO_539000 := n0_
         have BK536 := n1_
         have BK537 := n2_
         have BK538 := n3_
         have HB := n4_
         clear n0_ n1_ n2_ n3_ n4_
         refine start_ (n := 10) (S := fun w' => w'.cell? ⟨gb538, 0, none⟩ = some (u539000) ∧ w'.cell? ⟨gb538, 1, none⟩ = some (.slice none 0 0)) (ds := [9]) #[false, false, false, false, false, false, false, false, false, false] (by kernel_rfl) rfl rfl ⟨(blk_cell BK538.out 0).trans rfl, (blk_cell BK538.out 1).trans rfl⟩ (fun hHeld => ?_); refine with_tabW pianolalaw04_course.tab8 pianolalaw04_course.bits8 (fun HT_ HW_ => ?_)
         generalize wr.drew = w19 at HO_539000 BK536 BK537 BK538 HB hHeld ⊢
         refine pure_ (i := 0) (N := some 30) (v := ?_) (a' := ?_) #[true, false, false, false, false, false, false, false, false, false] rfl rfl (any_of HT_.out (by kernel_rfl)) (fun _ _ _ h => h) (Or.inl ⟨by rfl, ?_⟩) ?_ ?_
         rotate_left
         ·
          intro w'
          go_simp
          with_reducible rfl
         rotate_left
         ·
          simp only [Act.put, List.setIfInBounds_toArray, List.set_cons_zero, List.set_cons_succ, i64_w, i32_w]
          rfl
         refine pure_ (i := 2) (N := some 32) (v := ?_) (a' := ?_) #[true, false, true, false, false, false, false, false, false, false] rfl rfl (any_of HT_.out (by kernel_rfl)) (fun _ _ _ h => h) (Or.inl ⟨by rfl, ?_⟩) ?_ ?_
         rotate_left
         ·
          intro w'
          go_simp
          with_reducible rfl
         rotate_left
         ·
          simp only [Act.put, List.setIfInBounds_toArray, List.set_cons_zero, List.set_cons_succ, i64_w, i32_w]
          rfl
         refine pure_ (i := 3) (N := some 33) (v := ?_) (a' := ?_) #[true, false, true, true, false, false, false, false, false, false] rfl rfl (any_of HT_.out (by kernel_rfl)) (fun _ _ _ h => h) (Or.inl ⟨by rfl, ?_⟩) ?_ ?_
         rotate_left
         ·
          intro w'
          go_simp
          with_reducible rfl
         rotate_left
         ·
          simp only [Act.put, List.setIfInBounds_toArray, List.set_cons_zero, List.set_cons_succ, i64_w, i32_w]
          rfl
         refine pure_ (i := 4) (N := some 34) (v := ?_) (a' := ?_) #[true, false, true, true, true, false, false, false, false, false] rfl rfl (any_of HT_.out (by kernel_rfl)) (fun _ _ _ h => h) (Or.inl ⟨by rfl, ?_⟩) ?_ ?_
         rotate_left
         ·
          intro w'
          go_simp
          with_reducible rfl
         rotate_left
         ·
          simp only [Act.put, List.setIfInBounds_toArray, List.set_cons_zero, List.set_cons_succ, i64_w, i32_w]
          rfl
         refine take_ (i := 1) (N := some 31) (v := ?_) (a' := ?_) #[true, true, true, true, true, false, false, false, false, false] rfl rfl (take_ofW HT_.out HW_.out (by kernel_rfl)) (fun _ _ _ h => h) (Or.inl ⟨by rfl, ?_⟩) hHeld ?_ ?_
         rotate_left
         ·
          rintro w' ⟨s0, s1⟩
          go_simp
          with_reducible rfl
         rotate_left
         ·
          simp only [Act.put, List.setIfInBounds_toArray, List.set_cons_zero, List.set_cons_succ, i64_w, i32_w]
          rfl
         refine one_ (i := 5) (N := some 35) #[true, true, true, true, true, true, false, false, false, false] rfl rfl (one_of HT_.out (by kernel_rfl)) (by decide) (fun K hK => ?_)
         refine goes_ Try.func41 (by kernel_rfl) rfl #[.slice A539_0 (rd_L4 l0_0 x17_1).length c539_0, .int .i64 a1, .slice A18 (l2.drop (x17_1 : Int).toNat).length (c2 - x17_1.toNat)] (by rfl) rfl rfl (by (try simp only [List.map_toArray, List.map_cons, List.map_nil]); first | done | (rw [show (l2.drop (x17_1 : Int).toNat).length = (l2.length - x17_1.toNat) from List.length_drop] <;> rfl) | rfl | (simp only [List.length_drop, List.length_take]; rfl)) ?_
         with_reducible refine (pianolalaw04_demand.calls k1 _ _ (rd_L4 l0_0 x17_1) a1 _ _ (l2.drop (x17_1 : Int).toNat) t541 _ ?side1 ?side2 ?side3 ?side4 A16.out).mono ?_
         (case side1 => repeat (first | exact (Kd.C_below HR539_0.out HB.out) | (with_reducible refine Kd.C_alloc ?_ _) | (with_reducible refine Kd.C_drewN ?_ _) | (with_reducible refine Kd.C_drew ?_)))
         (case side2 => exact HC539_0.out)
         (case side3 => repeat (first | exact (Kd.C_below HR540.out HB.out) | (with_reducible refine Kd.C_alloc ?_ _) | (with_reducible refine Kd.C_drewN ?_ _) | (with_reducible refine Kd.C_drew ?_)))
         (case side4 => exact HC540.out)
         rintro e w20 ⟨v542, rfl, ho0, hb⟩
         refine ⟨_, rfl, ?_⟩
         have n0_ := Aside0.mk (Kd.S_elder' (by (with_reducible repeat (first | apply Kd.S_alloc | apply Kd.S_drewN | apply Kd.S_drew)); exact HO_539000.out) (Kd.R_base ho0) hb)
         have n1_ := Aside0.mk (Kd.R_lower ho0 (below_size (by repeat (first | (with_reducible first | exact HB.out | apply below_alloc | apply pw_below_drewN | apply below_drew1 | refine below_set ?_ GE536.out | refine below_set ?_ GE537.out | refine below_set ?_ GE538.out) | exact HB.out))))
         have n2_ := Aside0.mk (blk_below (g := gb536) (o := .cells #[.slice (some ad539) l0_0.length c0_0, .slice A0_1 l0_1.length c0_1] 40 (0, 0)) (zqB BK536.out) hb)
         have n3_ := Aside0.mk (blk_below (g := gb537) (o := .cells #[.slice none 0 0, .slice none 0 0] 56 (0, 0)) (zqB BK537.out) hb)
         have n4_ := Aside0.mk (blk_below (g := gb538) (o := .cells #[u539000, .slice none 0 0] 56 (0, 0)) (zqB BK538.out) hb)
         have n5_ := Aside0.mk (below_step (by repeat (first | (with_reducible first | exact HB.out | apply below_alloc | apply pw_below_drewN | apply below_drew1 | refine below_set ?_ GE536.out | refine below_set ?_ GE537.out | refine below_set ?_ GE538.out) | exact HB.out)) hb)
         clear HO_539000
         clear BK536
         clear BK537
         clear BK538
         clear HB
         have HO_539000 := n0_
         have HO543 := n1_
         have BK536 := n2_
         have BK537 := n3_
         have BK538 := n4_
         have HB := n5_
         clear n0_ n1_ n2_ n3_ n4_ n5_
         (try clear hb)
         (try clear hb2)
         (try clear hk)
         (try clear hi)
         (try clear ho0)
         obtain ⟨Ao22, co22, eo22⟩ := Kd.R_slice HO543.out
         (first | subst eo22 | (injection eo22 with f1_ f2_ f3_; have f4_ := f1_.symm; have f5_ := f3_.symm; clear f1_ f2_ f3_; subst f4_; subst f5_))
         refine hK.out _ _ ⟨(blk_cell BK538.out 0).trans rfl, (blk_cell BK538.out 1).trans rfl⟩ (fun hHeld => ?_)
         clear hK K
         refine norm_ (a' := ?_) ?_ ?_
         rotate_left
         ·
          show Act.put _ (some 35) _ = _
          simp only [Act.put, List.setIfInBounds_toArray, List.set_cons_zero, List.set_cons_succ, i64_w, i32_w]
          rfl
         refine one_ (i := 6) (N := some 36) #[true, true, true, true, true, true, true, false, false, false] rfl rfl (one_of HT_.out (by kernel_rfl)) (by decide) (fun K hK => ?_)
         refine value_ (w1 := ?_) (v := ?_) (by rfl) rfl ?_ ?_
         rotate_left 2
         ·
          go_simp
          constructor
          ·
           rfl
          ·
           rfl
         refine hK.out _ _ ⟨(blk_cell (blk_alloc BK538.out _) 0).trans rfl, (blk_cell (blk_alloc BK538.out _) 1).trans rfl⟩ (fun hHeld => ?_)
         clear hK K
         refine norm_ (a' := ?_) ?_ ?_
         rotate_left
         ·
          show Act.put _ (some 36) _ = _
          simp only [Act.put, List.setIfInBounds_toArray, List.set_cons_zero, List.set_cons_succ, i64_w, i32_w]
          rfl
         refine one_ (i := 7) (N := some 37) #[true, true, true, true, true, true, true, true, false, false] rfl rfl (one_of HT_.out (by kernel_rfl)) (by decide) (fun K hK => ?_)
         refine Kd.S_append_step (Kd.slice 3 (Kd.int .i64)) (w0 := w) w.heap.size (by rfl) (.tmp 31) (.tmp 36) 54 30 (.slice none 0 0) 24 rfl Try.underlying54 info30 rfl (by decide) (by omega) u539000 x539000_1 t541 [.slice Ao22 t541.length co22] (fun _ => True) (fun k_ => some k_ = (.slice Ao22 t541.length co22 : Value).ownBlock) rfl rfl ?aP (fun k_ hk_ => ((Kd.R_mono (ok' := fun k_ => ((fun _ => True)) k_ ∧ some k_ ≠ (u539000 : Value).ownBlock) (Kd.R_apart' (HO543.out) (Kd.S_typed HO_539000.out) (by decide)) (fun k_ hk => ⟨trivial, hk.2⟩))).1 k_ hk_.symm) ?aF ?aO ?aB ?aS ?aL ?_
         (case aP => exact Kd.M_row (Kd.R_mono (Kd.R_tight rfl (Kd.R_mono (ok' := fun k_ => ((fun _ => True)) k_ ∧ some k_ ≠ (u539000 : Value).ownBlock) (Kd.R_apart' (HO543.out) (Kd.S_typed HO_539000.out) (by decide)) (fun k_ hk => ⟨trivial, hk.2⟩))) (fun _ h_ => h_)))
         (case aB => exact (by repeat (first | (with_reducible first | exact HB.out | apply below_alloc | apply pw_below_drewN | apply below_drew1 | refine below_set ?_ GE536.out | refine below_set ?_ GE537.out | refine below_set ?_ GE538.out) | exact HB.out)))
         (case aF => exact (fun _ _ => trivial))
         (case aO => exact (by (with_reducible repeat (first | apply Kd.S_alloc | apply Kd.S_drewN | apply Kd.S_drew)); exact Kd.S_mono HO_539000.out (fun k_ hk => ⟨trivial, fun e_ => hk.2 e_⟩)))
         (case aS => exact (below_size (by repeat (first | (with_reducible first | exact HB.out | apply below_alloc | apply pw_below_drewN | apply below_drew1 | refine below_set ?_ GE536.out | refine below_set ?_ GE537.out | refine below_set ?_ GE538.out) | exact HB.out))))
         (case aL => have := LMc17.out; omega)
         intro v545 w21 ho hb hg hat
         rw [← Ny544.out] at ho
         have n0_ := Aside0.mk (blk_grown (g := gb536) (o := .cells #[.slice (some ad539) l0_0.length c0_0, .slice A0_1 l0_1.length c0_1] 40 (0, 0)) (zqB BK536.out) hg (Kd.S_ne HO_539000.out BK536.out (by decide)))
         have n1_ := Aside0.mk (blk_grown (g := gb537) (o := .cells #[.slice none 0 0, .slice none 0 0] 56 (0, 0)) (zqB BK537.out) hg (Kd.S_ne HO_539000.out BK537.out (by decide)))
         have n2_ := Aside0.mk (blk_grown (g := gb538) (o := .cells #[u539000, .slice none 0 0] 56 (0, 0)) (zqB BK538.out) hg (Kd.S_ne HO_539000.out BK538.out (by decide)))
         have n3_ := Aside0.mk (hb)
         have n4_ := Aside0.mk (ho)
         clear BK536
         clear BK537
         clear BK538
         clear HB
         clear HO_539000
         clear HO543
         have BK536 := n0_
         have BK537 := n1_
         have BK538 := n2_
         have HB := n3_
         have HO546 := n4_
         clear n0_ n1_ n2_ n3_ n4_
         clear ho hb hg hat
         obtain ⟨Ao23, co23, eo23⟩ := Kd.S_slice HO546.out
         (first | subst eo23 | (injection eo23 with f1_ f2_ f3_; have f4_ := f1_.symm; have f5_ := f3_.symm; clear f1_ f2_ f3_; subst f4_; subst f5_))
         refine hK.out _ _ ⟨(blk_cell BK538.out 0).trans rfl, (blk_cell BK538.out 1).trans rfl⟩ (fun hHeld => ?_)
         clear hK K
         refine norm_ (a' := ?_) ?_ ?_
         rotate_left
         ·
          show Act.put _ (some 37) _ = _
          simp only [Act.put, List.setIfInBounds_toArray, List.set_cons_zero, List.set_cons_succ, i64_w, i32_w]
          rfl
         refine pure_ (i := 8) (N := some 38) (v := ?_) (a' := ?_) #[true, true, true, true, true, true, true, true, true, false] rfl rfl (any_of HT_.out (by kernel_rfl)) (fun _ _ _ h => h) (Or.inl ⟨by rfl, ?_⟩) ?_ ?_
         rotate_left
         ·
          intro w'
          go_simp
          with_reducible rfl
         rotate_left
         ·
          simp only [Act.put, List.setIfInBounds_toArray, List.set_cons_zero, List.set_cons_succ, i64_w, i32_w]
          rfl
         refine last_ (i := 9) (N := none) #[true, true, true, true, true, true, true, true, true, true] rfl rfl (one_of HT_.out (by kernel_rfl)) (by decide) (fun K hK => ?_)
         have hs24 : w21.cell? ⟨gb538, 0, none⟩ = some (u539000) := (blk_cell BK538.out 0).trans rfl
         have hfs24 := blk_frozen BK538.out 0
         have hns24_0 := NB536_538.out
         have hns24_1 := NB537_538.out
         have hms24_0 := NB538_536.out
         have hms24_1 := NB538_537.out
         refine skip_ (w1 := ?_) (by rfl) rfl ?_ ?_
         rotate_left
         ·
          go_simp
          rfl
         refine hK.out _ _ ?_
         clear hK K
         refine done_ (done_of HT_.out (by kernel_rfl)) ?_
         try go_wp2
         go_roundg k1
         case measure => have := HK1.out; omega
         case rel => exact ⟨(wrap64 (x17_1 + 1)), (y544), (.slice Ao23 y544.length co23), (by first | rfl | (simp; done) | (simp [*]; done)), H', ⟨by have := HK1.out; omega⟩, ⟨by (with_reducible repeat (first | apply Kd.S_alloc | apply Kd.S_drewN | apply Kd.S_drew)); exact Kd.S_mono (Kd.S_far (p := ⟨gb538, 0, none⟩) (Kd.S_types HO546.out BK538.out (by decide)) (fun _ hk => hk.2) (.slice Ao23 y544.length co23)) (fun _ hk => trivial)⟩, ⟨by (with_reducible repeat (first | refine blk_drewN ?_ _ | refine blk_drew ?_ | refine blk_alloc ?_ _)); refine blk_far ?_ NB536_538.out _; (with_reducible repeat (first | refine blk_drewN ?_ _ | refine blk_drew ?_ | refine blk_alloc ?_ _)); exact BK536.out⟩, ⟨by (with_reducible repeat (first | refine blk_drewN ?_ _ | refine blk_drew ?_ | refine blk_alloc ?_ _)); refine blk_far ?_ NB537_538.out _; (with_reducible repeat (first | refine blk_drewN ?_ _ | refine blk_drew ?_ | refine blk_alloc ?_ _)); exact BK537.out⟩, ⟨by (with_reducible repeat (first | refine blk_drewN ?_ _ | refine blk_drew ?_ | refine blk_alloc ?_ _)); refine blk_put (cs := #[u539000, .slice none 0 0]) ?_ 0 _ rfl; (with_reducible repeat (first | refine blk_drewN ?_ _ | refine blk_drew ?_ | refine blk_alloc ?_ _)); exact BK538.out⟩, ⟨by repeat (first | (with_reducible first | exact HB.out | apply below_alloc | apply pw_below_drewN | apply below_drew1 | refine below_set ?_ GE536.out | refine below_set ?_ GE537.out | refine below_set ?_ GE538.out) | exact HB.out)⟩⟩
        ·
         rw [if_neg c17] at H
         exact absurd H (by simp)
       ·
        rw [if_neg c15] at H
        exact absurd H (by simp)
      ·
       rw [if_neg c13] at H
       have c13b0 : decide (x17_1 < (l2.length : Int)) = false := decide_eq_false c13
       clear c13
       replace H := Option.bind_eq_some_iff.mp H
       obtain ⟨t547, A250, H⟩ := H
       replace H : (if x539000_1.length < 5864062014805 then (pianolalaw04_course.l0 k1 a1 l2 l0_0 (l0_0.length : Int) (wrap64 (x17_1 + 1)) l0_0 l0_1 (x539000_1 ++ [t547])) else (none)) = some (r1, r2) := H
       have A25 := Aside0.mk A250
       clear A250
       by_cases c26 : x539000_1.length < 5864062014805
       ·
        rw [if_pos c26] at H
        have LMc26 := Aside0.mk c26
        clear c26
        obtain ⟨y550, hy550⟩ : ∃ y_ : List (List Int), y_ = (x539000_1 ++ [t547]) := ⟨_, rfl⟩
        replace H : (pianolalaw04_course.l0 k1 a1 l2 l0_0 (l0_0.length : Int) (wrap64 (x17_1 + 1)) l0_0 l0_1 y550) = some (r1, r2) := by first | (rw [hy550]; with_reducible exact H) | (have H2_ := (Option.bind_some _ _).symm.trans H; rw [hy550]; with_reducible exact H2_) | (have H2_ := (Option.bind_some _ _).symm.trans H; with_reducible exact H2_) | with_reducible exact H | (rw [hy550]; exact H) | exact H
        have Ny550 := Aside0.mk hy550
        clear hy550
        have H' := Aside0.mk H
        clear H
        have p539 : 0 ≤ (x17_1 : Int) := of_decide_eq_true (zqD)
        have q539 : x17_1 < (l0_0.length : Int) := of_decide_eq_true (zqD)
        obtain ⟨ad539, A539_0, c539_0, e539, hx539_0, hl539_0, hi539_0⟩ := at_L4 HR0_0.out x17_1 p539 q539
        cases e539
        replace hx539_0 := (HB.out.cell (World.block_lt_of_cell? w _ hx539_0)).trans hx539_0
        have HR539_0 := Aside0.mk hi539_0
        have HC539_0 := Aside0.mk hl539_0
        clear hi539_0 hl539_0
        replace p539 := eq_true p539
        replace q539 := eq_true q539
        try go_wp2
        have n0_ := Aside0.mk (Kd.S_drew HO_539000.out)
        have n1_ := Aside0.mk (blk_drew BK536.out)
        have n2_ := Aside0.mk (blk_drew BK537.out)
        have n3_ := Aside0.mk (blk_drew BK538.out)
        have n4_ := Aside0.mk (below_drew1 HB.out)
        clear HO_539000
        clear BK536
        clear BK537
        clear BK538
        clear HB
        have HO_539000 := n0_
        have BK536 := n1_
        have BK537 := n2_
        have BK538 := n3_
        have HB := n4_
        clear n0_ n1_ n2_ n3_ n4_
        refine start_ (n := 10) (S := fun w' => w'.cell? ⟨gb538, 0, none⟩ = some (u539000) ∧ w'.cell? ⟨gb538, 1, none⟩ = some (.slice none 0 0)) (ds := [9]) #[false, false, false, false, false, false, false, false, false, false] (by kernel_rfl) rfl rfl ⟨(blk_cell BK538.out 0).trans rfl, (blk_cell BK538.out 1).trans rfl⟩ (fun hHeld => ?_); refine with_tabW pianolalaw04_course.tab8 pianolalaw04_course.bits8 (fun HT_ HW_ => ?_)
        generalize wr.drew = w27 at HO_539000 BK536 BK537 BK538 HB hHeld ⊢
        refine pure_ (i := 0) (N := some 30) (v := ?_) (a' := ?_) #[true, false, false, false, false, false, false, false, false, false] rfl rfl (any_of HT_.out (by kernel_rfl)) (fun _ _ _ h => h) (Or.inl ⟨by rfl, ?_⟩) ?_ ?_
        rotate_left
        ·
         intro w'
         go_simp
         with_reducible rfl
        rotate_left
        ·
         simp only [Act.put, List.setIfInBounds_toArray, List.set_cons_zero, List.set_cons_succ, i64_w, i32_w]
         rfl
        refine pure_ (i := 2) (N := some 32) (v := ?_) (a' := ?_) #[true, false, true, false, false, false, false, false, false, false] rfl rfl (any_of HT_.out (by kernel_rfl)) (fun _ _ _ h => h) (Or.inl ⟨by rfl, ?_⟩) ?_ ?_
        rotate_left
        ·
         intro w'
         go_simp
         with_reducible rfl
        rotate_left
        ·
         simp only [Act.put, List.setIfInBounds_toArray, List.set_cons_zero, List.set_cons_succ, i64_w, i32_w]
         rfl
        refine pure_ (i := 3) (N := some 33) (v := ?_) (a' := ?_) #[true, false, true, true, false, false, false, false, false, false] rfl rfl (any_of HT_.out (by kernel_rfl)) (fun _ _ _ h => h) (Or.inl ⟨by rfl, ?_⟩) ?_ ?_
        rotate_left
        ·
         intro w'
         go_simp
         with_reducible rfl
        rotate_left
        ·
         simp only [Act.put, List.setIfInBounds_toArray, List.set_cons_zero, List.set_cons_succ, i64_w, i32_w]
         rfl
        refine pure_ (i := 4) (N := some 34) (v := ?_) (a' := ?_) #[true, false, true, true, true, false, false, false, false, false] rfl rfl (any_of HT_.out (by kernel_rfl)) (fun _ _ _ h => h) (Or.inl ⟨by rfl, ?_⟩) ?_ ?_
        rotate_left
        ·
         intro w'
         go_simp
         with_reducible rfl
        rotate_left
        ·
         simp only [Act.put, List.setIfInBounds_toArray, List.set_cons_zero, List.set_cons_succ, i64_w, i32_w]
         rfl
        refine take_ (i := 1) (N := some 31) (v := ?_) (a' := ?_) #[true, true, true, true, true, false, false, false, false, false] rfl rfl (take_ofW HT_.out HW_.out (by kernel_rfl)) (fun _ _ _ h => h) (Or.inl ⟨by rfl, ?_⟩) hHeld ?_ ?_
        rotate_left
        ·
         rintro w' ⟨s0, s1⟩
         go_simp
         with_reducible rfl
        rotate_left
        ·
         simp only [Act.put, List.setIfInBounds_toArray, List.set_cons_zero, List.set_cons_succ, i64_w, i32_w]
         rfl
        refine one_ (i := 5) (N := some 35) #[true, true, true, true, true, true, false, false, false, false] rfl rfl (one_of HT_.out (by kernel_rfl)) (by decide) (fun K hK => ?_)
        refine goes_ Try.func41 (by kernel_rfl) rfl #[.slice A539_0 (rd_L4 l0_0 x17_1).length c539_0, .int .i64 a1, .slice A2 l2.length c2] (by rfl) rfl rfl (by (try simp only [List.map_toArray, List.map_cons, List.map_nil]); first | done | rfl | (simp only [List.length_drop, List.length_take]; rfl)) ?_
        with_reducible refine (pianolalaw04_demand.calls k1 _ _ (rd_L4 l0_0 x17_1) a1 _ _ l2 t547 _ ?side1 ?side2 ?side3 ?side4 A25.out).mono ?_
        (case side1 => repeat (first | exact (Kd.C_below HR539_0.out HB.out) | (with_reducible refine Kd.C_alloc ?_ _) | (with_reducible refine Kd.C_drewN ?_ _) | (with_reducible refine Kd.C_drew ?_)))
        (case side2 => exact HC539_0.out)
        (case side3 => repeat (first | exact (Kd.C_below HR2.out HB.out) | (with_reducible refine Kd.C_alloc ?_ _) | (with_reducible refine Kd.C_drewN ?_ _) | (with_reducible refine Kd.C_drew ?_)))
        (case side4 => exact HC2.out)
        rintro e w28 ⟨v548, rfl, ho0, hb⟩
        refine ⟨_, rfl, ?_⟩
        have n0_ := Aside0.mk (Kd.S_elder' (by (with_reducible repeat (first | apply Kd.S_alloc | apply Kd.S_drewN | apply Kd.S_drew)); exact HO_539000.out) (Kd.R_base ho0) hb)
        have n1_ := Aside0.mk (Kd.R_lower ho0 (below_size (by repeat (first | (with_reducible first | exact HB.out | apply below_alloc | apply pw_below_drewN | apply below_drew1 | refine below_set ?_ GE536.out | refine below_set ?_ GE537.out | refine below_set ?_ GE538.out) | exact HB.out))))
        have n2_ := Aside0.mk (blk_below (g := gb536) (o := .cells #[.slice (some ad539) l0_0.length c0_0, .slice A0_1 l0_1.length c0_1] 40 (0, 0)) (zqB BK536.out) hb)
        have n3_ := Aside0.mk (blk_below (g := gb537) (o := .cells #[.slice none 0 0, .slice none 0 0] 56 (0, 0)) (zqB BK537.out) hb)
        have n4_ := Aside0.mk (blk_below (g := gb538) (o := .cells #[u539000, .slice none 0 0] 56 (0, 0)) (zqB BK538.out) hb)
        have n5_ := Aside0.mk (below_step (by repeat (first | (with_reducible first | exact HB.out | apply below_alloc | apply pw_below_drewN | apply below_drew1 | refine below_set ?_ GE536.out | refine below_set ?_ GE537.out | refine below_set ?_ GE538.out) | exact HB.out)) hb)
        clear HO_539000
        clear BK536
        clear BK537
        clear BK538
        clear HB
        have HO_539000 := n0_
        have HO549 := n1_
        have BK536 := n2_
        have BK537 := n3_
        have BK538 := n4_
        have HB := n5_
        clear n0_ n1_ n2_ n3_ n4_ n5_
        (try clear hb)
        (try clear hb2)
        (try clear hk)
        (try clear hi)
        (try clear ho0)
        obtain ⟨Ao30, co30, eo30⟩ := Kd.R_slice HO549.out
        (first | subst eo30 | (injection eo30 with f1_ f2_ f3_; have f4_ := f1_.symm; have f5_ := f3_.symm; clear f1_ f2_ f3_; subst f4_; subst f5_))
        refine hK.out _ _ ⟨(blk_cell BK538.out 0).trans rfl, (blk_cell BK538.out 1).trans rfl⟩ (fun hHeld => ?_)
        clear hK K
        refine norm_ (a' := ?_) ?_ ?_
        rotate_left
        ·
         show Act.put _ (some 35) _ = _
         simp only [Act.put, List.setIfInBounds_toArray, List.set_cons_zero, List.set_cons_succ, i64_w, i32_w]
         rfl
        refine one_ (i := 6) (N := some 36) #[true, true, true, true, true, true, true, false, false, false] rfl rfl (one_of HT_.out (by kernel_rfl)) (by decide) (fun K hK => ?_)
        refine value_ (w1 := ?_) (v := ?_) (by rfl) rfl ?_ ?_
        rotate_left 2
        ·
         go_simp
         constructor
         ·
          rfl
         ·
          rfl
        refine hK.out _ _ ⟨(blk_cell (blk_alloc BK538.out _) 0).trans rfl, (blk_cell (blk_alloc BK538.out _) 1).trans rfl⟩ (fun hHeld => ?_)
        clear hK K
        refine norm_ (a' := ?_) ?_ ?_
        rotate_left
        ·
         show Act.put _ (some 36) _ = _
         simp only [Act.put, List.setIfInBounds_toArray, List.set_cons_zero, List.set_cons_succ, i64_w, i32_w]
         rfl
        refine one_ (i := 7) (N := some 37) #[true, true, true, true, true, true, true, true, false, false] rfl rfl (one_of HT_.out (by kernel_rfl)) (by decide) (fun K hK => ?_)
        refine Kd.S_append_step (Kd.slice 3 (Kd.int .i64)) (w0 := w) w.heap.size (by rfl) (.tmp 31) (.tmp 36) 54 30 (.slice none 0 0) 24 rfl Try.underlying54 info30 rfl (by decide) (by omega) u539000 x539000_1 t547 [.slice Ao30 t547.length co30] (fun _ => True) (fun k_ => some k_ = (.slice Ao30 t547.length co30 : Value).ownBlock) rfl rfl ?aP (fun k_ hk_ => ((Kd.R_mono (ok' := fun k_ => ((fun _ => True)) k_ ∧ some k_ ≠ (u539000 : Value).ownBlock) (Kd.R_apart' (HO549.out) (Kd.S_typed HO_539000.out) (by decide)) (fun k_ hk => ⟨trivial, hk.2⟩))).1 k_ hk_.symm) ?aF ?aO ?aB ?aS ?aL ?_
        (case aP => exact Kd.M_row (Kd.R_mono (Kd.R_tight rfl (Kd.R_mono (ok' := fun k_ => ((fun _ => True)) k_ ∧ some k_ ≠ (u539000 : Value).ownBlock) (Kd.R_apart' (HO549.out) (Kd.S_typed HO_539000.out) (by decide)) (fun k_ hk => ⟨trivial, hk.2⟩))) (fun _ h_ => h_)))
        (case aB => exact (by repeat (first | (with_reducible first | exact HB.out | apply below_alloc | apply pw_below_drewN | apply below_drew1 | refine below_set ?_ GE536.out | refine below_set ?_ GE537.out | refine below_set ?_ GE538.out) | exact HB.out)))
        (case aF => exact (fun _ _ => trivial))
        (case aO => exact (by (with_reducible repeat (first | apply Kd.S_alloc | apply Kd.S_drewN | apply Kd.S_drew)); exact Kd.S_mono HO_539000.out (fun k_ hk => ⟨trivial, fun e_ => hk.2 e_⟩)))
        (case aS => exact (below_size (by repeat (first | (with_reducible first | exact HB.out | apply below_alloc | apply pw_below_drewN | apply below_drew1 | refine below_set ?_ GE536.out | refine below_set ?_ GE537.out | refine below_set ?_ GE538.out) | exact HB.out))))
        (case aL => have := LMc26.out; omega)
        intro v551 w29 ho hb hg hat
        rw [← Ny550.out] at ho
        have n0_ := Aside0.mk (blk_grown (g := gb536) (o := .cells #[.slice (some ad539) l0_0.length c0_0, .slice A0_1 l0_1.length c0_1] 40 (0, 0)) (zqB BK536.out) hg (Kd.S_ne HO_539000.out BK536.out (by decide)))
        have n1_ := Aside0.mk (blk_grown (g := gb537) (o := .cells #[.slice none 0 0, .slice none 0 0] 56 (0, 0)) (zqB BK537.out) hg (Kd.S_ne HO_539000.out BK537.out (by decide)))
        have n2_ := Aside0.mk (blk_grown (g := gb538) (o := .cells #[u539000, .slice none 0 0] 56 (0, 0)) (zqB BK538.out) hg (Kd.S_ne HO_539000.out BK538.out (by decide)))
        have n3_ := Aside0.mk (hb)
        have n4_ := Aside0.mk (ho)
        clear BK536
        clear BK537
        clear BK538
        clear HB
        clear HO_539000
        clear HO549
        have BK536 := n0_
        have BK537 := n1_
        have BK538 := n2_
        have HB := n3_
        have HO552 := n4_
        clear n0_ n1_ n2_ n3_ n4_
        clear ho hb hg hat
        obtain ⟨Ao31, co31, eo31⟩ := Kd.S_slice HO552.out
        (first | subst eo31 | (injection eo31 with f1_ f2_ f3_; have f4_ := f1_.symm; have f5_ := f3_.symm; clear f1_ f2_ f3_; subst f4_; subst f5_))
        refine hK.out _ _ ⟨(blk_cell BK538.out 0).trans rfl, (blk_cell BK538.out 1).trans rfl⟩ (fun hHeld => ?_)
        clear hK K
        refine norm_ (a' := ?_) ?_ ?_
        rotate_left
        ·
         show Act.put _ (some 37) _ = _
         simp only [Act.put, List.setIfInBounds_toArray, List.set_cons_zero, List.set_cons_succ, i64_w, i32_w]
         rfl
        refine pure_ (i := 8) (N := some 38) (v := ?_) (a' := ?_) #[true, true, true, true, true, true, true, true, true, false] rfl rfl (any_of HT_.out (by kernel_rfl)) (fun _ _ _ h => h) (Or.inl ⟨by rfl, ?_⟩) ?_ ?_
        rotate_left
        ·
         intro w'
         go_simp
         with_reducible rfl
        rotate_left
        ·
         simp only [Act.put, List.setIfInBounds_toArray, List.set_cons_zero, List.set_cons_succ, i64_w, i32_w]
         rfl
        refine last_ (i := 9) (N := none) #[true, true, true, true, true, true, true, true, true, true] rfl rfl (one_of HT_.out (by kernel_rfl)) (by decide) (fun K hK => ?_)
        have hs32 : w29.cell? ⟨gb538, 0, none⟩ = some (u539000) := (blk_cell BK538.out 0).trans rfl
        have hfs32 := blk_frozen BK538.out 0
        have hns32_0 := NB536_538.out
        have hns32_1 := NB537_538.out
        have hms32_0 := NB538_536.out
        have hms32_1 := NB538_537.out
        refine skip_ (w1 := ?_) (by rfl) rfl ?_ ?_
        rotate_left
        ·
         go_simp
         rfl
        refine hK.out _ _ ?_
        clear hK K
        refine done_ (done_of HT_.out (by kernel_rfl)) ?_
        try go_wp2
        go_roundg k1
        case measure => have := HK1.out; omega
        case rel => exact ⟨(wrap64 (x17_1 + 1)), (y550), (.slice Ao31 y550.length co31), (by first | rfl | (simp; done) | (simp [*]; done)), H', ⟨by have := HK1.out; omega⟩, ⟨by (with_reducible repeat (first | apply Kd.S_alloc | apply Kd.S_drewN | apply Kd.S_drew)); exact Kd.S_mono (Kd.S_far (p := ⟨gb538, 0, none⟩) (Kd.S_types HO552.out BK538.out (by decide)) (fun _ hk => hk.2) (.slice Ao31 y550.length co31)) (fun _ hk => trivial)⟩, ⟨by (with_reducible repeat (first | refine blk_drewN ?_ _ | refine blk_drew ?_ | refine blk_alloc ?_ _)); refine blk_far ?_ NB536_538.out _; (with_reducible repeat (first | refine blk_drewN ?_ _ | refine blk_drew ?_ | refine blk_alloc ?_ _)); exact BK536.out⟩, ⟨by (with_reducible repeat (first | refine blk_drewN ?_ _ | refine blk_drew ?_ | refine blk_alloc ?_ _)); refine blk_far ?_ NB537_538.out _; (with_reducible repeat (first | refine blk_drewN ?_ _ | refine blk_drew ?_ | refine blk_alloc ?_ _)); exact BK537.out⟩, ⟨by (with_reducible repeat (first | refine blk_drewN ?_ _ | refine blk_drew ?_ | refine blk_alloc ?_ _)); refine blk_put (cs := #[u539000, .slice none 0 0]) ?_ 0 _ rfl; (with_reducible repeat (first | refine blk_drewN ?_ _ | refine blk_drew ?_ | refine blk_alloc ?_ _)); exact BK538.out⟩, ⟨by repeat (first | (with_reducible first | exact HB.out | apply below_alloc | apply pw_below_drewN | apply below_drew1 | refine below_set ?_ GE536.out | refine below_set ?_ GE537.out | refine below_set ?_ GE538.out) | exact HB.out)⟩⟩
       ·
        rw [if_neg c26] at H
        exact absurd H (by simp)
     ·
      rw [if_neg c12] at H
      exact absurd H (by simp)
    ·
     rw [if_neg c11] at H
     exact absurd H (by simp)
   ·
    rw [if_neg c10] at H
    have c10b0 : decide (x17_1 < (l0_0.length : Int)) = false := decide_eq_false c10
    clear c10
    have H' := Aside0.mk H
    clear H
    have hnb33 := NB536_537.out
    have hnc33 := NB537_536.out
    have hnb34 := NB536_538.out
    have hnc34 := NB538_536.out
    have hcz35_0 : wr.cell? ⟨gb536, 0, none⟩ = some (.slice A0_0 l0_0.length c0_0) := (blk_cell BK536.out 0).trans rfl
    have hcz35_1 : wr.cell? ⟨gb536, 1, none⟩ = some (.slice A0_1 l0_1.length c0_1) := (blk_cell BK536.out 1).trans rfl
    have hfz35_0 := blk_frozen BK536.out 0
    have hfz35_1 := blk_frozen BK536.out 1
    go_wp2
    go_loopg [43] k1 (fun kq v43 w' => ∃ (x43_2 : Int) (x539001_2 : List (List Int)) (u539001 : Value), v43 = .int .i64 x43_2 ∧ Aside0 (pianolalaw04_course.l1 kq a1 l2 l0_1 (l0_1.length : Int) x43_2 x539000_1 x539001_2 = some (r1, r2)) ∧ Aside0 (kq ≤ k1) ∧ Aside0 (Kd.S (Kd.slice 3 (Kd.int .i64)) 30 w' w.heap.size (fun k_ => some k_ ≠ (u539001 : Value).ownBlock) u539000 x539000_1) ∧ Aside0 (Kd.S (Kd.slice 3 (Kd.int .i64)) 30 w' w.heap.size (fun k_ => some k_ ≠ (u539000 : Value).ownBlock) u539001 x539001_2) ∧ Aside0 (w'.heap[gb536]? = some (.cells #[(.slice A0_0 l0_0.length c0_0), (.slice A0_1 l0_1.length c0_1)] 40 (0, 0))) ∧ Aside0 (w'.heap[gb537]? = some (.cells #[(.slice none 0 0), (.slice none 0 0)] 56 (0, 0))) ∧ Aside0 (w'.heap[gb538]? = some (.cells #[u539000, u539001] 56 (0, 0))) ∧ Aside0 (Below w.heap.size w w'))
    case atStart => exact ⟨(0), (([] : List (List Int))), (.slice none 0 0), (by first | rfl | (simp; done) | (simp [*]; done)), H', ⟨Nat.le_refl _⟩, ⟨by (with_reducible repeat (first | apply Kd.S_alloc | apply Kd.S_drewN | apply Kd.S_drew)); exact Kd.S_mono HO_539000.out (fun _ hk => (by simp [Value.ownBlock]))⟩, ⟨by first | exact Kd.S_nil _ _ _ _ _ | exact Kd.N_nil _ _ _ _ _ | exact Kd.V_nil _ _ _ _ _ | exact Kd.Q_nil _ _ _ _ _ | exact Kd.R_nil _ _ _ _ _⟩, ⟨zqB BK536.out⟩, ⟨zqB BK537.out⟩, ⟨zqB BK538.out⟩, ⟨by repeat (first | (with_reducible first | exact HB.out | apply below_alloc | apply pw_below_drewN | apply below_drew1 | refine below_set ?_ GE536.out | refine below_set ?_ GE537.out | refine below_set ?_ GE538.out) | exact HB.out)⟩⟩
    case round =>
     clear H'
     try clear c1
     try clear c2
     try clear p2
     try clear c3
     try clear c4
     try clear c5
     try clear p5
     try clear q5
     try clear hx5
     try clear p6
     try clear c7
     try clear c8
     try clear c10
     try clear c10b0
     try clear c11
     try clear c11b0
     try clear c12
     try clear c12b0
     try clear c13
     try clear c13b0
     try clear c14
     try clear c14b0
     try clear c15
     try clear c15b0
     try clear c15b1
     try clear c17
     try clear c26
     try clear c33
     try clear c34
     try clear hcz35_0
     try clear hcz35_1
     try clear hcz9_0
     try clear hcz9_1
     try clear hfz35_0
     try clear hfz35_1
     try clear hfz9_0
     try clear hfz9_1
     try clear hx539_0
     try clear p2
     try clear p539
     try clear q539
     obtain ⟨x43_2, x539001_2, u539001, rfl, HA, HK2, HO_539000, HO_539001, BK536, BK537, BK538, HB⟩ := hrel
     cases gk with
     | zero => exact absurd HA.out (by simp [pianolalaw04_course.l1])
     | succ k2 =>
      have H := HA.out
      clear HA
      simp only [pianolalaw04_course.l1] at H
      by_cases c36 : x43_2 < (l0_1.length : Int)
      ·
       rw [if_pos c36] at H
       have c36b0 : decide (x43_2 < (l0_1.length : Int)) = true := decide_eq_true c36
       clear c36
       by_cases c37 : 0 ≤ x43_2
       ·
        rw [if_pos c37] at H
        have c37b0 : decide (0 ≤ x43_2) = true := decide_eq_true c37
        clear c37
        by_cases c38 : x43_2 < (l0_1.length : Int)
        ·
         rw [if_pos c38] at H
         have c38b0 : decide (x43_2 < (l0_1.length : Int)) = true := decide_eq_true c38
         clear c38
         by_cases c39 : (l2.length : Int) > (wrap64 ((wrap64 (2 * x43_2)) + 1))
         ·
          rw [if_pos c39] at H
          have c39b0 : decide ((wrap64 ((wrap64 (2 * x43_2)) + 1)) < (l2.length : Int)) = true := decide_eq_true c39
          clear c39
          obtain ⟨ji40, hji40⟩ : ∃ j_ : Int, (wrap64 ((wrap64 (2 * x43_2)) + 1)) = j_ := ⟨_, rfl⟩
          replace H : (if 0 ≤ (ji40) then (if (ji40) ≤ (l2.length : Int) then ((pianolalaw04_capacity.f k2 (rd_L4 l0_1 x43_2) a1 (l2.drop ((ji40) : Int).toNat)).bind fun t555 => (if x539001_2.length < 5864062014805 then (pianolalaw04_course.l1 k2 a1 l2 l0_1 (l0_1.length : Int) (wrap64 (x43_2 + 1)) x539000_1 (x539001_2 ++ [t555])) else (none))) else (none)) else (none)) = some (r1, r2) := by first | (rw [hji40] at H; exact H) | (simp only [hji40] at H ⊢; exact H)
          (try rw [hji40] at c39b0)
          have hji40w : (IntKind.i64.wrap ((wrap64 (2 * x43_2)) + 1)) = ji40 := (i64_w _).trans hji40
          by_cases c41 : 0 ≤ (ji40)
          ·
           rw [if_pos c41] at H
           have c41b0 := eq_true c41
           have c41b1 : decide (0 ≤ (ji40)) = true := decide_eq_true c41
           clear c41
           by_cases c42 : (ji40) ≤ (l2.length : Int)
           ·
            rw [if_pos c42] at H
            have c42b0 := eq_true c42
            have c42b1 : decide ((ji40) ≤ (l2.length : Int)) = true := decide_eq_true c42
            clear c42
            replace H := Option.bind_eq_some_iff.mp H
            obtain ⟨t555, A430, H⟩ := H
            replace H : (if x539001_2.length < 5864062014805 then (pianolalaw04_course.l1 k2 a1 l2 l0_1 (l0_1.length : Int) (wrap64 (x43_2 + 1)) x539000_1 (x539001_2 ++ [t555])) else (none)) = some (r1, r2) := H
            have A43 := Aside0.mk A430
            clear A430
            by_cases c44 : x539001_2.length < 5864062014805
            ·
             rw [if_pos c44] at H
             have LMc44 := Aside0.mk c44
             clear c44
             obtain ⟨y558, hy558⟩ : ∃ y_ : List (List Int), y_ = (x539001_2 ++ [t555]) := ⟨_, rfl⟩
             replace H : (pianolalaw04_course.l1 k2 a1 l2 l0_1 (l0_1.length : Int) (wrap64 (x43_2 + 1)) x539000_1 y558) = some (r1, r2) := by first | (rw [hy558]; with_reducible exact H) | (have H2_ := (Option.bind_some _ _).symm.trans H; rw [hy558]; with_reducible exact H2_) | (have H2_ := (Option.bind_some _ _).symm.trans H; with_reducible exact H2_) | with_reducible exact H | (rw [hy558]; exact H) | exact H
             have Ny558 := Aside0.mk hy558
             clear hy558
             have H' := Aside0.mk H
             clear H
             have p553 : 0 ≤ (x43_2 : Int) := of_decide_eq_true (zqD)
             have q553 : x43_2 < (l0_1.length : Int) := of_decide_eq_true (zqD)
             obtain ⟨ad553, A553_0, c553_0, e553, hx553_0, hl553_0, hi553_0⟩ := at_L4 HR0_1.out x43_2 p553 q553
             cases e553
             replace hx553_0 := (HB.out.cell (World.block_lt_of_cell? w _ hx553_0)).trans hx553_0
             have HR553_0 := Aside0.mk hi553_0
             have HC553_0 := Aside0.mk hl553_0
             clear hi553_0 hl553_0
             replace p553 := eq_true p553
             replace q553 := eq_true q553
             obtain ⟨i045, hi045, _, hsz45, _⟩ := info_parts info5
             obtain ⟨A45, hcut45, hA45, hC45⟩ := print_drop_of (P := Try.prog) (Value.int .u8) 0 67 5 .i64 Try.underlying67 hi045 hsz45 A2 c2 l2 (ji40) (of_decide_eq_true (zqD)) (of_decide_eq_true (zqD)) HC2.out
             have HR554 := Aside0.mk (Kd.C_of_reads (h1 := fun _ => rfl) (hA45 _ (Kd.reads_of_C HR2.out)))
             have HC554 := Aside0.mk hC45
             clear hA45 hC45 hi045 hsz45
             try go_wp2
             have n0_ := Aside0.mk (Kd.S_drew HO_539000.out)
             have n1_ := Aside0.mk (Kd.S_drew HO_539001.out)
             have n2_ := Aside0.mk (blk_drew BK536.out)
             have n3_ := Aside0.mk (blk_drew BK537.out)
             have n4_ := Aside0.mk (blk_drew BK538.out)
             have n5_ := Aside0.mk (below_drew1 HB.out)
             clear HO_539000
             clear HO_539001
             clear BK536
             clear BK537
             clear BK538
             clear HB
             have HO_539000 := n0_
             have HO_539001 := n1_
             have BK536 := n2_
             have BK537 := n3_
             have BK538 := n4_
             have HB := n5_
             clear n0_ n1_ n2_ n3_ n4_ n5_
             refine start_ (n := 10) (S := fun w' => w'.cell? ⟨gb538, 0, none⟩ = some (u539000) ∧ w'.cell? ⟨gb538, 1, none⟩ = some (u539001)) (ds := [9]) #[false, false, false, false, false, false, false, false, false, false] (by kernel_rfl) rfl rfl ⟨(blk_cell BK538.out 0).trans rfl, (blk_cell BK538.out 1).trans rfl⟩ (fun hHeld => ?_); refine with_tabW pianolalaw04_course.tab16 pianolalaw04_course.bits16 (fun HT_ HW_ => ?_)
             generalize wr.drew = w46 at HO_539000 HO_539001 BK536 BK537 BK538 HB hHeld ⊢
             refine pure_ (i := 0) (N := some 59) (v := ?_) (a' := ?_) #[true, false, false, false, false, false, false, false, false, false] rfl rfl (any_of HT_.out (by kernel_rfl)) (fun _ _ _ h => h) (Or.inl ⟨by rfl, ?_⟩) ?_ ?_
             rotate_left
             ·
              intro w'
              go_simp
              with_reducible rfl
             rotate_left
             ·
              simp only [Act.put, List.setIfInBounds_toArray, List.set_cons_zero, List.set_cons_succ, i64_w, i32_w]
              rfl
             refine pure_ (i := 2) (N := some 61) (v := ?_) (a' := ?_) #[true, false, true, false, false, false, false, false, false, false] rfl rfl (any_of HT_.out (by kernel_rfl)) (fun _ _ _ h => h) (Or.inl ⟨by rfl, ?_⟩) ?_ ?_
             rotate_left
             ·
              intro w'
              go_simp
              with_reducible rfl
             rotate_left
             ·
              simp only [Act.put, List.setIfInBounds_toArray, List.set_cons_zero, List.set_cons_succ, i64_w, i32_w]
              rfl
             refine pure_ (i := 3) (N := some 62) (v := ?_) (a' := ?_) #[true, false, true, true, false, false, false, false, false, false] rfl rfl (any_of HT_.out (by kernel_rfl)) (fun _ _ _ h => h) (Or.inl ⟨by rfl, ?_⟩) ?_ ?_
             rotate_left
             ·
              intro w'
              go_simp
              with_reducible rfl
             rotate_left
             ·
              simp only [Act.put, List.setIfInBounds_toArray, List.set_cons_zero, List.set_cons_succ, i64_w, i32_w]
              rfl
             refine pure_ (i := 4) (N := some 63) (v := ?_) (a' := ?_) #[true, false, true, true, true, false, false, false, false, false] rfl rfl (any_of HT_.out (by kernel_rfl)) (fun _ _ _ h => h) (Or.inl ⟨by rfl, ?_⟩) ?_ ?_
             rotate_left
             ·
              intro w'
              go_simp
              with_reducible rfl
             rotate_left
             ·
              simp only [Act.put, List.setIfInBounds_toArray, List.set_cons_zero, List.set_cons_succ, i64_w, i32_w]
              rfl
             refine take_ (i := 1) (N := some 60) (v := ?_) (a' := ?_) #[true, true, true, true, true, false, false, false, false, false] rfl rfl (take_ofW HT_.out HW_.out (by kernel_rfl)) (fun _ _ _ h => h) (Or.inl ⟨by rfl, ?_⟩) hHeld ?_ ?_
             rotate_left
             ·
              rintro w' ⟨s0, s1⟩
              go_simp
              with_reducible rfl
             rotate_left
             ·
              simp only [Act.put, List.setIfInBounds_toArray, List.set_cons_zero, List.set_cons_succ, i64_w, i32_w]
              rfl
             refine one_ (i := 5) (N := some 64) #[true, true, true, true, true, true, false, false, false, false] rfl rfl (one_of HT_.out (by kernel_rfl)) (by decide) (fun K hK => ?_)
             refine goes_ Try.func42 (by kernel_rfl) rfl #[.slice A553_0 (rd_L4 l0_1 x43_2).length c553_0, .int .i64 a1, .slice A45 (l2.drop ((ji40) : Int).toNat).length (c2 - (ji40).toNat)] (by rfl) rfl rfl (by (try simp only [List.map_toArray, List.map_cons, List.map_nil]); first | done | (rw [show (l2.drop ((ji40) : Int).toNat).length = (l2.length - (ji40).toNat) from List.length_drop] <;> rfl) | (simp only [hji40]; rfl) | rfl | (simp only [List.length_drop, List.length_take]; rfl)) ?_
             with_reducible refine (pianolalaw04_capacity.calls k2 _ _ (rd_L4 l0_1 x43_2) a1 _ _ (l2.drop ((ji40) : Int).toNat) t555 _ ?side1 ?side2 ?side3 ?side4 A43.out).mono ?_
             (case side1 => repeat (first | exact (Kd.C_below HR553_0.out HB.out) | (with_reducible refine Kd.C_alloc ?_ _) | (with_reducible refine Kd.C_drewN ?_ _) | (with_reducible refine Kd.C_drew ?_)))
             (case side2 => exact HC553_0.out)
             (case side3 => repeat (first | exact (Kd.C_below HR554.out HB.out) | (with_reducible refine Kd.C_alloc ?_ _) | (with_reducible refine Kd.C_drewN ?_ _) | (with_reducible refine Kd.C_drew ?_)))
             (case side4 => exact HC554.out)
             rintro e w47 ⟨v556, rfl, ho0, hb⟩
             refine ⟨_, rfl, ?_⟩
             have n0_ := Aside0.mk (Kd.S_elder' (by (with_reducible repeat (first | apply Kd.S_alloc | apply Kd.S_drewN | apply Kd.S_drew)); exact HO_539000.out) (Kd.R_base ho0) hb)
             have n1_ := Aside0.mk (Kd.S_elder' (by (with_reducible repeat (first | apply Kd.S_alloc | apply Kd.S_drewN | apply Kd.S_drew)); exact HO_539001.out) (Kd.R_base ho0) hb)
             have n2_ := Aside0.mk (Kd.R_lower ho0 (below_size (by repeat (first | (with_reducible first | exact HB.out | apply below_alloc | apply pw_below_drewN | apply below_drew1 | refine below_set ?_ GE536.out | refine below_set ?_ GE537.out | refine below_set ?_ GE538.out) | exact HB.out))))
             have n3_ := Aside0.mk (blk_below (g := gb536) (o := .cells #[.slice A0_0 l0_0.length c0_0, .slice (some ad553) l0_1.length c0_1] 40 (0, 0)) (zqB BK536.out) hb)
             have n4_ := Aside0.mk (blk_below (g := gb537) (o := .cells #[.slice none 0 0, .slice none 0 0] 56 (0, 0)) (zqB BK537.out) hb)
             have n5_ := Aside0.mk (blk_below (g := gb538) (o := .cells #[u539000, u539001] 56 (0, 0)) (zqB BK538.out) hb)
             have n6_ := Aside0.mk (below_step (by repeat (first | (with_reducible first | exact HB.out | apply below_alloc | apply pw_below_drewN | apply below_drew1 | refine below_set ?_ GE536.out | refine below_set ?_ GE537.out | refine below_set ?_ GE538.out) | exact HB.out)) hb)
             clear HO_539000
             clear HO_539001
             clear BK536
             clear BK537
             clear BK538
             clear HB
             have HO_539000 := n0_
             have HO_539001 := n1_
             have HO557 := n2_
             have BK536 := n3_
             have BK537 := n4_
             have BK538 := n5_
             have HB := n6_
             clear n0_ n1_ n2_ n3_ n4_ n5_ n6_
             (try clear hb)
             (try clear hb2)
             (try clear hk)
             (try clear hi)
             (try clear ho0)
             obtain ⟨Ao49, co49, eo49⟩ := Kd.R_slice HO557.out
             (first | subst eo49 | (injection eo49 with f1_ f2_ f3_; have f4_ := f1_.symm; have f5_ := f3_.symm; clear f1_ f2_ f3_; subst f4_; subst f5_))
             refine hK.out _ _ ⟨(blk_cell BK538.out 0).trans rfl, (blk_cell BK538.out 1).trans rfl⟩ (fun hHeld => ?_)
             clear hK K
             refine norm_ (a' := ?_) ?_ ?_
             rotate_left
             ·
              show Act.put _ (some 64) _ = _
              simp only [Act.put, List.setIfInBounds_toArray, List.set_cons_zero, List.set_cons_succ, i64_w, i32_w]
              rfl
             refine one_ (i := 6) (N := some 65) #[true, true, true, true, true, true, true, false, false, false] rfl rfl (one_of HT_.out (by kernel_rfl)) (by decide) (fun K hK => ?_)
             refine value_ (w1 := ?_) (v := ?_) (by rfl) rfl ?_ ?_
             rotate_left 2
             ·
              go_simp
              constructor
              ·
               rfl
              ·
               rfl
             refine hK.out _ _ ⟨(blk_cell (blk_alloc BK538.out _) 0).trans rfl, (blk_cell (blk_alloc BK538.out _) 1).trans rfl⟩ (fun hHeld => ?_)
             clear hK K
             refine norm_ (a' := ?_) ?_ ?_
             rotate_left
             ·
              show Act.put _ (some 65) _ = _
              simp only [Act.put, List.setIfInBounds_toArray, List.set_cons_zero, List.set_cons_succ, i64_w, i32_w]
              rfl
             refine one_ (i := 7) (N := some 66) #[true, true, true, true, true, true, true, true, false, false] rfl rfl (one_of HT_.out (by kernel_rfl)) (by decide) (fun K hK => ?_)
             refine Kd.S_append_step (Kd.slice 3 (Kd.int .i64)) (w0 := w) w.heap.size (by rfl) (.tmp 60) (.tmp 65) 54 30 (.slice none 0 0) 24 rfl Try.underlying54 info30 rfl (by decide) (by omega) u539001 x539001_2 t555 [.slice Ao49 t555.length co49] (fun k_ => some k_ ≠ (u539000 : Value).ownBlock) (fun k_ => some k_ = (.slice Ao49 t555.length co49 : Value).ownBlock) rfl rfl ?aP (fun k_ hk_ => ((Kd.R_mono (ok' := fun k_ => ((fun k_ => some k_ ≠ (u539000 : Value).ownBlock)) k_ ∧ some k_ ≠ (u539001 : Value).ownBlock) (Kd.R_apart' (Kd.R_apart' (HO557.out) (Kd.S_typed HO_539000.out) (by decide)) (Kd.S_typed HO_539001.out) (by decide)) (fun k_ hk => ⟨hk.1.2, hk.2⟩))).1 k_ hk_.symm) ?aF ?aO ?aB ?aS ?aL ?_
             (case aP => exact Kd.M_row (Kd.R_mono (Kd.R_tight rfl (Kd.R_mono (ok' := fun k_ => ((fun k_ => some k_ ≠ (u539000 : Value).ownBlock)) k_ ∧ some k_ ≠ (u539001 : Value).ownBlock) (Kd.R_apart' (Kd.R_apart' (HO557.out) (Kd.S_typed HO_539000.out) (by decide)) (Kd.S_typed HO_539001.out) (by decide)) (fun k_ hk => ⟨hk.1.2, hk.2⟩))) (fun _ h_ => h_)))
             (case aB => exact (by repeat (first | (with_reducible first | exact HB.out | apply below_alloc | apply pw_below_drewN | apply below_drew1 | refine below_set ?_ GE536.out | refine below_set ?_ GE537.out | refine below_set ?_ GE538.out) | exact HB.out)))
             (case aF => exact (fun k_ hk => Kd.fresh' (Kd.S_lt (by (with_reducible repeat (first | apply Kd.S_alloc | apply Kd.S_drewN | apply Kd.S_drew)); exact HO_539000.out)) k_ hk))
             (case aO => exact (by (with_reducible repeat (first | apply Kd.S_alloc | apply Kd.S_drewN | apply Kd.S_drew)); exact Kd.S_mono HO_539001.out (fun k_ hk => ⟨hk.1, fun e_ => hk.2 e_⟩)))
             (case aS => exact (below_size (by repeat (first | (with_reducible first | exact HB.out | apply below_alloc | apply pw_below_drewN | apply below_drew1 | refine below_set ?_ GE536.out | refine below_set ?_ GE537.out | refine below_set ?_ GE538.out) | exact HB.out))))
             (case aL => have := LMc44.out; omega)
             intro v559 w48 ho hb hg hat
             rw [← Ny558.out] at ho
             have n0_ := Aside0.mk (Kd.S_after (ok := (fun k_ => some k_ ≠ (.slice Ao49 t555.length co49 : Value).ownBlock)) (by (with_reducible repeat (first | apply Kd.S_alloc | apply Kd.S_drewN | apply Kd.S_drew)); exact Kd.S_mono HO_539000.out (fun _ hk => ⟨hk.2, hk.1⟩)) hg hat)
             have n1_ := Aside0.mk (blk_grown (g := gb536) (o := .cells #[.slice A0_0 l0_0.length c0_0, .slice (some ad553) l0_1.length c0_1] 40 (0, 0)) (zqB BK536.out) hg (Kd.S_ne HO_539001.out BK536.out (by decide)))
             have n2_ := Aside0.mk (blk_grown (g := gb537) (o := .cells #[.slice none 0 0, .slice none 0 0] 56 (0, 0)) (zqB BK537.out) hg (Kd.S_ne HO_539001.out BK537.out (by decide)))
             have n3_ := Aside0.mk (blk_grown (g := gb538) (o := .cells #[u539000, u539001] 56 (0, 0)) (zqB BK538.out) hg (Kd.S_ne HO_539001.out BK538.out (by decide)))
             have n4_ := Aside0.mk (hb)
             have n5_ := Aside0.mk (ho)
             clear HO_539000
             clear BK536
             clear BK537
             clear BK538
             clear HB
             clear HO_539001
             clear HO557
             have HO_539000 := n0_
             have BK536 := n1_
             have BK537 := n2_
             have BK538 := n3_
             have HB := n4_
             have HO560 := n5_
             clear n0_ n1_ n2_ n3_ n4_ n5_
             clear ho hb hg hat
             obtain ⟨Ao50, co50, eo50⟩ := Kd.S_slice HO560.out
             (first | subst eo50 | (injection eo50 with f1_ f2_ f3_; have f4_ := f1_.symm; have f5_ := f3_.symm; clear f1_ f2_ f3_; subst f4_; subst f5_))
             refine hK.out _ _ ⟨(blk_cell BK538.out 0).trans rfl, (blk_cell BK538.out 1).trans rfl⟩ (fun hHeld => ?_)
             clear hK K
             refine norm_ (a' := ?_) ?_ ?_
             rotate_left
             ·
              show Act.put _ (some 66) _ = _
              simp only [Act.put, List.setIfInBounds_toArray, List.set_cons_zero, List.set_cons_succ, i64_w, i32_w]
              rfl
             refine pure_ (i := 8) (N := some 67) (v := ?_) (a' := ?_) #[true, true, true, true, true, true, true, true, true, false] rfl rfl (any_of HT_.out (by kernel_rfl)) (fun _ _ _ h => h) (Or.inl ⟨by rfl, ?_⟩) ?_ ?_
             rotate_left
             ·
              intro w'
              go_simp
              with_reducible rfl
             rotate_left
             ·
              simp only [Act.put, List.setIfInBounds_toArray, List.set_cons_zero, List.set_cons_succ, i64_w, i32_w]
              rfl
             refine last_ (i := 9) (N := none) #[true, true, true, true, true, true, true, true, true, true] rfl rfl (one_of HT_.out (by kernel_rfl)) (by decide) (fun K hK => ?_)
             have hs51 : w48.cell? ⟨gb538, 1, none⟩ = some (u539001) := (blk_cell BK538.out 1).trans rfl
             have hfs51 := blk_frozen BK538.out 1
             have hns51_0 := NB536_538.out
             have hns51_1 := NB537_538.out
             have hms51_0 := NB538_536.out
             have hms51_1 := NB538_537.out
             refine skip_ (w1 := ?_) (by rfl) rfl ?_ ?_
             rotate_left
             ·
              go_simp
              rfl
             refine hK.out _ _ ?_
             clear hK K
             refine done_ (done_of HT_.out (by kernel_rfl)) ?_
             try go_wp2
             go_roundg k2
             case measure => have := HK1.out; have := HK2.out; omega
             case rel => exact ⟨(wrap64 (x43_2 + 1)), (y558), (.slice Ao50 y558.length co50), (by first | rfl | (simp; done) | (simp [*]; done)), H', ⟨by have := HK1.out; have := HK2.out; omega⟩, ⟨by (with_reducible repeat (first | apply Kd.S_alloc | apply Kd.S_drewN | apply Kd.S_drew)); exact Kd.S_mono (Kd.S_far (p := ⟨gb538, 1, none⟩) (Kd.S_types HO_539000.out BK538.out (by decide)) (fun _ hk => hk.2) (.slice Ao50 y558.length co50)) (fun _ hk => hk.1.2)⟩, ⟨by (with_reducible repeat (first | apply Kd.S_alloc | apply Kd.S_drewN | apply Kd.S_drew)); exact Kd.S_mono (Kd.S_far (p := ⟨gb538, 1, none⟩) (Kd.S_types HO560.out BK538.out (by decide)) (fun _ hk => hk.2) (.slice Ao50 y558.length co50)) (fun _ hk => hk.1)⟩, ⟨by (with_reducible repeat (first | refine blk_drewN ?_ _ | refine blk_drew ?_ | refine blk_alloc ?_ _)); refine blk_far ?_ NB536_538.out _; (with_reducible repeat (first | refine blk_drewN ?_ _ | refine blk_drew ?_ | refine blk_alloc ?_ _)); exact BK536.out⟩, ⟨by (with_reducible repeat (first | refine blk_drewN ?_ _ | refine blk_drew ?_ | refine blk_alloc ?_ _)); refine blk_far ?_ NB537_538.out _; (with_reducible repeat (first | refine blk_drewN ?_ _ | refine blk_drew ?_ | refine blk_alloc ?_ _)); exact BK537.out⟩, ⟨by (with_reducible repeat (first | refine blk_drewN ?_ _ | refine blk_drew ?_ | refine blk_alloc ?_ _)); refine blk_put (cs := #[u539000, u539001]) ?_ 1 _ rfl; (with_reducible repeat (first | refine blk_drewN ?_ _ | refine blk_drew ?_ | refine blk_alloc ?_ _)); exact BK538.out⟩, ⟨by repeat (first | (with_reducible first | exact HB.out | apply below_alloc | apply pw_below_drewN | apply below_drew1 | refine below_set ?_ GE536.out | refine below_set ?_ GE537.out | refine below_set ?_ GE538.out) | exact HB.out)⟩⟩
            ·
             rw [if_neg c44] at H
             exact absurd H (by simp)
           ·
            rw [if_neg c42] at H
            exact absurd H (by simp)
          ·
           rw [if_neg c41] at H
           exact absurd H (by simp)
         ·
          rw [if_neg c39] at H
          have c39b0 : decide ((wrap64 ((wrap64 (2 * x43_2)) + 1)) < (l2.length : Int)) = false := decide_eq_false c39
          clear c39
          replace H := Option.bind_eq_some_iff.mp H
          obtain ⟨t561, A520, H⟩ := H
          replace H : (if x539001_2.length < 5864062014805 then (pianolalaw04_course.l1 k2 a1 l2 l0_1 (l0_1.length : Int) (wrap64 (x43_2 + 1)) x539000_1 (x539001_2 ++ [t561])) else (none)) = some (r1, r2) := H
          have A52 := Aside0.mk A520
          clear A520
          by_cases c53 : x539001_2.length < 5864062014805
          ·
           rw [if_pos c53] at H
           have LMc53 := Aside0.mk c53
           clear c53
           obtain ⟨y564, hy564⟩ : ∃ y_ : List (List Int), y_ = (x539001_2 ++ [t561]) := ⟨_, rfl⟩
           replace H : (pianolalaw04_course.l1 k2 a1 l2 l0_1 (l0_1.length : Int) (wrap64 (x43_2 + 1)) x539000_1 y564) = some (r1, r2) := by first | (rw [hy564]; with_reducible exact H) | (have H2_ := (Option.bind_some _ _).symm.trans H; rw [hy564]; with_reducible exact H2_) | (have H2_ := (Option.bind_some _ _).symm.trans H; with_reducible exact H2_) | with_reducible exact H | (rw [hy564]; exact H) | exact H
           have Ny564 := Aside0.mk hy564
           clear hy564
           have H' := Aside0.mk H
           clear H
           have p553 : 0 ≤ (x43_2 : Int) := of_decide_eq_true (zqD)
           have q553 : x43_2 < (l0_1.length : Int) := of_decide_eq_true (zqD)
           obtain ⟨ad553, A553_0, c553_0, e553, hx553_0, hl553_0, hi553_0⟩ := at_L4 HR0_1.out x43_2 p553 q553
           cases e553
           replace hx553_0 := (HB.out.cell (World.block_lt_of_cell? w _ hx553_0)).trans hx553_0
           have HR553_0 := Aside0.mk hi553_0
           have HC553_0 := Aside0.mk hl553_0
           clear hi553_0 hl553_0
           replace p553 := eq_true p553
           replace q553 := eq_true q553
           try go_wp2
           have n0_ := Aside0.mk (Kd.S_drew HO_539000.out)
           have n1_ := Aside0.mk (Kd.S_drew HO_539001.out)
           have n2_ := Aside0.mk (blk_drew BK536.out)
           have n3_ := Aside0.mk (blk_drew BK537.out)
           have n4_ := Aside0.mk (blk_drew BK538.out)
           have n5_ := Aside0.mk (below_drew1 HB.out)
           clear HO_539000
           clear HO_539001
           clear BK536
           clear BK537
           clear BK538
           clear HB
           have HO_539000 := n0_
           have HO_539001 := n1_
           have BK536 := n2_
           have BK537 := n3_
           have BK538 := n4_
           have HB := n5_
           clear n0_ n1_ n2_ n3_ n4_ n5_
           refine start_ (n := 10) (S := fun w' => w'.cell? ⟨gb538, 0, none⟩ = some (u539000) ∧ w'.cell? ⟨gb538, 1, none⟩ = some (u539001)) (ds := [9]) #[false, false, false, false, false, false, false, false, false, false] (by kernel_rfl) rfl rfl ⟨(blk_cell BK538.out 0).trans rfl, (blk_cell BK538.out 1).trans rfl⟩ (fun hHeld => ?_); refine with_tabW pianolalaw04_course.tab16 pianolalaw04_course.bits16 (fun HT_ HW_ => ?_)
           generalize wr.drew = w54 at HO_539000 HO_539001 BK536 BK537 BK538 HB hHeld ⊢
           refine pure_ (i := 0) (N := some 59) (v := ?_) (a' := ?_) #[true, false, false, false, false, false, false, false, false, false] rfl rfl (any_of HT_.out (by kernel_rfl)) (fun _ _ _ h => h) (Or.inl ⟨by rfl, ?_⟩) ?_ ?_
           rotate_left
           ·
            intro w'
            go_simp
            with_reducible rfl
           rotate_left
           ·
            simp only [Act.put, List.setIfInBounds_toArray, List.set_cons_zero, List.set_cons_succ, i64_w, i32_w]
            rfl
           refine pure_ (i := 2) (N := some 61) (v := ?_) (a' := ?_) #[true, false, true, false, false, false, false, false, false, false] rfl rfl (any_of HT_.out (by kernel_rfl)) (fun _ _ _ h => h) (Or.inl ⟨by rfl, ?_⟩) ?_ ?_
           rotate_left
           ·
            intro w'
            go_simp
            with_reducible rfl
           rotate_left
           ·
            simp only [Act.put, List.setIfInBounds_toArray, List.set_cons_zero, List.set_cons_succ, i64_w, i32_w]
            rfl
           refine pure_ (i := 3) (N := some 62) (v := ?_) (a' := ?_) #[true, false, true, true, false, false, false, false, false, false] rfl rfl (any_of HT_.out (by kernel_rfl)) (fun _ _ _ h => h) (Or.inl ⟨by rfl, ?_⟩) ?_ ?_
           rotate_left
           ·
            intro w'
            go_simp
            with_reducible rfl
           rotate_left
           ·
            simp only [Act.put, List.setIfInBounds_toArray, List.set_cons_zero, List.set_cons_succ, i64_w, i32_w]
            rfl
           refine pure_ (i := 4) (N := some 63) (v := ?_) (a' := ?_) #[true, false, true, true, true, false, false, false, false, false] rfl rfl (any_of HT_.out (by kernel_rfl)) (fun _ _ _ h => h) (Or.inl ⟨by rfl, ?_⟩) ?_ ?_
           rotate_left
           ·
            intro w'
            go_simp
            with_reducible rfl
           rotate_left
           ·
            simp only [Act.put, List.setIfInBounds_toArray, List.set_cons_zero, List.set_cons_succ, i64_w, i32_w]
            rfl
           refine take_ (i := 1) (N := some 60) (v := ?_) (a' := ?_) #[true, true, true, true, true, false, false, false, false, false] rfl rfl (take_ofW HT_.out HW_.out (by kernel_rfl)) (fun _ _ _ h => h) (Or.inl ⟨by rfl, ?_⟩) hHeld ?_ ?_
           rotate_left
           ·
            rintro w' ⟨s0, s1⟩
            go_simp
            with_reducible rfl
           rotate_left
           ·
            simp only [Act.put, List.setIfInBounds_toArray, List.set_cons_zero, List.set_cons_succ, i64_w, i32_w]
            rfl
           refine one_ (i := 5) (N := some 64) #[true, true, true, true, true, true, false, false, false, false] rfl rfl (one_of HT_.out (by kernel_rfl)) (by decide) (fun K hK => ?_)
           refine goes_ Try.func42 (by kernel_rfl) rfl #[.slice A553_0 (rd_L4 l0_1 x43_2).length c553_0, .int .i64 a1, .slice none 0 0] (by rfl) rfl rfl (by (try simp only [List.map_toArray, List.map_cons, List.map_nil]); first | done | rfl | (simp only [List.length_drop, List.length_take]; rfl)) ?_
           refine (pianolalaw04_capacity.calls k2 _ _ (rd_L4 l0_1 x43_2) a1 _ _ ([] : List Int) t561 _ ?side1 ?side2 ?side3 ?side4 A52.out).mono ?_
           (case side1 => repeat (first | exact (Kd.C_below HR553_0.out HB.out) | (with_reducible refine Kd.C_alloc ?_ _) | (with_reducible refine Kd.C_drewN ?_ _) | (with_reducible refine Kd.C_drew ?_)))
           (case side2 => exact HC553_0.out)
           (case side3 => exact Kd.C_nil _ _)
           (case side4 => exact Nat.le_refl _)
           rintro e w55 ⟨v562, rfl, ho0, hb⟩
           refine ⟨_, rfl, ?_⟩
           have n0_ := Aside0.mk (Kd.S_elder' (by (with_reducible repeat (first | apply Kd.S_alloc | apply Kd.S_drewN | apply Kd.S_drew)); exact HO_539000.out) (Kd.R_base ho0) hb)
           have n1_ := Aside0.mk (Kd.S_elder' (by (with_reducible repeat (first | apply Kd.S_alloc | apply Kd.S_drewN | apply Kd.S_drew)); exact HO_539001.out) (Kd.R_base ho0) hb)
           have n2_ := Aside0.mk (Kd.R_lower ho0 (below_size (by repeat (first | (with_reducible first | exact HB.out | apply below_alloc | apply pw_below_drewN | apply below_drew1 | refine below_set ?_ GE536.out | refine below_set ?_ GE537.out | refine below_set ?_ GE538.out) | exact HB.out))))
           have n3_ := Aside0.mk (blk_below (g := gb536) (o := .cells #[.slice A0_0 l0_0.length c0_0, .slice (some ad553) l0_1.length c0_1] 40 (0, 0)) (zqB BK536.out) hb)
           have n4_ := Aside0.mk (blk_below (g := gb537) (o := .cells #[.slice none 0 0, .slice none 0 0] 56 (0, 0)) (zqB BK537.out) hb)
           have n5_ := Aside0.mk (blk_below (g := gb538) (o := .cells #[u539000, u539001] 56 (0, 0)) (zqB BK538.out) hb)
           have n6_ := Aside0.mk (below_step (by repeat (first | (with_reducible first | exact HB.out | apply below_alloc | apply pw_below_drewN | apply below_drew1 | refine below_set ?_ GE536.out | refine below_set ?_ GE537.out | refine below_set ?_ GE538.out) | exact HB.out)) hb)
           clear HO_539000
           clear HO_539001
           clear BK536
           clear BK537
           clear BK538
           clear HB
           have HO_539000 := n0_
           have HO_539001 := n1_
           have HO563 := n2_
           have BK536 := n3_
           have BK537 := n4_
           have BK538 := n5_
           have HB := n6_
           clear n0_ n1_ n2_ n3_ n4_ n5_ n6_
           (try clear hb)
           (try clear hb2)
           (try clear hk)
           (try clear hi)
           (try clear ho0)
           obtain ⟨Ao57, co57, eo57⟩ := Kd.R_slice HO563.out
           (first | subst eo57 | (injection eo57 with f1_ f2_ f3_; have f4_ := f1_.symm; have f5_ := f3_.symm; clear f1_ f2_ f3_; subst f4_; subst f5_))
           refine hK.out _ _ ⟨(blk_cell BK538.out 0).trans rfl, (blk_cell BK538.out 1).trans rfl⟩ (fun hHeld => ?_)
           clear hK K
           refine norm_ (a' := ?_) ?_ ?_
           rotate_left
           ·
            show Act.put _ (some 64) _ = _
            simp only [Act.put, List.setIfInBounds_toArray, List.set_cons_zero, List.set_cons_succ, i64_w, i32_w]
            rfl
           refine one_ (i := 6) (N := some 65) #[true, true, true, true, true, true, true, false, false, false] rfl rfl (one_of HT_.out (by kernel_rfl)) (by decide) (fun K hK => ?_)
           refine value_ (w1 := ?_) (v := ?_) (by rfl) rfl ?_ ?_
           rotate_left 2
           ·
            go_simp
            constructor
            ·
             rfl
            ·
             rfl
           refine hK.out _ _ ⟨(blk_cell (blk_alloc BK538.out _) 0).trans rfl, (blk_cell (blk_alloc BK538.out _) 1).trans rfl⟩ (fun hHeld => ?_)
           clear hK K
           refine norm_ (a' := ?_) ?_ ?_
           rotate_left
           ·
            show Act.put _ (some 65) _ = _
            simp only [Act.put, List.setIfInBounds_toArray, List.set_cons_zero, List.set_cons_succ, i64_w, i32_w]
            rfl
           refine one_ (i := 7) (N := some 66) #[true, true, true, true, true, true, true, true, false, false] rfl rfl (one_of HT_.out (by kernel_rfl)) (by decide) (fun K hK => ?_)
           refine Kd.S_append_step (Kd.slice 3 (Kd.int .i64)) (w0 := w) w.heap.size (by rfl) (.tmp 60) (.tmp 65) 54 30 (.slice none 0 0) 24 rfl Try.underlying54 info30 rfl (by decide) (by omega) u539001 x539001_2 t561 [.slice Ao57 t561.length co57] (fun k_ => some k_ ≠ (u539000 : Value).ownBlock) (fun k_ => some k_ = (.slice Ao57 t561.length co57 : Value).ownBlock) rfl rfl ?aP (fun k_ hk_ => ((Kd.R_mono (ok' := fun k_ => ((fun k_ => some k_ ≠ (u539000 : Value).ownBlock)) k_ ∧ some k_ ≠ (u539001 : Value).ownBlock) (Kd.R_apart' (Kd.R_apart' (HO563.out) (Kd.S_typed HO_539000.out) (by decide)) (Kd.S_typed HO_539001.out) (by decide)) (fun k_ hk => ⟨hk.1.2, hk.2⟩))).1 k_ hk_.symm) ?aF ?aO ?aB ?aS ?aL ?_
           (case aP => exact Kd.M_row (Kd.R_mono (Kd.R_tight rfl (Kd.R_mono (ok' := fun k_ => ((fun k_ => some k_ ≠ (u539000 : Value).ownBlock)) k_ ∧ some k_ ≠ (u539001 : Value).ownBlock) (Kd.R_apart' (Kd.R_apart' (HO563.out) (Kd.S_typed HO_539000.out) (by decide)) (Kd.S_typed HO_539001.out) (by decide)) (fun k_ hk => ⟨hk.1.2, hk.2⟩))) (fun _ h_ => h_)))
           (case aB => exact (by repeat (first | (with_reducible first | exact HB.out | apply below_alloc | apply pw_below_drewN | apply below_drew1 | refine below_set ?_ GE536.out | refine below_set ?_ GE537.out | refine below_set ?_ GE538.out) | exact HB.out)))
           (case aF => exact (fun k_ hk => Kd.fresh' (Kd.S_lt (by (with_reducible repeat (first | apply Kd.S_alloc | apply Kd.S_drewN | apply Kd.S_drew)); exact HO_539000.out)) k_ hk))
           (case aO => exact (by (with_reducible repeat (first | apply Kd.S_alloc | apply Kd.S_drewN | apply Kd.S_drew)); exact Kd.S_mono HO_539001.out (fun k_ hk => ⟨hk.1, fun e_ => hk.2 e_⟩)))
           (case aS => exact (below_size (by repeat (first | (with_reducible first | exact HB.out | apply below_alloc | apply pw_below_drewN | apply below_drew1 | refine below_set ?_ GE536.out | refine below_set ?_ GE537.out | refine below_set ?_ GE538.out) | exact HB.out))))
           (case aL => have := LMc53.out; omega)
           intro v565 w56 ho hb hg hat
           rw [← Ny564.out] at ho
           have n0_ := Aside0.mk (Kd.S_after (ok := (fun k_ => some k_ ≠ (.slice Ao57 t561.length co57 : Value).ownBlock)) (by (with_reducible repeat (first | apply Kd.S_alloc | apply Kd.S_drewN | apply Kd.S_drew)); exact Kd.S_mono HO_539000.out (fun _ hk => ⟨hk.2, hk.1⟩)) hg hat)
           have n1_ := Aside0.mk (blk_grown (g := gb536) (o := .cells #[.slice A0_0 l0_0.length c0_0, .slice (some ad553) l0_1.length c0_1] 40 (0, 0)) (zqB BK536.out) hg (Kd.S_ne HO_539001.out BK536.out (by decide)))
           have n2_ := Aside0.mk (blk_grown (g := gb537) (o := .cells #[.slice none 0 0, .slice none 0 0] 56 (0, 0)) (zqB BK537.out) hg (Kd.S_ne HO_539001.out BK537.out (by decide)))
           have n3_ := Aside0.mk (blk_grown (g := gb538) (o := .cells #[u539000, u539001] 56 (0, 0)) (zqB BK538.out) hg (Kd.S_ne HO_539001.out BK538.out (by decide)))
           have n4_ := Aside0.mk (hb)
           have n5_ := Aside0.mk (ho)
           clear HO_539000
           clear BK536
           clear BK537
           clear BK538
           clear HB
           clear HO_539001
           clear HO563
           have HO_539000 := n0_
           have BK536 := n1_
           have BK537 := n2_
           have BK538 := n3_
           have HB := n4_
           have HO566 := n5_
           clear n0_ n1_ n2_ n3_ n4_ n5_
           clear ho hb hg hat
           obtain ⟨Ao58, co58, eo58⟩ := Kd.S_slice HO566.out
           (first | subst eo58 | (injection eo58 with f1_ f2_ f3_; have f4_ := f1_.symm; have f5_ := f3_.symm; clear f1_ f2_ f3_; subst f4_; subst f5_))
           refine hK.out _ _ ⟨(blk_cell BK538.out 0).trans rfl, (blk_cell BK538.out 1).trans rfl⟩ (fun hHeld => ?_)
           clear hK K
           refine norm_ (a' := ?_) ?_ ?_
           rotate_left
           ·
            show Act.put _ (some 66) _ = _
            simp only [Act.put, List.setIfInBounds_toArray, List.set_cons_zero, List.set_cons_succ, i64_w, i32_w]
            rfl
           refine pure_ (i := 8) (N := some 67) (v := ?_) (a' := ?_) #[true, true, true, true, true, true, true, true, true, false] rfl rfl (any_of HT_.out (by kernel_rfl)) (fun _ _ _ h => h) (Or.inl ⟨by rfl, ?_⟩) ?_ ?_
           rotate_left
           ·
            intro w'
            go_simp
            with_reducible rfl
           rotate_left
           ·
            simp only [Act.put, List.setIfInBounds_toArray, List.set_cons_zero, List.set_cons_succ, i64_w, i32_w]
            rfl
           refine last_ (i := 9) (N := none) #[true, true, true, true, true, true, true, true, true, true] rfl rfl (one_of HT_.out (by kernel_rfl)) (by decide) (fun K hK => ?_)
           have hs59 : w56.cell? ⟨gb538, 1, none⟩ = some (u539001) := (blk_cell BK538.out 1).trans rfl
           have hfs59 := blk_frozen BK538.out 1
           have hns59_0 := NB536_538.out
           have hns59_1 := NB537_538.out
           have hms59_0 := NB538_536.out
           have hms59_1 := NB538_537.out
           refine skip_ (w1 := ?_) (by rfl) rfl ?_ ?_
           rotate_left
           ·
            go_simp
            rfl
           refine hK.out _ _ ?_
           clear hK K
           refine done_ (done_of HT_.out (by kernel_rfl)) ?_
           try go_wp2
           go_roundg k2
           case measure => have := HK1.out; have := HK2.out; omega
           case rel => exact ⟨(wrap64 (x43_2 + 1)), (y564), (.slice Ao58 y564.length co58), (by first | rfl | (simp; done) | (simp [*]; done)), H', ⟨by have := HK1.out; have := HK2.out; omega⟩, ⟨by (with_reducible repeat (first | apply Kd.S_alloc | apply Kd.S_drewN | apply Kd.S_drew)); exact Kd.S_mono (Kd.S_far (p := ⟨gb538, 1, none⟩) (Kd.S_types HO_539000.out BK538.out (by decide)) (fun _ hk => hk.2) (.slice Ao58 y564.length co58)) (fun _ hk => hk.1.2)⟩, ⟨by (with_reducible repeat (first | apply Kd.S_alloc | apply Kd.S_drewN | apply Kd.S_drew)); exact Kd.S_mono (Kd.S_far (p := ⟨gb538, 1, none⟩) (Kd.S_types HO566.out BK538.out (by decide)) (fun _ hk => hk.2) (.slice Ao58 y564.length co58)) (fun _ hk => hk.1)⟩, ⟨by (with_reducible repeat (first | refine blk_drewN ?_ _ | refine blk_drew ?_ | refine blk_alloc ?_ _)); refine blk_far ?_ NB536_538.out _; (with_reducible repeat (first | refine blk_drewN ?_ _ | refine blk_drew ?_ | refine blk_alloc ?_ _)); exact BK536.out⟩, ⟨by (with_reducible repeat (first | refine blk_drewN ?_ _ | refine blk_drew ?_ | refine blk_alloc ?_ _)); refine blk_far ?_ NB537_538.out _; (with_reducible repeat (first | refine blk_drewN ?_ _ | refine blk_drew ?_ | refine blk_alloc ?_ _)); exact BK537.out⟩, ⟨by (with_reducible repeat (first | refine blk_drewN ?_ _ | refine blk_drew ?_ | refine blk_alloc ?_ _)); refine blk_put (cs := #[u539000, u539001]) ?_ 1 _ rfl; (with_reducible repeat (first | refine blk_drewN ?_ _ | refine blk_drew ?_ | refine blk_alloc ?_ _)); exact BK538.out⟩, ⟨by repeat (first | (with_reducible first | exact HB.out | apply below_alloc | apply pw_below_drewN | apply below_drew1 | refine below_set ?_ GE536.out | refine below_set ?_ GE537.out | refine below_set ?_ GE538.out) | exact HB.out)⟩⟩
          ·
           rw [if_neg c53] at H
           exact absurd H (by simp)
        ·
         rw [if_neg c38] at H
         exact absurd H (by simp)
       ·
        rw [if_neg c37] at H
        exact absurd H (by simp)
      ·
       rw [if_neg c36] at H
       have c36b0 : decide (x43_2 < (l0_1.length : Int)) = false := decide_eq_false c36
       clear c36
       simp only [Option.some.injEq, Prod.mk.injEq] at H
       obtain ⟨rfl, rfl⟩ := H
       have hnb60 := NB538_536.out
       have hnc60 := NB536_538.out
       have hnb61 := NB538_537.out
       have hnc61 := NB537_538.out
       have hcz62_0 : wr.cell? ⟨gb538, 0, none⟩ = some (u539000) := (blk_cell BK538.out 0).trans rfl
       have hcz62_1 : wr.cell? ⟨gb538, 1, none⟩ = some (u539001) := (blk_cell BK538.out 1).trans rfl
       have hfz62_0 := blk_frozen BK538.out 0
       have hfz62_1 := blk_frozen BK538.out 1
       obtain ⟨Ao63, co63, eo63⟩ := Kd.S_slice HO_539000.out
       subst eo63
       have hnb64 := NB537_536.out
       have hnc64 := NB536_537.out
       have hcz65_0 : wr.cell? ⟨gb537, 0, none⟩ = some (.slice none 0 0) := (blk_cell BK537.out 0).trans rfl
       have hcz65_1 : wr.cell? ⟨gb537, 1, none⟩ = some (.slice none 0 0) := (blk_cell BK537.out 1).trans rfl
       have hfz65_0 := blk_frozen BK537.out 0
       have hfz65_1 := blk_frozen BK537.out 1
       obtain ⟨Ao66, co66, eo66⟩ := Kd.S_slice HO_539001.out
       subst eo66
       go_wp2
       refine bodyPost_ret (results_cell_row rfl _ _ gb537 56 #[.slice Ao63 x539000_1.length co63, .slice Ao66 x539001_2.length co66] (0, 0) _ rfl (by (with_reducible repeat (first | refine blk_drewN ?_ _ | refine blk_drew ?_ | refine blk_alloc ?_ _)); refine blk_put (cs := #[.slice Ao63 x539000_1.length co63, .slice none 0 0]) ?_ 1 _ rfl; (with_reducible repeat (first | refine blk_drewN ?_ _ | refine blk_drew ?_ | refine blk_alloc ?_ _)); refine blk_put (cs := #[.slice none 0 0, .slice none 0 0]) ?_ 0 _ rfl; (with_reducible repeat (first | refine blk_drewN ?_ _ | refine blk_drew ?_ | refine blk_alloc ?_ _)); exact BK537.out) Try.underlying56 rfl (by kernel_rfl)) rfl ?_
       exact ⟨_, _, by first | rfl | (simp [errW_none, errW_some] <;> rfl) | (simp [*, errW_none, errW_some] <;> rfl), by (with_reducible repeat (first | apply Kd.S_alloc | apply Kd.S_drewN | apply Kd.S_drew)); exact Kd.S_mono (Kd.S_far (p := ⟨gb537, 1, none⟩) (Kd.S_far (p := ⟨gb537, 0, none⟩) (Kd.S_types HO_539000.out BK537.out (by decide)) (fun _ hk => hk.2) (.slice Ao63 x539000_1.length co63)) (fun _ hk => hk.2) (.slice Ao66 x539001_2.length co66)) (fun _ hk => hk.1), by (with_reducible repeat (first | apply Kd.S_alloc | apply Kd.S_drewN | apply Kd.S_drew)); exact Kd.S_mono (Kd.S_far (p := ⟨gb537, 1, none⟩) (Kd.S_far (p := ⟨gb537, 0, none⟩) (Kd.S_types HO_539001.out BK537.out (by decide)) (fun _ hk => hk.2) (.slice Ao63 x539000_1.length co63)) (fun _ hk => hk.2) (.slice Ao66 x539001_2.length co66)) (fun _ hk => hk.1), by repeat (first | (with_reducible first | exact HB.out | apply below_alloc | apply pw_below_drewN | apply below_drew1 | refine below_set ?_ GE536.out | refine below_set ?_ GE537.out | refine below_set ?_ GE538.out) | exact HB.out)⟩
def pianolalaw04_L.f  : Option ((List (S71))) := some (([(⟨1, 5⟩ : S71), (⟨3, 9⟩ : S71)] : List (S71)))
set_option maxHeartbeats 8000000 in
set_option maxRecDepth 100000 in
theorem pianolalaw04_L.calls  (r : List (S71)) (w : World) (h : pianolalaw04_L.f  = some r) :
    Calls Try.prog 50 #[] w fun e w' => ∃ v0_ : Value, e = .returned (v0_) ∧ Kd.R k71 71 w' w.heap.size (fun _ => True) v0_ r ∧ Below w.heap.size w w' := by
  have hu71 := Try.underlying71
  have HB := Aside0.mk (Below.refl w.heap.size w)
  have H : (some (([(⟨1, 5⟩ : S71), (⟨3, 9⟩ : S71)] : List (S71)))) = some r := h
  clear h
  obtain ⟨y617, hy617⟩ : ∃ y_ : List (S71), y_ = (([(⟨1, 5⟩ : S71), (⟨3, 9⟩ : S71)] : List (S71))) := ⟨_, rfl⟩
  replace H : (some y617) = some r := by first | (rw [hy617]; with_reducible exact H) | (have H2_ := (Option.bind_some _ _).symm.trans H; rw [hy617]; with_reducible exact H2_) | (have H2_ := (Option.bind_some _ _).symm.trans H; with_reducible exact H2_) | with_reducible exact H | (rw [hy617]; exact H) | exact H
  have Ny617 := Aside0.mk hy617
  clear hy617
  obtain rfl := Option.some.inj H
  go_enter Try.func50, Try.ntmps50
  go_wp2_with (first | ((with_reducible refine gate_dst (N := 3) rfl ?_); refine Kd.R_lit k71 _ 71 ?hg (N := 3) ?hd (xs := ([(⟨1, 5⟩ : S71), (⟨3, 9⟩ : S71)] : List (S71))) (inner := [.int .i64 1, .int .i64 5, .int .i64 3, .int .i64 9]) (ok := fun _ => True) (okp := fun _ => True) ?hr ?hp (fun _ hk => hk) trivial (Below.refl _ _) (Nat.le_refl _) (by simp) ?_; (case hd => rfl); (case hg => rfl); (case hr => first | (go_simp; done) | (go_simp; rfl)); (case hp => exact (Reps.c2 (show Kd.M k71 _ _ _ (⟨1, 5⟩ : S71) [.int .i64 1, .int .i64 5] from (k71_mkM _ _ _ (⟨1, 5⟩ : S71) )) (Reps.c2 (show Kd.M k71 _ _ _ (⟨3, 9⟩ : S71) [.int .i64 3, .int .i64 9] from (k71_mkM _ _ _ (⟨3, 9⟩ : S71) )) (Reps.none _ _)))); intro v618 w1 ho2 hb hg_ hnew_; clear hg_ hnew_; (first | rw [← Ny617.out] at ho2 | (simp only [Int.reduceToNat] at ho2; rw [← Ny617.out] at ho2)); have n0_ := Aside0.mk (Kd.R_lower ho2 (below_size (zqA HB.out))); have n1_ := Aside0.mk (below_step (zqA HB.out) hb); clear HB; have HO619 := n0_; have HB := n1_; clear n0_ n1_; clear hb ho2))
  go_ret
  exact ⟨_, by first | rfl | (simp [errW_none, errW_some] <;> rfl) | (simp [*, errW_none, errW_some] <;> rfl), zqC HO619.out, zqA HB.out⟩
def pianolalaw04_K.f  : Option ((List (S71))) := some (([(⟨2, 4⟩ : S71), (⟨5, 15⟩ : S71)] : List (S71)))
set_option maxHeartbeats 8000000 in
set_option maxRecDepth 100000 in
theorem pianolalaw04_K.calls  (r : List (S71)) (w : World) (h : pianolalaw04_K.f  = some r) :
    Calls Try.prog 51 #[] w fun e w' => ∃ v0_ : Value, e = .returned (v0_) ∧ Kd.R k71 71 w' w.heap.size (fun _ => True) v0_ r ∧ Below w.heap.size w w' := by
  have hu71 := Try.underlying71
  have HB := Aside0.mk (Below.refl w.heap.size w)
  have H : (some (([(⟨2, 4⟩ : S71), (⟨5, 15⟩ : S71)] : List (S71)))) = some r := h
  clear h
  obtain ⟨y620, hy620⟩ : ∃ y_ : List (S71), y_ = (([(⟨2, 4⟩ : S71), (⟨5, 15⟩ : S71)] : List (S71))) := ⟨_, rfl⟩
  replace H : (some y620) = some r := by first | (rw [hy620]; with_reducible exact H) | (have H2_ := (Option.bind_some _ _).symm.trans H; rw [hy620]; with_reducible exact H2_) | (have H2_ := (Option.bind_some _ _).symm.trans H; with_reducible exact H2_) | with_reducible exact H | (rw [hy620]; exact H) | exact H
  have Ny620 := Aside0.mk hy620
  clear hy620
  obtain rfl := Option.some.inj H
  go_enter Try.func51, Try.ntmps51
  go_wp2_with (first | ((with_reducible refine gate_dst (N := 3) rfl ?_); refine Kd.R_lit k71 _ 71 ?hg (N := 3) ?hd (xs := ([(⟨2, 4⟩ : S71), (⟨5, 15⟩ : S71)] : List (S71))) (inner := [.int .i64 2, .int .i64 4, .int .i64 5, .int .i64 15]) (ok := fun _ => True) (okp := fun _ => True) ?hr ?hp (fun _ hk => hk) trivial (Below.refl _ _) (Nat.le_refl _) (by simp) ?_; (case hd => rfl); (case hg => rfl); (case hr => first | (go_simp; done) | (go_simp; rfl)); (case hp => exact (Reps.c2 (show Kd.M k71 _ _ _ (⟨2, 4⟩ : S71) [.int .i64 2, .int .i64 4] from (k71_mkM _ _ _ (⟨2, 4⟩ : S71) )) (Reps.c2 (show Kd.M k71 _ _ _ (⟨5, 15⟩ : S71) [.int .i64 5, .int .i64 15] from (k71_mkM _ _ _ (⟨5, 15⟩ : S71) )) (Reps.none _ _)))); intro v621 w1 ho2 hb hg_ hnew_; clear hg_ hnew_; (first | rw [← Ny620.out] at ho2 | (simp only [Int.reduceToNat] at ho2; rw [← Ny620.out] at ho2)); have n0_ := Aside0.mk (Kd.R_lower ho2 (below_size (zqA HB.out))); have n1_ := Aside0.mk (below_step (zqA HB.out) hb); clear HB; have HO622 := n0_; have HB := n1_; clear n0_ n1_; clear hb ho2))
  go_ret
  exact ⟨_, by first | rfl | (simp [errW_none, errW_some] <;> rfl) | (simp [*, errW_none, errW_some] <;> rfl), zqC HO622.out, zqA HB.out⟩
def pianolalaw04_P.f  : Option ((List (List (S71))) × (List (List (S71)))) := (pianolalaw04_L.f).bind fun t624 => ((pianolalaw04_K.f).bind fun t630 => (some ((([t624] : List (List (S71)))), (([t630] : List (List (S71)))))))
set_option maxHeartbeats 8000000 in
set_option maxRecDepth 100000 in
theorem pianolalaw04_P.calls  (r1 : List (List (S71))) (r2 : List (List (S71))) (w : World) (h : pianolalaw04_P.f  = some (r1, r2)) :
  Calls Try.prog 48 #[] w fun e w' => ∃ v0_ v1_ : Value, e = .returned (.agg #[v0_, v1_]) ∧ Kd.N (Kd.slice 71 k71) 22 w' w.heap.size (fun k_ => (w.heap.size ≤ k_) ∧ some k_ ≠ (v1_ : Value).ownBlock) v0_ r1 ∧ Kd.N (Kd.slice 71 k71) 22 w' w.heap.size (fun k_ => (w.heap.size ≤ k_) ∧ some k_ ≠ (v0_ : Value).ownBlock) v1_ r2 ∧ Below w.heap.size w w' := by
 have hu40 := Try.underlying40
 have HB := Aside0.mk (Below.refl w.heap.size w)
 have H : ((pianolalaw04_L.f).bind fun t624 => ((pianolalaw04_K.f).bind fun t630 => (some ((([t624] : List (List (S71)))), (([t630] : List (List (S71)))))))) = some (r1, r2) := h
 clear h
 replace H := Option.bind_eq_some_iff.mp H
 obtain ⟨t624, A10, H⟩ := H
 replace H : ((pianolalaw04_K.f).bind fun t630 => (some ((([t624] : List (List (S71)))), (([t630] : List (List (S71))))))) = some (r1, r2) := H
 have A1 := Aside0.mk A10
 clear A10
 obtain ⟨y627, hy627⟩ : ∃ y_ : List (List (S71)), y_ = (([t624] : List (List (S71)))) := ⟨_, rfl⟩
 replace H : ((pianolalaw04_K.f).bind fun t630 => (some (y627, (([t630] : List (List (S71))))))) = some (r1, r2) := by first | (rw [hy627]; with_reducible exact H) | (have H2_ := (Option.bind_some _ _).symm.trans H; rw [hy627]; with_reducible exact H2_) | (have H2_ := (Option.bind_some _ _).symm.trans H; with_reducible exact H2_) | with_reducible exact H | (rw [hy627]; exact H) | exact H
 have Ny627 := Aside0.mk hy627
 clear hy627
 replace H := Option.bind_eq_some_iff.mp H
 obtain ⟨t630, A20, H⟩ := H
 replace H : (some (y627, (([t630] : List (List (S71)))))) = some (r1, r2) := H
 have A2 := Aside0.mk A20
 clear A20
 obtain ⟨y633, hy633⟩ : ∃ y_ : List (List (S71)), y_ = (([t630] : List (List (S71)))) := ⟨_, rfl⟩
 replace H : (some (y627, y633)) = some (r1, r2) := by first | (rw [hy633]; with_reducible exact H) | (have H2_ := (Option.bind_some _ _).symm.trans H; rw [hy633]; with_reducible exact H2_) | (have H2_ := (Option.bind_some _ _).symm.trans H; with_reducible exact H2_) | with_reducible exact H | (rw [hy633]; exact H) | exact H
 have Ny633 := Aside0.mk hy633
 clear hy633
 simp only [Option.some.injEq, Prod.mk.injEq] at H
 obtain ⟨rfl, rfl⟩ := H
 go_enter Try.func48, Try.ntmps48
 go_wp2_with (first | ((with_reducible refine gate_dst (N := 0) rfl ?_); refine box_event ?hg (N := 0) ?hd (cs := #[.slice none 0 0, .slice none 0 0]) (t := 40) ?hr ?_; (case hd => rfl); (case hg => rfl); (case hr => first | (go_simp; done) | (go_simp; rfl)); intro gb623 hg w3 hbox hb; have n0_ := Aside0.mk (below_step (zqA HB.out) hb); have n1_ := Aside0.mk (hbox); have n2_ := Aside0.mk ((by rw [hg]; exact (below_size (zqA HB.out)) : w.heap.size ≤ gb623)); have n3_ := Aside0.mk ((by rw [hg]; exact (below_size (zqA HB.out)) : w.heap.size ≤ gb623)); clear HB; have HB := n0_; have BK623 := n1_; have GW623 := n2_; have GE623 := n3_; clear n0_ n1_ n2_ n3_; clear hb hbox hg) | ((with_reducible refine gate_callee (f := 50) rfl ?_); refine goesL_ (some 1) rfl rfl Try.func50 (by kernel_rfl) rfl #[] rfl (by (try simp only [List.map_toArray, List.map_cons, List.map_nil]); first | done | rfl | (simp only [List.length_drop, List.length_take]; rfl)) ?_; (with_reducible refine (pianolalaw04_L.calls  t624 _ A1.out).mono ?_); rintro e w4 ⟨v625, rfl, ho0, hb⟩; refine ⟨_, rfl, ?_⟩; have n0_ := Aside0.mk (Kd.R_lower (Kd.R_newM (M := fun k_ => (w.heap.size ≤ k_)) ho0 (below_size (zqG HB.out GE623.out)) (fun k_ h_ => h_)) (below_size (zqG HB.out GE623.out))); have n1_ := Aside0.mk (blk_below (g := gb623) (o := .cells #[.slice none 0 0, .slice none 0 0] 40 (0, 0)) (zqB BK623.out) hb); have n2_ := Aside0.mk (below_step (zqG HB.out GE623.out) hb); clear BK623; clear HB; have HO626 := n0_; have BK623 := n1_; have HB := n2_; clear n0_ n1_ n2_; (try clear hb); (try clear hb2); (try clear hk); (try clear hi); (try clear ho0); obtain ⟨Ao5, co5, eo5⟩ := Kd.R_slice HO626.out; subst eo5) | ((with_reducible refine gate_dst (N := 2) rfl ?_); refine Kd.N_lit (Kd.slice 71 k71) _ 22 ?hg (N' := 2) ?hd (xs := ([t624] : List (List (S71)))) (inner := [.slice Ao5 t624.length co5]) (ok := (fun k_ => (w.heap.size ≤ k_) ∧ k_ ≠ gb623)) (okp := (fun k_ => (w.heap.size ≤ k_) ∧ k_ ≠ gb623)) ?hr ?hp (fun _ hk => hk) ((show ∀ k_, w4.heap.size ≤ k_ → (fun k_ => (w.heap.size ≤ k_) ∧ k_ ≠ gb623) k_ from fun k_ hk => ⟨(Nat.le_trans (below_size (zqG HB.out GE623.out)) hk), Kd.freshB (g := gb623) (o := .cells #[.slice none 0 0, .slice none 0 0] 40 (0, 0)) (zqB BK623.out) k_ hk⟩) _ (Nat.le_refl _)) (Below.refl _ _) (Nat.le_refl _) (by simp) ?_; (case hd => rfl); (case hg => rfl); (case hr => first | (go_simp; done) | (go_simp; rfl)); (case hp => exact (Reps.one (show Kd.FK (Kd.slice 71 k71) _ _ t624 [.slice Ao5 t624.length co5] from (Kd.FK_slice_mk (Kd.R_reads' (Kd.R_mono (ok' := (fun k_ => (w.heap.size ≤ k_) ∧ k_ ≠ gb623)) (Kd.R_types (HO626.out) BK623.out (by decide)) (fun k_ hk => ⟨hk.1.1, hk.2⟩))).2.1 (Kd.R_F (Kd.R_mono (ok' := (fun k_ => (w.heap.size ≤ k_) ∧ k_ ≠ gb623)) (Kd.R_types (HO626.out) BK623.out (by decide)) (fun k_ hk => ⟨hk.1.1, hk.2⟩))))) (Reps.none _ _))); intro v628 w6 ho7 hb hg_ hnew_; clear hg_ hnew_; (first | rw [← Ny627.out] at ho7 | (simp only [Int.reduceToNat] at ho7; rw [← Ny627.out] at ho7)); have n0_ := Aside0.mk (Kd.N_lower ho7 (below_size (zqG HB.out GE623.out))); have n1_ := Aside0.mk (blk_below (g := gb623) (o := .cells #[.slice none 0 0, .slice none 0 0] 40 (0, 0)) (zqB BK623.out) hb); have n2_ := Aside0.mk (below_step (zqG HB.out GE623.out) hb); clear BK623; clear HB; clear HO626; have HO629 := n0_; have BK623 := n1_; have HB := n2_; clear n0_ n1_ n2_; clear hb ho7) | ((with_reducible refine gate_callee (f := 51) rfl ?_); refine goesL_ (some 3) rfl rfl Try.func51 (by kernel_rfl) rfl #[] rfl (by (try simp only [List.map_toArray, List.map_cons, List.map_nil]); first | done | rfl | (simp only [List.length_drop, List.length_take]; rfl)) ?_; (with_reducible refine (pianolalaw04_K.calls  t630 _ A2.out).mono ?_); rintro e w8 ⟨v631, rfl, ho0, hb⟩; refine ⟨_, rfl, ?_⟩; have n0_ := Aside0.mk (Kd.N_elder' (by (with_reducible repeat (first | apply Kd.N_alloc | apply Kd.N_drewN | apply Kd.N_drew)); exact HO629.out) (Kd.R_base ho0) hb); have n1_ := Aside0.mk (Kd.R_lower (Kd.R_newM (M := fun k_ => (w.heap.size ≤ k_)) ho0 (below_size (zqG HB.out GE623.out)) (fun k_ h_ => h_)) (below_size (zqG HB.out GE623.out))); have n2_ := Aside0.mk (blk_below (g := gb623) (o := .cells #[.slice none 0 0, .slice none 0 0] 40 (0, 0)) (zqB BK623.out) hb); have n3_ := Aside0.mk (below_step (zqG HB.out GE623.out) hb); clear HO629; clear BK623; clear HB; have HO629 := n0_; have HO632 := n1_; have BK623 := n2_; have HB := n3_; clear n0_ n1_ n2_ n3_; (try clear hb); (try clear hb2); (try clear hk); (try clear hi); (try clear ho0); obtain ⟨Ao9, co9, eo9⟩ := Kd.R_slice HO632.out; subst eo9) | ((with_reducible refine gate_dst (N := 4) rfl ?_); refine Kd.N_lit (Kd.slice 71 k71) _ 22 ?hg (N' := 4) ?hd (xs := ([t630] : List (List (S71)))) (inner := [.slice Ao9 t630.length co9]) (ok := (fun k_ => (w.heap.size ≤ k_) ∧ some k_ ≠ (v628 : Value).ownBlock ∧ k_ ≠ gb623)) (okp := (fun k_ => (w.heap.size ≤ k_) ∧ some k_ ≠ (v628 : Value).ownBlock ∧ k_ ≠ gb623)) ?hr ?hp (fun _ hk => hk) ((show ∀ k_, w8.heap.size ≤ k_ → (fun k_ => (w.heap.size ≤ k_) ∧ some k_ ≠ (v628 : Value).ownBlock ∧ k_ ≠ gb623) k_ from fun k_ hk => ⟨(Nat.le_trans (below_size (zqG HB.out GE623.out)) hk), Kd.fresh' (Kd.N_lt (by (with_reducible repeat (first | apply Kd.N_alloc | apply Kd.N_drewN | apply Kd.N_drew)); exact HO629.out)) k_ hk, Kd.freshB (g := gb623) (o := .cells #[.slice none 0 0, .slice none 0 0] 40 (0, 0)) (zqB BK623.out) k_ hk⟩) _ (Nat.le_refl _)) (Below.refl _ _) (Nat.le_refl _) (by simp) ?_; (case hd => rfl); (case hg => rfl); (case hr => first | (go_simp; done) | (go_simp; rfl)); (case hp => exact (Reps.one (show Kd.FK (Kd.slice 71 k71) _ _ t630 [.slice Ao9 t630.length co9] from (Kd.FK_slice_mk (Kd.R_reads' (Kd.R_mono (ok' := (fun k_ => (w.heap.size ≤ k_) ∧ some k_ ≠ (v628 : Value).ownBlock ∧ k_ ≠ gb623)) (Kd.R_types (Kd.R_apart' (HO632.out) (Kd.N_typed HO629.out) (by decide)) BK623.out (by decide)) (fun k_ hk => ⟨hk.1.1.1, ⟨hk.1.2, hk.2⟩⟩))).2.1 (Kd.R_F (Kd.R_mono (ok' := (fun k_ => (w.heap.size ≤ k_) ∧ some k_ ≠ (v628 : Value).ownBlock ∧ k_ ≠ gb623)) (Kd.R_types (Kd.R_apart' (HO632.out) (Kd.N_typed HO629.out) (by decide)) BK623.out (by decide)) (fun k_ hk => ⟨hk.1.1.1, ⟨hk.1.2, hk.2⟩⟩))))) (Reps.none _ _))); intro v634 w10 ho11 hb hg_ hnew_; clear hg_ hnew_; (first | rw [← Ny633.out] at ho11 | (simp only [Int.reduceToNat] at ho11; rw [← Ny633.out] at ho11)); have n0_ := Aside0.mk (Kd.N_elder' (by (with_reducible repeat (first | apply Kd.N_alloc | apply Kd.N_drewN | apply Kd.N_drew)); exact HO629.out) (Kd.N_base ho11) hb); have n1_ := Aside0.mk (Kd.N_lower ho11 (below_size (zqG HB.out GE623.out))); have n2_ := Aside0.mk (blk_below (g := gb623) (o := .cells #[.slice none 0 0, .slice none 0 0] 40 (0, 0)) (zqB BK623.out) hb); have n3_ := Aside0.mk (below_step (zqG HB.out GE623.out) hb); clear HO629; clear BK623; clear HB; clear HO632; have HO629 := n0_; have HO635 := n1_; have BK623 := n2_; have HB := n3_; clear n0_ n1_ n2_ n3_; clear hb ho11; obtain ⟨Ao12, co12, eo12⟩ := Kd.N_slice HO635.out; subst eo12; obtain ⟨Ao13, co13, eo13⟩ := Kd.N_slice HO629.out; subst eo13; have hcz14_0 : w10.cell? ⟨gb623, 0, none⟩ = some (.slice none 0 0) := (blk_cell BK623.out 0).trans rfl; have hcz14_1 : w10.cell? ⟨gb623, 1, none⟩ = some (.slice none 0 0) := (blk_cell BK623.out 1).trans rfl; have hfz14_0 := blk_frozen BK623.out 0; have hfz14_1 := blk_frozen BK623.out 1))
 refine bodyPost_ret (results_cell_row rfl _ _ gb623 40 #[.slice Ao13 y627.length co13, .slice Ao12 y633.length co12] (0, 0) _ rfl (by (with_reducible repeat (first | refine blk_drewN ?_ _ | refine blk_drew ?_ | refine blk_alloc ?_ _)); refine blk_put (cs := #[.slice Ao13 y627.length co13, .slice none 0 0]) ?_ 1 _ rfl; (with_reducible repeat (first | refine blk_drewN ?_ _ | refine blk_drew ?_ | refine blk_alloc ?_ _)); refine blk_put (cs := #[.slice none 0 0, .slice none 0 0]) ?_ 0 _ rfl; (with_reducible repeat (first | refine blk_drewN ?_ _ | refine blk_drew ?_ | refine blk_alloc ?_ _)); exact BK623.out) Try.underlying40 rfl (by kernel_rfl)) rfl ?_
 exact ⟨_, _, by first | rfl | (simp [errW_none, errW_some] <;> rfl) | (simp [*, errW_none, errW_some] <;> rfl), by (with_reducible repeat (first | apply Kd.N_alloc | apply Kd.N_drewN | apply Kd.N_drew)); exact Kd.N_mono (Kd.N_far (p := ⟨gb623, 1, none⟩) (Kd.N_far (p := ⟨gb623, 0, none⟩) (Kd.N_mono HO629.out (fun k_ hk => (⟨hk, hk.1.1.2⟩ : _ ∧ k_ ≠ gb623))) (fun _ hk => hk.2) (.slice Ao13 y627.length co13)) (fun _ hk => hk.2) (.slice Ao12 y633.length co12)) (fun _ hk => ⟨hk.1.1.1.1, hk.1.2⟩), by (with_reducible repeat (first | apply Kd.N_alloc | apply Kd.N_drewN | apply Kd.N_drew)); exact Kd.N_mono (Kd.N_far (p := ⟨gb623, 1, none⟩) (Kd.N_far (p := ⟨gb623, 0, none⟩) (Kd.N_mono HO635.out (fun k_ hk => (⟨hk, hk.2.2⟩ : _ ∧ k_ ≠ gb623))) (fun _ hk => hk.2) (.slice Ao13 y627.length co13)) (fun _ hk => hk.2) (.slice Ao12 y633.length co12)) (fun _ hk => ⟨hk.1.1, hk.1.2.1⟩), zqG HB.out GE623.out⟩
end Go.Proofs.Ythoeindopljmkaa.P
end
