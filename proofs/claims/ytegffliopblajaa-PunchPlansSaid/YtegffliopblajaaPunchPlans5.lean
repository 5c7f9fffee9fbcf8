/- Words and contracts for a claim. -/
import Derived.Test.YtegffliopblajaaPunchPlans4

section
open List (setIfInBounds_toArray set_cons_zero set_cons_succ)
section
namespace Go.Proofs.Ytegffliopblajaa.P
open Go.RowKit Go.Proofs.YtegffliopblajaaW.PrintWords Go.Proofs.YtegffliopblajaaW.PrintLast Go.Proofs.YtegffliopblajaaW.PrintMore
attribute [local go_sem] max2_int min2_int max_two min_two max_three min_three max_four min_four
set_option linter.unusedVariables false
set_option linter.unusedSimpArgs false
mutual
def pianolaref03_Passes.l0 : Nat → List Int → Int → Int → List (S52) → Option (List Int × Int × Int)
  | 0, _, _, _, _ => none
  | k + 1, x6, x7, x161000, x161001 => if x7 < (x161001.length : Int) then (if x6.length < 17592186044416 then (pianolaref03_Passes.l0 k (x6 ++ [(-1)]) (wrap64 (x7 + 1)) x161000 x161001) else (none)) else (pianolaref03_Passes.l1 k x6 0 x161000 x161001)
def pianolaref03_Passes.l1 : Nat → List Int → Int → Int → List (S52) → Option (List Int × Int × Int)
  | 0, _, _, _, _ => none
  | k + 1, x6, x8, x161000, x161001 => if x8 < (x6.length : Int) then (pianolaref03_Passes.l2 k x6 x8 (-1) 0 x161000 x161001) else ((pianolaref03_passes.f k x6).bind fun t165 => (some (x6, t165, 0)))
def pianolaref03_Passes.l2 : Nat → List Int → Int → Int → Int → Int → List (S52) → Option (List Int × Int × Int)
  | 0, _, _, _, _, _, _ => none
  | k + 1, x6, x8, x9, x10, x161000, x161001 => if x10 < (x6.length : Int) then (if 0 ≤ x10 then (if (rd x6 x10) < 0 then (if x9 < 0 then (pianolaref03_Passes.l2 k x6 x8 x10 (wrap64 (x10 + 1)) x161000 x161001) else (if x10 < (x161001.length : Int) then (if 0 ≤ x9 then (if x9 < (x161001.length : Int) then (if ((rd_T52 x161001 x10).f0) < ((rd_T52 x161001 x9).f0) then (pianolaref03_Passes.l2 k x6 x8 x10 (wrap64 (x10 + 1)) x161000 x161001) else (pianolaref03_Passes.l2 k x6 x8 x9 (wrap64 (x10 + 1)) x161000 x161001)) else (none)) else (none)) else (none))) else (pianolaref03_Passes.l2 k x6 x8 x9 (wrap64 (x10 + 1)) x161000 x161001)) else (none)) else (if 0 ≤ x9 then (if x9 < (x161001.length : Int) then ((pianolaref03_smallest.f k x161000 x161001 x6 ((rd_T52 x161001 x9).f0) ((rd_T52 x161001 x9).f1)).bind fun t170 => (if x9 < (x6.length : Int) then (pianolaref03_Passes.l1 k (x6.set (x9 : Int).toNat t170) (wrap64 (x8 + 1)) x161000 x161001) else (none))) else (none)) else (none))
end
def pianolaref03_Passes.f (k : Nat) (a0_0 : Int) (l0_1 : List (S52)) : Option (List Int × Int × Int) := (pianolaref03_Check.f k a0_0 l0_1).bind fun t161 => (if t161 = 0 then (pianolaref03_Passes.l0 k ([] : List Int) 0 a0_0 l0_1) else (some (([] : List Int), 0, t161)))
def pianolaref03_Passes.T16 : Bool × List (List Nat × List Nat) := (true, [([], []), ([], []), ([0, 1], [0, 1]), ([2], [2]), ([3], [3]), ([4], [4]), ([5], [5]), ([6, 5], [5, 6]), ([7, 5, 5], [5, 7]), ([8], [8]), ([9, 8], [8, 9]), ([8], [8]), ([10, 11, 8], [8, 10, 11]), ([12, 8], [8, 12]), ([13, 8], [8, 13]), ([8], [8]), ([15, 8], [8, 15]), ([8], [8]), ([16, 17, 8], [8, 16, 17]), ([18, 8], [8, 18]), ([19, 8], [8, 19]), ([14, 20, 8], [8, 14, 20]), ([8, 21, 5], [5, 8, 21]), ([5, 22], [5, 22])])
def pianolaref03_Passes.B16 : List Nat := [0, 0, 3, 7, 15, 31, 63, 127, 255, 511, 1023, 511, 4095, 8191, 16383, 511, 33279, 511, 229887, 492031, 1016319, 2097151, 4194303, 8388607]
theorem pianolaref03_Passes.tab16 : rtab .any (opsOf Try.f23 16) = pianolaref03_Passes.T16 := by kernel_rfl
theorem pianolaref03_Passes.bits16 : waitsOk pianolaref03_Passes.T16.2 pianolaref03_Passes.B16 = true := by kernel_rfl
def pianolaref03_Passes.T18 : Bool × List (List Nat × List Nat) := (true, [([], []), ([], []), ([], []), ([], []), ([], []), ([4], [4]), ([], []), ([5, 6], [5, 6]), ([7], [7]), ([2, 3, 8], [2, 3, 8]), ([0, 1, 0, 1, 2, 3, 4, 5, 6, 7, 8, 9], [0, 1]), ([10, 9, 9, 0, 1, 2, 3, 4, 5, 6, 7, 8, 9], [9, 10])])
def pianolaref03_Passes.B18 : List Nat := [0, 0, 0, 0, 0, 16, 0, 112, 240, 508, 1023, 2047]
theorem pianolaref03_Passes.tab18 : rtab .any (opsOf Try.f23 18) = pianolaref03_Passes.T18 := by kernel_rfl
theorem pianolaref03_Passes.bits18 : waitsOk pianolaref03_Passes.T18.2 pianolaref03_Passes.B18 = true := by kernel_rfl
set_option maxHeartbeats 8000000 in
set_option maxRecDepth 100000 in
theorem pianolaref03_Passes.calls (k : Nat) (a0_0 : Int) (A0_1 : Option Addr) (c0_1 : Nat) (l0_1 : List (S52)) (r1 : List Int) (r2 : Int) (r3 : Int) (w : World) (hr0_1 : Kd.C k52 w A0_1 l0_1.length l0_1) (hc0_1 : l0_1.length ≤ c0_1) (h : pianolaref03_Passes.f k a0_0 l0_1 = some (r1, r2, r3)) :
  Calls Try.prog 23 #[.agg #[.int .i64 a0_0, .slice A0_1 l0_1.length c0_1]] w fun e w' => ∃ v0_ : Value, e = .returned (.tuple #[v0_, .int .i64 r2, .int .i64 r3]) ∧ Kd.R (Kd.int .i64) 3 w' w.heap.size (fun _ => True) v0_ r1 ∧ Below w.heap.size w w' := by
 have hu33 := Try.underlying33
 have hu52 := Try.underlying52
 have HR0_1 := zA hr0_1
 have HC0_1 := zA hc0_1
 clear hr0_1 hc0_1
 have HB := zA (Below.refl w.heap.size w)
 have H : ((pianolaref03_Check.f k a0_0 l0_1).bind fun t161 => (if t161 = 0 then (pianolaref03_Passes.l0 k ([] : List Int) 0 a0_0 l0_1) else (some (([] : List Int), 0, t161)))) = some (r1, r2, r3) := h
 clear h
 replace H := Option.bind_eq_some_iff.mp H
 obtain ⟨t161, A20, H⟩ := H
 replace H : (if t161 = 0 then (pianolaref03_Passes.l0 k ([] : List Int) 0 a0_0 l0_1) else (some (([] : List Int), 0, t161))) = some (r1, r2, r3) := H
 have A2 := zA A20
 clear A20
 by_cases c3 : t161 = 0
 ·
  rw [if_pos c3] at H
  have c3b0 : (t161 == 0) = true := beq_iff_eq.mpr c3
  have c3b1 : (t161 != 0) = false := bne_eq_false_iff_eq.mpr c3
  clear c3
  have H' := zA H
  clear H
  go_enter Try.func23, Try.ntmps23
  go_wp2_with (first | ((with_reducible refine gate_dst (N := 1) rfl ?_); refine box_event ?hg (N := 1) ?hd (cs := #[.int .i64 a0_0, .slice A0_1 l0_1.length c0_1]) (t := 33) ?hr ?_; (case hd => rfl); (case hg => rfl); (case hr => first | (go_simp; done) | (go_simp; rfl)); intro gb160 hg w4 hbox hb; have n0_ := zA (below_step (zqA HB.out) hb); have n1_ := zA (hbox); have n2_ := zA ((by rw [hg]; exact (below_size (zqA HB.out)) : w.heap.size ≤ gb160)); have n3_ := zA ((by rw [hg]; exact (below_size (zqA HB.out)) : w.heap.size ≤ gb160)); clear HB; have HB := n0_; have BK160 := n1_; have GW160 := n2_; have GE160 := n3_; clear n0_ n1_ n2_ n3_; clear hb hbox hg; have hcz5_0 : w4.cell? ⟨gb160, 0, none⟩ = some (.int .i64 a0_0) := (blk_cell BK160.out 0).trans rfl; have hcz5_1 : w4.cell? ⟨gb160, 1, none⟩ = some (.slice A0_1 l0_1.length c0_1) := (blk_cell BK160.out 1).trans rfl; have hfz5_0 := blk_frozen BK160.out 0; have hfz5_1 := blk_frozen BK160.out 1) | ((with_reducible refine gate_callee (f := 21) rfl ?_); refine goesL_ (some 12) rfl rfl Try.func21 (by kernel_rfl) rfl #[.agg #[.int .i64 a0_0, .slice A0_1 l0_1.length c0_1]] rfl zqE ?_; (with_reducible refine (pianolaref03_Check.calls k a0_0 _ _ l0_1 t161 _ ?side1 ?side2 A2.out).mono ?_); (case side1 => exact zqK (Kd.C_below HR0_1.out HB.out)); (case side2 => exact HC0_1.out); rintro e w6 ⟨rfl, hb⟩; refine ⟨_, rfl, ?_⟩; have n0_ := zA (blk_below (g := gb160) (o := .cells #[.int .i64 a0_0, .slice A0_1 l0_1.length c0_1] 33 (0, 0)) (zqB BK160.out) hb); have n1_ := zA (below_step (zqG HB.out GE160.out) hb); clear BK160; clear HB; have BK160 := n0_; have HB := n1_; clear n0_ n1_; (try clear hb); (try clear hb2); (try clear hk); (try clear hi)))
  go_loopg [6, 7] k (fun kq v6 v7 w' => ∃ (x6_1 : List Int) (x7_1 : Int), v7 = .int .i64 x7_1 ∧ Aside0 (pianolaref03_Passes.l0 kq x6_1 x7_1 a0_0 l0_1 = some (r1, r2, r3)) ∧ Aside0 (kq ≤ k) ∧ Aside0 (Kd.R (Kd.int .i64) 3 w' w.heap.size (fun _ => True) v6 x6_1) ∧ Aside0 (w'.heap[gb160]? = some (.cells #[.int .i64 a0_0, (.slice A0_1 l0_1.length c0_1)] 33 (0, 0))) ∧ Aside0 (Below w.heap.size w w'))
  case atStart => exact ⟨(([] : List Int)), (0), zqQ, H', ⟨Nat.le_refl _⟩, ⟨by first | exact Kd.R_nil _ _ _ _ _ | exact Kd.N_nil _ _ _ _ _ | exact Kd.V_nil _ _ _ _ _ | exact Kd.Q_nil _ _ _ _ _ | exact Kd.S_nil _ _ _ _ _⟩, ⟨zqB BK160.out⟩, ⟨zqG HB.out GE160.out⟩⟩
  case round =>
   clear H'
   try clear c2
   try clear p2
   try clear c3
   try clear c3b0
   try clear c3b1
   try clear hcz5_0
   try clear hcz5_1
   try clear hfz5_0
   try clear hfz5_1
   obtain ⟨x6_1, x7_1, rfl, HA, HK1, HO_6, BK160, HB⟩ := hrel
   cases gk with
   | zero => exact absurd HA.out (by simp [pianolaref03_Passes.l0])
   | succ k1 =>
    have H := HA.out
    clear HA
    simp only [pianolaref03_Passes.l0] at H
    by_cases c7 : x7_1 < (l0_1.length : Int)
    ·
     rw [if_pos c7] at H
     have c7b0 : decide (x7_1 < (l0_1.length : Int)) = true := decide_eq_true c7
     clear c7
     by_cases c8 : x6_1.length < 17592186044416
     ·
      rw [if_pos c8] at H
      have LMc8 := zA c8
      clear c8
      obtain ⟨y162, hy162⟩ : ∃ y_ : List Int, y_ = (x6_1 ++ [(-1)]) := ⟨_, rfl⟩
      replace H : (pianolaref03_Passes.l0 k1 y162 (wrap64 (x7_1 + 1)) a0_0 l0_1) = some (r1, r2, r3) := zqF hy162 H
      have Ny162 := zA hy162
      clear hy162
      have H' := zA H
      clear H
      have hcz9_0 : wr.cell? ⟨gb160, 0, none⟩ = some (.int .i64 a0_0) := (blk_cell BK160.out 0).trans rfl
      have hcz9_1 : wr.cell? ⟨gb160, 1, none⟩ = some (.slice A0_1 l0_1.length c0_1) := (blk_cell BK160.out 1).trans rfl
      have hfz9_0 := blk_frozen BK160.out 0
      have hfz9_1 := blk_frozen BK160.out 1
      go_wp2_with (first | ((with_reducible refine gate_builtin (b := .append) (xs := #[.tmp 23, .tmp 24]) rfl ?_); at_builtin; refine Kd.R_append (Kd.int .i64) (w0 := w) w.heap.size rfl (.tmp 23) (.tmp 24) 26 3 (.int .i64 0) 8 rfl Try.underlying26 info3 rfl (by decide) (by omega) u6 x6_1 (-1) [.int .i64 (-1)] (fun _ => True) (fun _ => False) rfl rfl ?aP (fun _ hk => hk.elim) ?aF ?aO ?aB ?aS ?aL ?_; (case aP => exact rfl); (case aB => exact (zqG HB.out GE160.out)); (case aF => exact (fun _ _ => trivial)); (case aO => exact (zqC HO_6.out)); (case aS => exact (below_size (zqG HB.out GE160.out))); (case aL => have := LMc8.out; omega); intro v163 w10 ho hb hg hat; rw [← Ny162.out] at ho; have n0_ := zA (blk_grown (g := gb160) (o := .cells #[.int .i64 a0_0, .slice A0_1 l0_1.length c0_1] 33 (0, 0)) (zqB BK160.out) hg (Kd.R_ne HO_6.out BK160.out (by decide))); have n1_ := zA (hb); have n2_ := zA (ho); clear BK160; clear HB; clear HO_6; have BK160 := n0_; have HB := n1_; have HO164 := n2_; clear n0_ n1_ n2_; clear ho hb hg hat))
      go_roundg k1
      case measure => have := HK1.out; omega
      case rel => exact ⟨(y162), (wrap64 (x7_1 + 1)), zqQ, H', ⟨by have := HK1.out; omega⟩, ⟨zqC HO164.out⟩, ⟨zqB BK160.out⟩, ⟨zqG HB.out GE160.out⟩⟩
     ·
      rw [if_neg c8] at H
      exact absurd H (by simp)
    ·
     rw [if_neg c7] at H
     have c7b0 : decide (x7_1 < (l0_1.length : Int)) = false := decide_eq_false c7
     clear c7
     have H' := zA H
     clear H
     have hcz11_0 : wr.cell? ⟨gb160, 0, none⟩ = some (.int .i64 a0_0) := (blk_cell BK160.out 0).trans rfl
     have hcz11_1 : wr.cell? ⟨gb160, 1, none⟩ = some (.slice A0_1 l0_1.length c0_1) := (blk_cell BK160.out 1).trans rfl
     have hfz11_0 := blk_frozen BK160.out 0
     have hfz11_1 := blk_frozen BK160.out 1
     go_wp2
     go_loopg [8] k1 (fun kq v8 w' => ∃ (x6_2 : List Int) (x8_2 : Int), v8 = .int .i64 x8_2 ∧ Aside0 (pianolaref03_Passes.l1 kq x6_2 x8_2 a0_0 l0_1 = some (r1, r2, r3)) ∧ Aside0 (kq ≤ k1) ∧ Aside0 (Kd.R (Kd.int .i64) 3 w' w.heap.size (fun _ => True) u6 x6_2) ∧ Aside0 (w'.heap[gb160]? = some (.cells #[.int .i64 a0_0, (.slice A0_1 l0_1.length c0_1)] 33 (0, 0))) ∧ Aside0 (Below w.heap.size w w'))
     case atStart => exact ⟨(x6_1), (0), zqQ, H', ⟨Nat.le_refl _⟩, ⟨zqC HO_6.out⟩, ⟨zqB BK160.out⟩, ⟨zqG HB.out GE160.out⟩⟩
     case round =>
      clear H'
      try clear c2
      try clear p2
      try clear c3
      try clear c3b0
      try clear c3b1
      try clear p6
      try clear c7
      try clear c7b0
      try clear c8
      try clear hcz11_0
      try clear hcz11_1
      try clear hcz5_0
      try clear hcz5_1
      try clear hcz9_0
      try clear hcz9_1
      try clear hfz11_0
      try clear hfz11_1
      try clear hfz5_0
      try clear hfz5_1
      try clear hfz9_0
      try clear hfz9_1
      try clear p2
      obtain ⟨x6_2, x8_2, rfl, HA, HK2, HO_6, BK160, HB⟩ := hrel
      cases gk with
      | zero => exact absurd HA.out (by simp [pianolaref03_Passes.l1])
      | succ k2 =>
       have H := HA.out
       clear HA
       simp only [pianolaref03_Passes.l1] at H
       by_cases c12 : x8_2 < (x6_2.length : Int)
       ·
        rw [if_pos c12] at H
        have c12b0 : decide (x8_2 < (x6_2.length : Int)) = true := decide_eq_true c12
        clear c12
        have H' := zA H
        clear H
        obtain ⟨Ao13, co13, eo13⟩ := Kd.R_slice HO_6.out
        subst eo13
        go_wp2
        go_loopg [9, 10] k2 (fun kq v9 v10 w' => ∃ (x9_3 : Int) (x10_3 : Int), v9 = .int .i64 x9_3 ∧ v10 = .int .i64 x10_3 ∧ Aside0 (pianolaref03_Passes.l2 kq x6_2 x8_2 x9_3 x10_3 a0_0 l0_1 = some (r1, r2, r3)) ∧ Aside0 (kq ≤ k2) ∧ Aside0 (Kd.R (Kd.int .i64) 3 w' w.heap.size (fun _ => True) (.slice Ao13 x6_2.length co13) x6_2) ∧ Aside0 (w'.heap[gb160]? = some (.cells #[.int .i64 a0_0, (.slice A0_1 l0_1.length c0_1)] 33 (0, 0))) ∧ Aside0 (Below w.heap.size w w'))
        case atStart => exact ⟨((-1)), (0), zqQ, zqQ, H', ⟨Nat.le_refl _⟩, ⟨zqC HO_6.out⟩, ⟨zqB BK160.out⟩, ⟨zqG HB.out GE160.out⟩⟩
        case round =>
         clear H'
         try clear c1
         try clear c2
         try clear p2
         try clear c3
         try clear c3b0
         try clear c3b1
         try clear p6
         try clear c7
         try clear c7b0
         try clear c8
         try clear c12
         try clear c12b0
         try clear hcz11_0
         try clear hcz11_1
         try clear hcz5_0
         try clear hcz5_1
         try clear hcz9_0
         try clear hcz9_1
         try clear hfz11_0
         try clear hfz11_1
         try clear hfz5_0
         try clear hfz5_1
         try clear hfz9_0
         try clear hfz9_1
         try clear p2
         try clear p6
         obtain ⟨x9_3, x10_3, rfl, rfl, HA, HK3, HO_6, BK160, HB⟩ := hrel
         cases gk with
         | zero => exact absurd HA.out (by simp [pianolaref03_Passes.l2])
         | succ k3 =>
          have H := HA.out
          clear HA
          simp only [pianolaref03_Passes.l2] at H
          by_cases c14 : x10_3 < (x6_2.length : Int)
          ·
           rw [if_pos c14] at H
           have c14b0 : decide (x10_3 < (x6_2.length : Int)) = true := decide_eq_true c14
           clear c14
           by_cases c15 : 0 ≤ x10_3
           ·
            rw [if_pos c15] at H
            have c15b0 : decide (0 ≤ x10_3) = true := decide_eq_true c15
            clear c15
            by_cases c16 : (rd x6_2 x10_3) < 0
            ·
             rw [if_pos c16] at H
             have c16b0 : decide ((rd x6_2 x10_3) < 0) = true := decide_eq_true c16
             clear c16
             by_cases c17 : x9_3 < 0
             ·
              rw [if_pos c17] at H
              have c17b0 : decide (x9_3 < 0) = true := decide_eq_true c17
              clear c17
              have H' := zA H
              clear H
              try go_wp2
              have n0_ := zA (Kd.R_drew HO_6.out); have n1_ := zA (blk_drew BK160.out); have n2_ := zA (below_drew1 HB.out); clear HO_6 BK160 HB; have HO_6 := n0_; have BK160 := n1_; have HB := n2_; clear n0_ n1_ n2_
              have p166 : 0 ≤ (x10_3 : Int) := of_decide_eq_true (zqD)
              have q166 : x10_3 < (x6_2.length : Int) := of_decide_eq_true (zqD)
              obtain ⟨ad166, e166, hx166_0⟩ := Kd.at_int (Kd.R_reads' HO_6.out).2.2 x10_3 p166 q166
              cases e166; replace p166 := eq_true p166; replace q166 := eq_true q166
              refine start_ (n := 24) (S := fun w' => w'.cell? (ad166.add (x10_3).toNat) = some (.int .i64 (rd x6_2 x10_3))) (ds := []) #[false, false, false, false, false, false, false, false, false, false, false, false, false, false, false, false, false, false, false, false, false, false, false, false] (by kernel_rfl) rfl rfl (hx166_0) (fun hHeld => ?_); refine with_tabW pianolaref03_Passes.tab16 pianolaref03_Passes.bits16 (fun HT_ HW_ => ?_)
              generalize wr.drew = w18 at HO_6 BK160 HB hx166_0 hHeld ⊢
              refine pure_ (i := 0) (N := some 38) (v := ?_) (a' := ?_) #[true, false, false, false, false, false, false, false, false, false, false, false, false, false, false, false, false, false, false, false, false, false, false, false] rfl rfl (any_of HT_.out (by kernel_rfl)) (fun _ _ _ h => h) (Or.inl ⟨by rfl, ?_⟩) ?_ ?_
              rotate_left
              ·
               intro w'
               go_simp
               with_reducible rfl
              rotate_left
              · simp only [Act.put, setIfInBounds_toArray, set_cons_zero, set_cons_succ, i64_w, i32_w]; rfl
              refine pure_ (i := 1) (N := some 39) (v := ?_) (a' := ?_) #[true, true, false, false, false, false, false, false, false, false, false, false, false, false, false, false, false, false, false, false, false, false, false, false] rfl rfl (any_of HT_.out (by kernel_rfl)) (fun _ _ _ h => h) (Or.inl ⟨by rfl, ?_⟩) ?_ ?_
              rotate_left
              ·
               intro w'
               go_simp
               with_reducible rfl
              rotate_left
              · simp only [Act.put, setIfInBounds_toArray, set_cons_zero, set_cons_succ, i64_w, i32_w]; rfl
              refine pure_ (i := 2) (N := some 40) (v := ?_) (a' := ?_) #[true, true, true, false, false, false, false, false, false, false, false, false, false, false, false, false, false, false, false, false, false, false, false, false] rfl rfl (any_of HT_.out (by kernel_rfl)) (fun _ _ _ h => h) (Or.inl ⟨by rfl, ?_⟩) ?_ ?_
              rotate_left
              ·
               intro w'
               go_simp
               with_reducible rfl
              rotate_left
              · simp only [Act.put, setIfInBounds_toArray, set_cons_zero, set_cons_succ, i64_w, i32_w]; rfl
              refine take_ (i := 3) (N := some 41) (v := ?_) (a' := ?_) #[true, true, true, true, false, false, false, false, false, false, false, false, false, false, false, false, false, false, false, false, false, false, false, false] rfl rfl (take_ofW HT_.out HW_.out (by kernel_rfl)) (fun _ _ _ h => h) (Or.inl ⟨by rfl, ?_⟩) hHeld ?_ ?_
              rotate_left
              ·
               intro w' s0
               go_simp
               with_reducible rfl
              rotate_left
              · simp only [Act.put, setIfInBounds_toArray, set_cons_zero, set_cons_succ, i64_w, i32_w]; rfl
              refine pure_ (i := 4) (N := some 42) (v := ?_) (a' := ?_) #[true, true, true, true, true, false, false, false, false, false, false, false, false, false, false, false, false, false, false, false, false, false, false, false] rfl rfl (any_of HT_.out (by kernel_rfl)) (fun _ _ _ h => h) (Or.inl ⟨by rfl, ?_⟩) ?_ ?_
              rotate_left
              ·
               intro w'
               go_simp
               with_reducible rfl
              rotate_left
              · simp only [Act.put, setIfInBounds_toArray, set_cons_zero, set_cons_succ, i64_w, i32_w]; rfl
              refine pure_ (i := 5) (N := some 43) (v := ?_) (a' := ?_) #[true, true, true, true, true, true, false, false, false, false, false, false, false, false, false, false, false, false, false, false, false, false, false, false] rfl rfl (any_of HT_.out (by kernel_rfl)) (fun _ _ _ h => h) (Or.inl ⟨by rfl, ?_⟩) ?_ ?_
              rotate_left
              ·
               intro w'
               go_simp
               with_reducible rfl
              rotate_left
              · simp only [Act.put, setIfInBounds_toArray, set_cons_zero, set_cons_succ, i64_w, i32_w]; rfl
              refine pure_ (i := 6) (N := some 44) (v := ?_) (a' := ?_) #[true, true, true, true, true, true, true, false, false, false, false, false, false, false, false, false, false, false, false, false, false, false, false, false] rfl rfl (any_of HT_.out (by kernel_rfl)) (fun _ _ _ h => h) (Or.inl ⟨by rfl, ?_⟩) ?_ ?_
              rotate_left
              ·
               intro w'
               go_simp
               with_reducible rfl
              rotate_left
              · simp only [Act.put, setIfInBounds_toArray, set_cons_zero, set_cons_succ, i64_w, i32_w]; rfl
              refine pure_ (i := 7) (N := some 45) (v := ?_) (a' := ?_) #[true, true, true, true, true, true, true, true, false, false, false, false, false, false, false, false, false, false, false, false, false, false, false, false] rfl rfl (any_of HT_.out (by kernel_rfl)) (fun _ _ _ h => h) (Or.inl ⟨by rfl, ?_⟩) ?_ ?_
              rotate_left
              ·
               intro w'
               go_simp
               with_reducible rfl
              rotate_left
              · simp only [Act.put, setIfInBounds_toArray, set_cons_zero, set_cons_succ, i64_w, i32_w]; rfl
              refine pure_ (i := 8) (N := some 46) (v := ?_) (a' := ?_) #[true, true, true, true, true, true, true, true, true, false, false, false, false, false, false, false, false, false, false, false, false, false, false, false] rfl rfl (any_of HT_.out (by kernel_rfl)) (fun _ _ _ h => h) (Or.inl ⟨by rfl, ?_⟩) ?_ ?_
              rotate_left
              ·
               intro w'
               go_simp
               with_reducible rfl
              rotate_left
              · simp only [Act.put, setIfInBounds_toArray, set_cons_zero, set_cons_succ, i64_w, i32_w]; rfl
              refine pure_ (i := 9) (N := some 47) (v := undef) (a' := ?_) #[true, true, true, true, true, true, true, true, true, true, false, false, false, false, false, false, false, false, false, false, false, false, false, false] rfl rfl (any_of HT_.out (by kernel_rfl)) (fun _ _ _ h => h) (Or.inr ⟨by rfl, rfl⟩) ?_ ?_
              rotate_left
              · simp only [Act.put, setIfInBounds_toArray, set_cons_zero, set_cons_succ, i64_w, i32_w]; rfl
              refine pure_ (i := 10) (N := some 48) (v := undef) (a' := ?_) #[true, true, true, true, true, true, true, true, true, true, true, false, false, false, false, false, false, false, false, false, false, false, false, false] rfl rfl (any_of HT_.out (by kernel_rfl)) (fun _ _ _ h => h) (Or.inr ⟨by rfl, rfl⟩) ?_ ?_
              rotate_left
              · simp only [Act.put, setIfInBounds_toArray, set_cons_zero, set_cons_succ, i64_w, i32_w]; rfl
              refine pure_ (i := 11) (N := some 49) (v := undef) (a' := ?_) #[true, true, true, true, true, true, true, true, true, true, true, true, false, false, false, false, false, false, false, false, false, false, false, false] rfl rfl (any_of HT_.out (by kernel_rfl)) (fun _ _ _ h => h) (Or.inr ⟨by rfl, rfl⟩) ?_ ?_
              rotate_left
              · simp only [Act.put, setIfInBounds_toArray, set_cons_zero, set_cons_succ, i64_w, i32_w]; rfl
              refine pure_ (i := 12) (N := some 50) (v := undef) (a' := ?_) #[true, true, true, true, true, true, true, true, true, true, true, true, true, false, false, false, false, false, false, false, false, false, false, false] rfl rfl (any_of HT_.out (by kernel_rfl)) (fun _ _ _ h => h) (Or.inr ⟨by rfl, rfl⟩) ?_ ?_
              rotate_left
              · simp only [Act.put, setIfInBounds_toArray, set_cons_zero, set_cons_succ, i64_w, i32_w]; rfl
              refine pure_ (i := 13) (N := some 51) (v := undef) (a' := ?_) #[true, true, true, true, true, true, true, true, true, true, true, true, true, true, false, false, false, false, false, false, false, false, false, false] rfl rfl (any_of HT_.out (by kernel_rfl)) (fun _ _ _ h => h) (Or.inr ⟨by rfl, rfl⟩) ?_ ?_
              rotate_left
              · simp only [Act.put, setIfInBounds_toArray, set_cons_zero, set_cons_succ, i64_w, i32_w]; rfl
              refine pure_ (i := 14) (N := some 52) (v := undef) (a' := ?_) #[true, true, true, true, true, true, true, true, true, true, true, true, true, true, true, false, false, false, false, false, false, false, false, false] rfl rfl (any_of HT_.out (by kernel_rfl)) (fun _ _ _ h => h) (Or.inr ⟨by rfl, rfl⟩) ?_ ?_
              rotate_left
              · simp only [Act.put, setIfInBounds_toArray, set_cons_zero, set_cons_succ, i64_w, i32_w]; rfl
              refine pure_ (i := 15) (N := some 53) (v := undef) (a' := ?_) #[true, true, true, true, true, true, true, true, true, true, true, true, true, true, true, true, false, false, false, false, false, false, false, false] rfl rfl (any_of HT_.out (by kernel_rfl)) (fun _ _ _ h => h) (Or.inr ⟨by rfl, rfl⟩) ?_ ?_
              rotate_left
              · simp only [Act.put, setIfInBounds_toArray, set_cons_zero, set_cons_succ, i64_w, i32_w]; rfl
              refine pure_ (i := 16) (N := some 54) (v := undef) (a' := ?_) #[true, true, true, true, true, true, true, true, true, true, true, true, true, true, true, true, true, false, false, false, false, false, false, false] rfl rfl (any_of HT_.out (by kernel_rfl)) (fun _ _ _ h => h) (Or.inr ⟨by rfl, rfl⟩) ?_ ?_
              rotate_left
              · simp only [Act.put, setIfInBounds_toArray, set_cons_zero, set_cons_succ, i64_w, i32_w]; rfl
              refine pure_ (i := 17) (N := some 55) (v := undef) (a' := ?_) #[true, true, true, true, true, true, true, true, true, true, true, true, true, true, true, true, true, true, false, false, false, false, false, false] rfl rfl (any_of HT_.out (by kernel_rfl)) (fun _ _ _ h => h) (Or.inr ⟨by rfl, rfl⟩) ?_ ?_
              rotate_left
              · simp only [Act.put, setIfInBounds_toArray, set_cons_zero, set_cons_succ, i64_w, i32_w]; rfl
              refine pure_ (i := 18) (N := some 56) (v := undef) (a' := ?_) #[true, true, true, true, true, true, true, true, true, true, true, true, true, true, true, true, true, true, true, false, false, false, false, false] rfl rfl (any_of HT_.out (by kernel_rfl)) (fun _ _ _ h => h) (Or.inr ⟨by rfl, rfl⟩) ?_ ?_
              rotate_left
              · simp only [Act.put, setIfInBounds_toArray, set_cons_zero, set_cons_succ, i64_w, i32_w]; rfl
              refine pure_ (i := 19) (N := some 57) (v := undef) (a' := ?_) #[true, true, true, true, true, true, true, true, true, true, true, true, true, true, true, true, true, true, true, true, false, false, false, false] rfl rfl (any_of HT_.out (by kernel_rfl)) (fun _ _ _ h => h) (Or.inr ⟨by rfl, rfl⟩) ?_ ?_
              rotate_left
              · simp only [Act.put, setIfInBounds_toArray, set_cons_zero, set_cons_succ, i64_w, i32_w]; rfl
              refine pure_ (i := 20) (N := some 58) (v := undef) (a' := ?_) #[true, true, true, true, true, true, true, true, true, true, true, true, true, true, true, true, true, true, true, true, true, false, false, false] rfl rfl (any_of HT_.out (by kernel_rfl)) (fun _ _ _ h => h) (Or.inr ⟨by rfl, rfl⟩) ?_ ?_
              rotate_left
              · simp only [Act.put, setIfInBounds_toArray, set_cons_zero, set_cons_succ, i64_w, i32_w]; rfl
              refine pure_ (i := 21) (N := some 59) (v := undef) (a' := ?_) #[true, true, true, true, true, true, true, true, true, true, true, true, true, true, true, true, true, true, true, true, true, true, false, false] rfl rfl (any_of HT_.out (by kernel_rfl)) (fun _ _ _ h => h) (Or.inr ⟨by rfl, rfl⟩) ?_ ?_
              rotate_left
              · simp only [Act.put, setIfInBounds_toArray, set_cons_zero, set_cons_succ, i64_w, i32_w]; rfl
              refine pure_ (i := 22) (N := some 60) (v := ?_) (a' := ?_) #[true, true, true, true, true, true, true, true, true, true, true, true, true, true, true, true, true, true, true, true, true, true, true, false] rfl rfl (any_of HT_.out (by kernel_rfl)) (fun _ _ _ h => h) (Or.inl ⟨by rfl, ?_⟩) ?_ ?_
              rotate_left
              ·
               intro w'
               go_simp
               with_reducible rfl
              rotate_left
              · simp only [Act.put, setIfInBounds_toArray, set_cons_zero, set_cons_succ, i64_w, i32_w]; rfl
              refine pure_ (i := 23) (N := some 61) (v := ?_) (a' := ?_) #[true, true, true, true, true, true, true, true, true, true, true, true, true, true, true, true, true, true, true, true, true, true, true, true] rfl rfl (any_of HT_.out (by kernel_rfl)) (fun _ _ _ h => h) (Or.inl ⟨by rfl, ?_⟩) ?_ ?_
              rotate_left
              ·
               intro w'
               go_simp
               with_reducible rfl
              rotate_left
              · simp only [Act.put, setIfInBounds_toArray, set_cons_zero, set_cons_succ, i64_w, i32_w]; rfl
              refine done_ (done_of HT_.out (by kernel_rfl)) ?_
              try go_wp2
              go_roundg k3
              case measure => have := HK1.out; have := HK2.out; have := HK3.out; omega
              case rel => exact ⟨(x10_3), (wrap64 (x10_3 + 1)), zqQ, zqQ, H', ⟨by have := HK1.out; have := HK2.out; have := HK3.out; omega⟩, ⟨zqC HO_6.out⟩, ⟨zqB BK160.out⟩, ⟨zqG HB.out GE160.out⟩⟩
             ·
              rw [if_neg c17] at H
              have c17b0 : decide (x9_3 < 0) = false := decide_eq_false c17
              clear c17
              by_cases c19 : x10_3 < (l0_1.length : Int)
              ·
               rw [if_pos c19] at H
               have c19b0 : decide (x10_3 < (l0_1.length : Int)) = true := decide_eq_true c19
               clear c19
               by_cases c20 : 0 ≤ x9_3
               ·
                rw [if_pos c20] at H
                have c20b0 : decide (0 ≤ x9_3) = true := decide_eq_true c20
                clear c20
                by_cases c21 : x9_3 < (l0_1.length : Int)
                ·
                 rw [if_pos c21] at H
                 have c21b0 : decide (x9_3 < (l0_1.length : Int)) = true := decide_eq_true c21
                 clear c21
                 by_cases c22 : ((rd_T52 l0_1 x10_3).f0) < ((rd_T52 l0_1 x9_3).f0)
                 ·
                  rw [if_pos c22] at H
                  have c22b0 : decide (((rd_T52 l0_1 x10_3).f0) < ((rd_T52 l0_1 x9_3).f0)) = true := decide_eq_true c22
                  clear c22
                  have H' := zA H
                  clear H
                  try go_wp2
                  have n0_ := zA (Kd.R_drew HO_6.out); have n1_ := zA (blk_drew BK160.out); have n2_ := zA (below_drew1 HB.out); clear HO_6 BK160 HB; have HO_6 := n0_; have BK160 := n1_; have HB := n2_; clear n0_ n1_ n2_
                  have p166 : 0 ≤ (x10_3 : Int) := of_decide_eq_true (zqD)
                  have q166 : x10_3 < (x6_2.length : Int) := of_decide_eq_true (zqD)
                  obtain ⟨ad166, e166, hx166_0⟩ := Kd.at_int (Kd.R_reads' HO_6.out).2.2 x10_3 p166 q166
                  cases e166; replace p166 := eq_true p166; replace q166 := eq_true q166
                  have p167 : 0 ≤ (x10_3 : Int) := of_decide_eq_true (zqD)
                  have q167 : x10_3 < (l0_1.length : Int) := of_decide_eq_true (zqD)
                  obtain ⟨ad167, e167, hx167_0, hx167_1⟩ := at_T52 HR0_1.out x10_3 p167 q167
                  have hw167_1 := hx167_1; have hw167_0 := hx167_0; cases e167
                  replace hx167_0 := (HB.out.cell (World.block_lt_of_cell? w _ hx167_0)).trans hx167_0
                  replace hx167_1 := (HB.out.cell (World.block_lt_of_cell? w _ hx167_1)).trans hx167_1
                  replace p167 := eq_true p167; replace q167 := eq_true q167
                  have p168 : 0 ≤ (x9_3 : Int) := of_decide_eq_true (zqD)
                  have q168 : x9_3 < (l0_1.length : Int) := of_decide_eq_true (zqD)
                  obtain ⟨ad168, e168, hx168_0, hx168_1⟩ := at_T52 HR0_1.out x9_3 p168 q168
                  have hw168_1 := hx168_1; have hw168_0 := hx168_0
                  obtain rfl : ad167 = ad168 := (by injection e168)
                  replace hx168_0 := (HB.out.cell (World.block_lt_of_cell? w _ hx168_0)).trans hx168_0
                  replace hx168_1 := (HB.out.cell (World.block_lt_of_cell? w _ hx168_1)).trans hx168_1
                  replace p168 := eq_true p168; replace q168 := eq_true q168
                  refine start_ (n := 24) (S := fun w' => w'.cell? ⟨gb160, 0, none⟩ = some (.int .i64 a0_0) ∧ w'.cell? ⟨gb160, 1, none⟩ = some (.slice (some ad167) l0_1.length c0_1) ∧ w'.cell? (ad166.add (x10_3).toNat) = some (.int .i64 (rd x6_2 x10_3)) ∧ w'.cell? (ad167.add ((x10_3).toNat * 2)) = some (.int .i64 ((rd_T52 l0_1 x10_3).f0)) ∧ w'.cell? ⟨(ad167.add ((x10_3).toNat * 2)).block, (ad167.add ((x10_3).toNat * 2)).off + 1, none⟩ = some (.int .i64 ((rd_T52 l0_1 x10_3).f1)) ∧ w'.cell? (ad167.add ((x9_3).toNat * 2)) = some (.int .i64 ((rd_T52 l0_1 x9_3).f0)) ∧ w'.cell? ⟨(ad167.add ((x9_3).toNat * 2)).block, (ad167.add ((x9_3).toNat * 2)).off + 1, none⟩ = some (.int .i64 ((rd_T52 l0_1 x9_3).f1))) (ds := []) #[false, false, false, false, false, false, false, false, false, false, false, false, false, false, false, false, false, false, false, false, false, false, false, false] (by kernel_rfl) rfl rfl ⟨(blk_cell BK160.out 0).trans rfl, (blk_cell BK160.out 1).trans rfl, hx166_0, ((HB.out.cell (World.block_lt_of_cell? w _ hw167_0)).trans hw167_0), ((HB.out.cell (World.block_lt_of_cell? w _ hw167_1)).trans hw167_1), ((HB.out.cell (World.block_lt_of_cell? w _ hw168_0)).trans hw168_0), ((HB.out.cell (World.block_lt_of_cell? w _ hw168_1)).trans hw168_1)⟩ (fun hHeld => ?_); refine with_tabW pianolaref03_Passes.tab16 pianolaref03_Passes.bits16 (fun HT_ HW_ => ?_)
                  generalize wr.drew = w23 at HO_6 BK160 HB hx166_0 hx167_0 hx167_1 hx168_0 hx168_1 hHeld ⊢
                  refine pure_ (i := 0) (N := some 38) (v := ?_) (a' := ?_) #[true, false, false, false, false, false, false, false, false, false, false, false, false, false, false, false, false, false, false, false, false, false, false, false] rfl rfl (any_of HT_.out (by kernel_rfl)) (fun _ _ _ h => h) (Or.inl ⟨by rfl, ?_⟩) ?_ ?_
                  rotate_left
                  ·
                   intro w'
                   go_simp
                   with_reducible rfl
                  rotate_left
                  · simp only [Act.put, setIfInBounds_toArray, set_cons_zero, set_cons_succ, i64_w, i32_w]; rfl
                  refine pure_ (i := 1) (N := some 39) (v := ?_) (a' := ?_) #[true, true, false, false, false, false, false, false, false, false, false, false, false, false, false, false, false, false, false, false, false, false, false, false] rfl rfl (any_of HT_.out (by kernel_rfl)) (fun _ _ _ h => h) (Or.inl ⟨by rfl, ?_⟩) ?_ ?_
                  rotate_left
                  ·
                   intro w'
                   go_simp
                   with_reducible rfl
                  rotate_left
                  · simp only [Act.put, setIfInBounds_toArray, set_cons_zero, set_cons_succ, i64_w, i32_w]; rfl
                  refine pure_ (i := 2) (N := some 40) (v := ?_) (a' := ?_) #[true, true, true, false, false, false, false, false, false, false, false, false, false, false, false, false, false, false, false, false, false, false, false, false] rfl rfl (any_of HT_.out (by kernel_rfl)) (fun _ _ _ h => h) (Or.inl ⟨by rfl, ?_⟩) ?_ ?_
                  rotate_left
                  ·
                   intro w'
                   go_simp
                   with_reducible rfl
                  rotate_left
                  · simp only [Act.put, setIfInBounds_toArray, set_cons_zero, set_cons_succ, i64_w, i32_w]; rfl
                  refine take_ (i := 3) (N := some 41) (v := ?_) (a' := ?_) #[true, true, true, true, false, false, false, false, false, false, false, false, false, false, false, false, false, false, false, false, false, false, false, false] rfl rfl (take_ofW HT_.out HW_.out (by kernel_rfl)) (fun _ _ _ h => h) (Or.inl ⟨by rfl, ?_⟩) hHeld ?_ ?_
                  rotate_left
                  ·
                   rintro w' ⟨s0, s1, s2, s3, s4, s5, s6⟩
                   go_simp
                   with_reducible rfl
                  rotate_left
                  · simp only [Act.put, setIfInBounds_toArray, set_cons_zero, set_cons_succ, i64_w, i32_w]; rfl
                  refine pure_ (i := 4) (N := some 42) (v := ?_) (a' := ?_) #[true, true, true, true, true, false, false, false, false, false, false, false, false, false, false, false, false, false, false, false, false, false, false, false] rfl rfl (any_of HT_.out (by kernel_rfl)) (fun _ _ _ h => h) (Or.inl ⟨by rfl, ?_⟩) ?_ ?_
                  rotate_left
                  ·
                   intro w'
                   go_simp
                   with_reducible rfl
                  rotate_left
                  · simp only [Act.put, setIfInBounds_toArray, set_cons_zero, set_cons_succ, i64_w, i32_w]; rfl
                  refine pure_ (i := 5) (N := some 43) (v := ?_) (a' := ?_) #[true, true, true, true, true, true, false, false, false, false, false, false, false, false, false, false, false, false, false, false, false, false, false, false] rfl rfl (any_of HT_.out (by kernel_rfl)) (fun _ _ _ h => h) (Or.inl ⟨by rfl, ?_⟩) ?_ ?_
                  rotate_left
                  ·
                   intro w'
                   go_simp
                   with_reducible rfl
                  rotate_left
                  · simp only [Act.put, setIfInBounds_toArray, set_cons_zero, set_cons_succ, i64_w, i32_w]; rfl
                  refine pure_ (i := 6) (N := some 44) (v := ?_) (a' := ?_) #[true, true, true, true, true, true, true, false, false, false, false, false, false, false, false, false, false, false, false, false, false, false, false, false] rfl rfl (any_of HT_.out (by kernel_rfl)) (fun _ _ _ h => h) (Or.inl ⟨by rfl, ?_⟩) ?_ ?_
                  rotate_left
                  ·
                   intro w'
                   go_simp
                   with_reducible rfl
                  rotate_left
                  · simp only [Act.put, setIfInBounds_toArray, set_cons_zero, set_cons_succ, i64_w, i32_w]; rfl
                  refine pure_ (i := 7) (N := some 45) (v := ?_) (a' := ?_) #[true, true, true, true, true, true, true, true, false, false, false, false, false, false, false, false, false, false, false, false, false, false, false, false] rfl rfl (any_of HT_.out (by kernel_rfl)) (fun _ _ _ h => h) (Or.inl ⟨by rfl, ?_⟩) ?_ ?_
                  rotate_left
                  ·
                   intro w'
                   go_simp
                   with_reducible rfl
                  rotate_left
                  · simp only [Act.put, setIfInBounds_toArray, set_cons_zero, set_cons_succ, i64_w, i32_w]; rfl
                  refine pure_ (i := 8) (N := some 46) (v := ?_) (a' := ?_) #[true, true, true, true, true, true, true, true, true, false, false, false, false, false, false, false, false, false, false, false, false, false, false, false] rfl rfl (any_of HT_.out (by kernel_rfl)) (fun _ _ _ h => h) (Or.inl ⟨by rfl, ?_⟩) ?_ ?_
                  rotate_left
                  ·
                   intro w'
                   go_simp
                   with_reducible rfl
                  rotate_left
                  · simp only [Act.put, setIfInBounds_toArray, set_cons_zero, set_cons_succ, i64_w, i32_w]; rfl
                  refine pure_ (i := 9) (N := some 47) (v := ?_) (a' := ?_) #[true, true, true, true, true, true, true, true, true, true, false, false, false, false, false, false, false, false, false, false, false, false, false, false] rfl rfl (any_of HT_.out (by kernel_rfl)) (fun _ _ _ h => h) (Or.inl ⟨by rfl, ?_⟩) ?_ ?_
                  rotate_left
                  ·
                   intro w'
                   go_simp
                   with_reducible rfl
                  rotate_left
                  · simp only [Act.put, setIfInBounds_toArray, set_cons_zero, set_cons_succ, i64_w, i32_w]; rfl
                  refine pure_ (i := 11) (N := some 49) (v := ?_) (a' := ?_) #[true, true, true, true, true, true, true, true, true, true, false, true, false, false, false, false, false, false, false, false, false, false, false, false] rfl rfl (any_of HT_.out (by kernel_rfl)) (fun _ _ _ h => h) (Or.inl ⟨by rfl, ?_⟩) ?_ ?_
                  rotate_left
                  ·
                   intro w'
                   go_simp
                   with_reducible rfl
                  rotate_left
                  · simp only [Act.put, setIfInBounds_toArray, set_cons_zero, set_cons_succ, i64_w, i32_w]; rfl
                  refine pure_ (i := 15) (N := some 53) (v := ?_) (a' := ?_) #[true, true, true, true, true, true, true, true, true, true, false, true, false, false, false, true, false, false, false, false, false, false, false, false] rfl rfl (any_of HT_.out (by kernel_rfl)) (fun _ _ _ h => h) (Or.inl ⟨by rfl, ?_⟩) ?_ ?_
                  rotate_left
                  ·
                   intro w'
                   go_simp
                   with_reducible rfl
                  rotate_left
                  · simp only [Act.put, setIfInBounds_toArray, set_cons_zero, set_cons_succ, i64_w, i32_w]; rfl
                  refine pure_ (i := 17) (N := some 55) (v := ?_) (a' := ?_) #[true, true, true, true, true, true, true, true, true, true, false, true, false, false, false, true, false, true, false, false, false, false, false, false] rfl rfl (any_of HT_.out (by kernel_rfl)) (fun _ _ _ h => h) (Or.inl ⟨by rfl, ?_⟩) ?_ ?_
                  rotate_left
                  ·
                   intro w'
                   go_simp
                   with_reducible rfl
                  rotate_left
                  · simp only [Act.put, setIfInBounds_toArray, set_cons_zero, set_cons_succ, i64_w, i32_w]; rfl
                  refine take_ (i := 10) (N := some 48) (v := ?_) (a' := ?_) #[true, true, true, true, true, true, true, true, true, true, true, true, false, false, false, true, false, true, false, false, false, false, false, false] rfl rfl (take_ofW HT_.out HW_.out (by kernel_rfl)) (fun _ _ _ h => h) (Or.inl ⟨by rfl, ?_⟩) hHeld ?_ ?_
                  rotate_left
                  ·
                   rintro w' ⟨s0, s1, s2, s3, s4, s5, s6⟩
                   go_simp
                   with_reducible rfl
                  rotate_left
                  · simp only [Act.put, setIfInBounds_toArray, set_cons_zero, set_cons_succ, i64_w, i32_w]; rfl
                  refine pure_ (i := 12) (N := some 50) (v := ?_) (a' := ?_) #[true, true, true, true, true, true, true, true, true, true, true, true, true, false, false, true, false, true, false, false, false, false, false, false] rfl rfl (any_of HT_.out (by kernel_rfl)) (fun _ _ _ h => h) (Or.inl ⟨by rfl, ?_⟩) ?_ ?_
                  rotate_left
                  ·
                   intro w'
                   go_simp
                   with_reducible rfl
                  rotate_left
                  · simp only [Act.put, setIfInBounds_toArray, set_cons_zero, set_cons_succ, i64_w, i32_w]; rfl
                  refine pure_ (i := 13) (N := some 51) (v := ?_) (a' := ?_) #[true, true, true, true, true, true, true, true, true, true, true, true, true, true, false, true, false, true, false, false, false, false, false, false] rfl rfl (any_of HT_.out (by kernel_rfl)) (fun _ _ _ h => h) (Or.inl ⟨by rfl, ?_⟩) ?_ ?_
                  rotate_left
                  ·
                   intro w'
                   go_simp
                   with_reducible rfl
                  rotate_left
                  · simp only [Act.put, setIfInBounds_toArray, set_cons_zero, set_cons_succ, i64_w, i32_w]; rfl
                  refine take_ (i := 14) (N := some 52) (v := ?_) (a' := ?_) #[true, true, true, true, true, true, true, true, true, true, true, true, true, true, true, true, false, true, false, false, false, false, false, false] rfl rfl (take_ofW HT_.out HW_.out (by kernel_rfl)) (fun _ _ _ h => h) (Or.inl ⟨by rfl, ?_⟩) hHeld ?_ ?_
                  rotate_left
                  ·
                   rintro w' ⟨s0, s1, s2, s3, s4, s5, s6⟩
                   go_simp
                   with_reducible rfl
                  rotate_left
                  · simp only [Act.put, setIfInBounds_toArray, set_cons_zero, set_cons_succ, i64_w, i32_w]; rfl
                  refine take_ (i := 16) (N := some 54) (v := ?_) (a' := ?_) #[true, true, true, true, true, true, true, true, true, true, true, true, true, true, true, true, true, true, false, false, false, false, false, false] rfl rfl (take_ofW HT_.out HW_.out (by kernel_rfl)) (fun _ _ _ h => h) (Or.inl ⟨by rfl, ?_⟩) hHeld ?_ ?_
                  rotate_left
                  ·
                   rintro w' ⟨s0, s1, s2, s3, s4, s5, s6⟩
                   go_simp
                   with_reducible rfl
                  rotate_left
                  · simp only [Act.put, setIfInBounds_toArray, set_cons_zero, set_cons_succ, i64_w, i32_w]; rfl
                  refine pure_ (i := 18) (N := some 56) (v := ?_) (a' := ?_) #[true, true, true, true, true, true, true, true, true, true, true, true, true, true, true, true, true, true, true, false, false, false, false, false] rfl rfl (any_of HT_.out (by kernel_rfl)) (fun _ _ _ h => h) (Or.inl ⟨by rfl, ?_⟩) ?_ ?_
                  rotate_left
                  ·
                   intro w'
                   go_simp
                   with_reducible rfl
                  rotate_left
                  · simp only [Act.put, setIfInBounds_toArray, set_cons_zero, set_cons_succ, i64_w, i32_w]; rfl
                  refine pure_ (i := 19) (N := some 57) (v := ?_) (a' := ?_) #[true, true, true, true, true, true, true, true, true, true, true, true, true, true, true, true, true, true, true, true, false, false, false, false] rfl rfl (any_of HT_.out (by kernel_rfl)) (fun _ _ _ h => h) (Or.inl ⟨by rfl, ?_⟩) ?_ ?_
                  rotate_left
                  ·
                   intro w'
                   go_simp
                   with_reducible rfl
                  rotate_left
                  · simp only [Act.put, setIfInBounds_toArray, set_cons_zero, set_cons_succ, i64_w, i32_w]; rfl
                  refine take_ (i := 20) (N := some 58) (v := ?_) (a' := ?_) #[true, true, true, true, true, true, true, true, true, true, true, true, true, true, true, true, true, true, true, true, true, false, false, false] rfl rfl (take_ofW HT_.out HW_.out (by kernel_rfl)) (fun _ _ _ h => h) (Or.inl ⟨by rfl, ?_⟩) hHeld ?_ ?_
                  rotate_left
                  ·
                   rintro w' ⟨s0, s1, s2, s3, s4, s5, s6⟩
                   go_simp
                   with_reducible rfl
                  rotate_left
                  · simp only [Act.put, setIfInBounds_toArray, set_cons_zero, set_cons_succ, i64_w, i32_w]; rfl
                  refine pure_ (i := 21) (N := some 59) (v := ?_) (a' := ?_) #[true, true, true, true, true, true, true, true, true, true, true, true, true, true, true, true, true, true, true, true, true, true, false, false] rfl rfl (any_of HT_.out (by kernel_rfl)) (fun _ _ _ h => h) (Or.inl ⟨by rfl, ?_⟩) ?_ ?_
                  rotate_left
                  ·
                   intro w'
                   go_simp
                   with_reducible rfl
                  rotate_left
                  · simp only [Act.put, setIfInBounds_toArray, set_cons_zero, set_cons_succ, i64_w, i32_w]; rfl
                  refine pure_ (i := 22) (N := some 60) (v := ?_) (a' := ?_) #[true, true, true, true, true, true, true, true, true, true, true, true, true, true, true, true, true, true, true, true, true, true, true, false] rfl rfl (any_of HT_.out (by kernel_rfl)) (fun _ _ _ h => h) (Or.inl ⟨by rfl, ?_⟩) ?_ ?_
                  rotate_left
                  ·
                   intro w'
                   go_simp
                   with_reducible rfl
                  rotate_left
                  · simp only [Act.put, setIfInBounds_toArray, set_cons_zero, set_cons_succ, i64_w, i32_w]; rfl
                  refine pure_ (i := 23) (N := some 61) (v := ?_) (a' := ?_) #[true, true, true, true, true, true, true, true, true, true, true, true, true, true, true, true, true, true, true, true, true, true, true, true] rfl rfl (any_of HT_.out (by kernel_rfl)) (fun _ _ _ h => h) (Or.inl ⟨by rfl, ?_⟩) ?_ ?_
                  rotate_left
                  ·
                   intro w'
                   go_simp
                   with_reducible rfl
                  rotate_left
                  · simp only [Act.put, setIfInBounds_toArray, set_cons_zero, set_cons_succ, i64_w, i32_w]; rfl
                  refine done_ (done_of HT_.out (by kernel_rfl)) ?_
                  try go_wp2
                  go_roundg k3
                  case measure => have := HK1.out; have := HK2.out; have := HK3.out; omega
                  case rel => exact ⟨(x10_3), (wrap64 (x10_3 + 1)), zqQ, zqQ, H', ⟨by have := HK1.out; have := HK2.out; have := HK3.out; omega⟩, ⟨zqC HO_6.out⟩, ⟨zqB BK160.out⟩, ⟨zqG HB.out GE160.out⟩⟩
                 ·
                  rw [if_neg c22] at H
                  have c22b0 : decide (((rd_T52 l0_1 x10_3).f0) < ((rd_T52 l0_1 x9_3).f0)) = false := decide_eq_false c22
                  clear c22
                  have H' := zA H
                  clear H
                  try go_wp2
                  have n0_ := zA (Kd.R_drew HO_6.out); have n1_ := zA (blk_drew BK160.out); have n2_ := zA (below_drew1 HB.out); clear HO_6 BK160 HB; have HO_6 := n0_; have BK160 := n1_; have HB := n2_; clear n0_ n1_ n2_
                  have p166 : 0 ≤ (x10_3 : Int) := of_decide_eq_true (zqD)
                  have q166 : x10_3 < (x6_2.length : Int) := of_decide_eq_true (zqD)
                  obtain ⟨ad166, e166, hx166_0⟩ := Kd.at_int (Kd.R_reads' HO_6.out).2.2 x10_3 p166 q166
                  cases e166; replace p166 := eq_true p166; replace q166 := eq_true q166
                  have p167 : 0 ≤ (x10_3 : Int) := of_decide_eq_true (zqD)
                  have q167 : x10_3 < (l0_1.length : Int) := of_decide_eq_true (zqD)
                  obtain ⟨ad167, e167, hx167_0, hx167_1⟩ := at_T52 HR0_1.out x10_3 p167 q167
                  have hw167_1 := hx167_1; have hw167_0 := hx167_0; cases e167
                  replace hx167_0 := (HB.out.cell (World.block_lt_of_cell? w _ hx167_0)).trans hx167_0
                  replace hx167_1 := (HB.out.cell (World.block_lt_of_cell? w _ hx167_1)).trans hx167_1
                  replace p167 := eq_true p167; replace q167 := eq_true q167
                  have p168 : 0 ≤ (x9_3 : Int) := of_decide_eq_true (zqD)
                  have q168 : x9_3 < (l0_1.length : Int) := of_decide_eq_true (zqD)
                  obtain ⟨ad168, e168, hx168_0, hx168_1⟩ := at_T52 HR0_1.out x9_3 p168 q168
                  have hw168_1 := hx168_1; have hw168_0 := hx168_0
                  obtain rfl : ad167 = ad168 := (by injection e168)
                  replace hx168_0 := (HB.out.cell (World.block_lt_of_cell? w _ hx168_0)).trans hx168_0
                  replace hx168_1 := (HB.out.cell (World.block_lt_of_cell? w _ hx168_1)).trans hx168_1
                  replace p168 := eq_true p168; replace q168 := eq_true q168
                  refine start_ (n := 24) (S := fun w' => w'.cell? ⟨gb160, 0, none⟩ = some (.int .i64 a0_0) ∧ w'.cell? ⟨gb160, 1, none⟩ = some (.slice (some ad167) l0_1.length c0_1) ∧ w'.cell? (ad166.add (x10_3).toNat) = some (.int .i64 (rd x6_2 x10_3)) ∧ w'.cell? (ad167.add ((x10_3).toNat * 2)) = some (.int .i64 ((rd_T52 l0_1 x10_3).f0)) ∧ w'.cell? ⟨(ad167.add ((x10_3).toNat * 2)).block, (ad167.add ((x10_3).toNat * 2)).off + 1, none⟩ = some (.int .i64 ((rd_T52 l0_1 x10_3).f1)) ∧ w'.cell? (ad167.add ((x9_3).toNat * 2)) = some (.int .i64 ((rd_T52 l0_1 x9_3).f0)) ∧ w'.cell? ⟨(ad167.add ((x9_3).toNat * 2)).block, (ad167.add ((x9_3).toNat * 2)).off + 1, none⟩ = some (.int .i64 ((rd_T52 l0_1 x9_3).f1))) (ds := []) #[false, false, false, false, false, false, false, false, false, false, false, false, false, false, false, false, false, false, false, false, false, false, false, false] (by kernel_rfl) rfl rfl ⟨(blk_cell BK160.out 0).trans rfl, (blk_cell BK160.out 1).trans rfl, hx166_0, ((HB.out.cell (World.block_lt_of_cell? w _ hw167_0)).trans hw167_0), ((HB.out.cell (World.block_lt_of_cell? w _ hw167_1)).trans hw167_1), ((HB.out.cell (World.block_lt_of_cell? w _ hw168_0)).trans hw168_0), ((HB.out.cell (World.block_lt_of_cell? w _ hw168_1)).trans hw168_1)⟩ (fun hHeld => ?_); refine with_tabW pianolaref03_Passes.tab16 pianolaref03_Passes.bits16 (fun HT_ HW_ => ?_)
                  generalize wr.drew = w24 at HO_6 BK160 HB hx166_0 hx167_0 hx167_1 hx168_0 hx168_1 hHeld ⊢
                  refine pure_ (i := 0) (N := some 38) (v := ?_) (a' := ?_) #[true, false, false, false, false, false, false, false, false, false, false, false, false, false, false, false, false, false, false, false, false, false, false, false] rfl rfl (any_of HT_.out (by kernel_rfl)) (fun _ _ _ h => h) (Or.inl ⟨by rfl, ?_⟩) ?_ ?_
                  rotate_left
                  ·
                   intro w'
                   go_simp
                   with_reducible rfl
                  rotate_left
                  · simp only [Act.put, setIfInBounds_toArray, set_cons_zero, set_cons_succ, i64_w, i32_w]; rfl
                  refine pure_ (i := 1) (N := some 39) (v := ?_) (a' := ?_) #[true, true, false, false, false, false, false, false, false, false, false, false, false, false, false, false, false, false, false, false, false, false, false, false] rfl rfl (any_of HT_.out (by kernel_rfl)) (fun _ _ _ h => h) (Or.inl ⟨by rfl, ?_⟩) ?_ ?_
                  rotate_left
                  ·
                   intro w'
                   go_simp
                   with_reducible rfl
                  rotate_left
                  · simp only [Act.put, setIfInBounds_toArray, set_cons_zero, set_cons_succ, i64_w, i32_w]; rfl
                  refine pure_ (i := 2) (N := some 40) (v := ?_) (a' := ?_) #[true, true, true, false, false, false, false, false, false, false, false, false, false, false, false, false, false, false, false, false, false, false, false, false] rfl rfl (any_of HT_.out (by kernel_rfl)) (fun _ _ _ h => h) (Or.inl ⟨by rfl, ?_⟩) ?_ ?_
                  rotate_left
                  ·
                   intro w'
                   go_simp
                   with_reducible rfl
                  rotate_left
                  · simp only [Act.put, setIfInBounds_toArray, set_cons_zero, set_cons_succ, i64_w, i32_w]; rfl
                  refine take_ (i := 3) (N := some 41) (v := ?_) (a' := ?_) #[true, true, true, true, false, false, false, false, false, false, false, false, false, false, false, false, false, false, false, false, false, false, false, false] rfl rfl (take_ofW HT_.out HW_.out (by kernel_rfl)) (fun _ _ _ h => h) (Or.inl ⟨by rfl, ?_⟩) hHeld ?_ ?_
                  rotate_left
                  ·
                   rintro w' ⟨s0, s1, s2, s3, s4, s5, s6⟩
                   go_simp
                   with_reducible rfl
                  rotate_left
                  · simp only [Act.put, setIfInBounds_toArray, set_cons_zero, set_cons_succ, i64_w, i32_w]; rfl
                  refine pure_ (i := 4) (N := some 42) (v := ?_) (a' := ?_) #[true, true, true, true, true, false, false, false, false, false, false, false, false, false, false, false, false, false, false, false, false, false, false, false] rfl rfl (any_of HT_.out (by kernel_rfl)) (fun _ _ _ h => h) (Or.inl ⟨by rfl, ?_⟩) ?_ ?_
                  rotate_left
                  ·
                   intro w'
                   go_simp
                   with_reducible rfl
                  rotate_left
                  · simp only [Act.put, setIfInBounds_toArray, set_cons_zero, set_cons_succ, i64_w, i32_w]; rfl
                  refine pure_ (i := 5) (N := some 43) (v := ?_) (a' := ?_) #[true, true, true, true, true, true, false, false, false, false, false, false, false, false, false, false, false, false, false, false, false, false, false, false] rfl rfl (any_of HT_.out (by kernel_rfl)) (fun _ _ _ h => h) (Or.inl ⟨by rfl, ?_⟩) ?_ ?_
                  rotate_left
                  ·
                   intro w'
                   go_simp
                   with_reducible rfl
                  rotate_left
                  · simp only [Act.put, setIfInBounds_toArray, set_cons_zero, set_cons_succ, i64_w, i32_w]; rfl
                  refine pure_ (i := 6) (N := some 44) (v := ?_) (a' := ?_) #[true, true, true, true, true, true, true, false, false, false, false, false, false, false, false, false, false, false, false, false, false, false, false, false] rfl rfl (any_of HT_.out (by kernel_rfl)) (fun _ _ _ h => h) (Or.inl ⟨by rfl, ?_⟩) ?_ ?_
                  rotate_left
                  ·
                   intro w'
                   go_simp
                   with_reducible rfl
                  rotate_left
                  · simp only [Act.put, setIfInBounds_toArray, set_cons_zero, set_cons_succ, i64_w, i32_w]; rfl
                  refine pure_ (i := 7) (N := some 45) (v := ?_) (a' := ?_) #[true, true, true, true, true, true, true, true, false, false, false, false, false, false, false, false, false, false, false, false, false, false, false, false] rfl rfl (any_of HT_.out (by kernel_rfl)) (fun _ _ _ h => h) (Or.inl ⟨by rfl, ?_⟩) ?_ ?_
                  rotate_left
                  ·
                   intro w'
                   go_simp
                   with_reducible rfl
                  rotate_left
                  · simp only [Act.put, setIfInBounds_toArray, set_cons_zero, set_cons_succ, i64_w, i32_w]; rfl
                  refine pure_ (i := 8) (N := some 46) (v := ?_) (a' := ?_) #[true, true, true, true, true, true, true, true, true, false, false, false, false, false, false, false, false, false, false, false, false, false, false, false] rfl rfl (any_of HT_.out (by kernel_rfl)) (fun _ _ _ h => h) (Or.inl ⟨by rfl, ?_⟩) ?_ ?_
                  rotate_left
                  ·
                   intro w'
                   go_simp
                   with_reducible rfl
                  rotate_left
                  · simp only [Act.put, setIfInBounds_toArray, set_cons_zero, set_cons_succ, i64_w, i32_w]; rfl
                  refine pure_ (i := 9) (N := some 47) (v := ?_) (a' := ?_) #[true, true, true, true, true, true, true, true, true, true, false, false, false, false, false, false, false, false, false, false, false, false, false, false] rfl rfl (any_of HT_.out (by kernel_rfl)) (fun _ _ _ h => h) (Or.inl ⟨by rfl, ?_⟩) ?_ ?_
                  rotate_left
                  ·
                   intro w'
                   go_simp
                   with_reducible rfl
                  rotate_left
                  · simp only [Act.put, setIfInBounds_toArray, set_cons_zero, set_cons_succ, i64_w, i32_w]; rfl
                  refine pure_ (i := 11) (N := some 49) (v := ?_) (a' := ?_) #[true, true, true, true, true, true, true, true, true, true, false, true, false, false, false, false, false, false, false, false, false, false, false, false] rfl rfl (any_of HT_.out (by kernel_rfl)) (fun _ _ _ h => h) (Or.inl ⟨by rfl, ?_⟩) ?_ ?_
                  rotate_left
                  ·
                   intro w'
                   go_simp
                   with_reducible rfl
                  rotate_left
                  · simp only [Act.put, setIfInBounds_toArray, set_cons_zero, set_cons_succ, i64_w, i32_w]; rfl
                  refine pure_ (i := 15) (N := some 53) (v := ?_) (a' := ?_) #[true, true, true, true, true, true, true, true, true, true, false, true, false, false, false, true, false, false, false, false, false, false, false, false] rfl rfl (any_of HT_.out (by kernel_rfl)) (fun _ _ _ h => h) (Or.inl ⟨by rfl, ?_⟩) ?_ ?_
                  rotate_left
                  ·
                   intro w'
                   go_simp
                   with_reducible rfl
                  rotate_left
                  · simp only [Act.put, setIfInBounds_toArray, set_cons_zero, set_cons_succ, i64_w, i32_w]; rfl
                  refine pure_ (i := 17) (N := some 55) (v := ?_) (a' := ?_) #[true, true, true, true, true, true, true, true, true, true, false, true, false, false, false, true, false, true, false, false, false, false, false, false] rfl rfl (any_of HT_.out (by kernel_rfl)) (fun _ _ _ h => h) (Or.inl ⟨by rfl, ?_⟩) ?_ ?_
                  rotate_left
                  ·
                   intro w'
                   go_simp
                   with_reducible rfl
                  rotate_left
                  · simp only [Act.put, setIfInBounds_toArray, set_cons_zero, set_cons_succ, i64_w, i32_w]; rfl
                  refine take_ (i := 10) (N := some 48) (v := ?_) (a' := ?_) #[true, true, true, true, true, true, true, true, true, true, true, true, false, false, false, true, false, true, false, false, false, false, false, false] rfl rfl (take_ofW HT_.out HW_.out (by kernel_rfl)) (fun _ _ _ h => h) (Or.inl ⟨by rfl, ?_⟩) hHeld ?_ ?_
                  rotate_left
                  ·
                   rintro w' ⟨s0, s1, s2, s3, s4, s5, s6⟩
                   go_simp
                   with_reducible rfl
                  rotate_left
                  · simp only [Act.put, setIfInBounds_toArray, set_cons_zero, set_cons_succ, i64_w, i32_w]; rfl
                  refine pure_ (i := 12) (N := some 50) (v := ?_) (a' := ?_) #[true, true, true, true, true, true, true, true, true, true, true, true, true, false, false, true, false, true, false, false, false, false, false, false] rfl rfl (any_of HT_.out (by kernel_rfl)) (fun _ _ _ h => h) (Or.inl ⟨by rfl, ?_⟩) ?_ ?_
                  rotate_left
                  ·
                   intro w'
                   go_simp
                   with_reducible rfl
                  rotate_left
                  · simp only [Act.put, setIfInBounds_toArray, set_cons_zero, set_cons_succ, i64_w, i32_w]; rfl
                  refine pure_ (i := 13) (N := some 51) (v := ?_) (a' := ?_) #[true, true, true, true, true, true, true, true, true, true, true, true, true, true, false, true, false, true, false, false, false, false, false, false] rfl rfl (any_of HT_.out (by kernel_rfl)) (fun _ _ _ h => h) (Or.inl ⟨by rfl, ?_⟩) ?_ ?_
                  rotate_left
                  ·
                   intro w'
                   go_simp
                   with_reducible rfl
                  rotate_left
                  · simp only [Act.put, setIfInBounds_toArray, set_cons_zero, set_cons_succ, i64_w, i32_w]; rfl
                  refine take_ (i := 14) (N := some 52) (v := ?_) (a' := ?_) #[true, true, true, true, true, true, true, true, true, true, true, true, true, true, true, true, false, true, false, false, false, false, false, false] rfl rfl (take_ofW HT_.out HW_.out (by kernel_rfl)) (fun _ _ _ h => h) (Or.inl ⟨by rfl, ?_⟩) hHeld ?_ ?_
                  rotate_left
                  ·
                   rintro w' ⟨s0, s1, s2, s3, s4, s5, s6⟩
                   go_simp
                   with_reducible rfl
                  rotate_left
                  · simp only [Act.put, setIfInBounds_toArray, set_cons_zero, set_cons_succ, i64_w, i32_w]; rfl
                  refine take_ (i := 16) (N := some 54) (v := ?_) (a' := ?_) #[true, true, true, true, true, true, true, true, true, true, true, true, true, true, true, true, true, true, false, false, false, false, false, false] rfl rfl (take_ofW HT_.out HW_.out (by kernel_rfl)) (fun _ _ _ h => h) (Or.inl ⟨by rfl, ?_⟩) hHeld ?_ ?_
                  rotate_left
                  ·
                   rintro w' ⟨s0, s1, s2, s3, s4, s5, s6⟩
                   go_simp
                   with_reducible rfl
                  rotate_left
                  · simp only [Act.put, setIfInBounds_toArray, set_cons_zero, set_cons_succ, i64_w, i32_w]; rfl
                  refine pure_ (i := 18) (N := some 56) (v := ?_) (a' := ?_) #[true, true, true, true, true, true, true, true, true, true, true, true, true, true, true, true, true, true, true, false, false, false, false, false] rfl rfl (any_of HT_.out (by kernel_rfl)) (fun _ _ _ h => h) (Or.inl ⟨by rfl, ?_⟩) ?_ ?_
                  rotate_left
                  ·
                   intro w'
                   go_simp
                   with_reducible rfl
                  rotate_left
                  · simp only [Act.put, setIfInBounds_toArray, set_cons_zero, set_cons_succ, i64_w, i32_w]; rfl
                  refine pure_ (i := 19) (N := some 57) (v := ?_) (a' := ?_) #[true, true, true, true, true, true, true, true, true, true, true, true, true, true, true, true, true, true, true, true, false, false, false, false] rfl rfl (any_of HT_.out (by kernel_rfl)) (fun _ _ _ h => h) (Or.inl ⟨by rfl, ?_⟩) ?_ ?_
                  rotate_left
                  ·
                   intro w'
                   go_simp
                   with_reducible rfl
                  rotate_left
                  · simp only [Act.put, setIfInBounds_toArray, set_cons_zero, set_cons_succ, i64_w, i32_w]; rfl
                  refine take_ (i := 20) (N := some 58) (v := ?_) (a' := ?_) #[true, true, true, true, true, true, true, true, true, true, true, true, true, true, true, true, true, true, true, true, true, false, false, false] rfl rfl (take_ofW HT_.out HW_.out (by kernel_rfl)) (fun _ _ _ h => h) (Or.inl ⟨by rfl, ?_⟩) hHeld ?_ ?_
                  rotate_left
                  ·
                   rintro w' ⟨s0, s1, s2, s3, s4, s5, s6⟩
                   go_simp
                   with_reducible rfl
                  rotate_left
                  · simp only [Act.put, setIfInBounds_toArray, set_cons_zero, set_cons_succ, i64_w, i32_w]; rfl
                  refine pure_ (i := 21) (N := some 59) (v := ?_) (a' := ?_) #[true, true, true, true, true, true, true, true, true, true, true, true, true, true, true, true, true, true, true, true, true, true, false, false] rfl rfl (any_of HT_.out (by kernel_rfl)) (fun _ _ _ h => h) (Or.inl ⟨by rfl, ?_⟩) ?_ ?_
                  rotate_left
                  ·
                   intro w'
                   go_simp
                   with_reducible rfl
                  rotate_left
                  · simp only [Act.put, setIfInBounds_toArray, set_cons_zero, set_cons_succ, i64_w, i32_w]; rfl
                  refine pure_ (i := 22) (N := some 60) (v := ?_) (a' := ?_) #[true, true, true, true, true, true, true, true, true, true, true, true, true, true, true, true, true, true, true, true, true, true, true, false] rfl rfl (any_of HT_.out (by kernel_rfl)) (fun _ _ _ h => h) (Or.inl ⟨by rfl, ?_⟩) ?_ ?_
                  rotate_left
                  ·
                   intro w'
                   go_simp
                   with_reducible rfl
                  rotate_left
                  · simp only [Act.put, setIfInBounds_toArray, set_cons_zero, set_cons_succ, i64_w, i32_w]; rfl
                  refine pure_ (i := 23) (N := some 61) (v := ?_) (a' := ?_) #[true, true, true, true, true, true, true, true, true, true, true, true, true, true, true, true, true, true, true, true, true, true, true, true] rfl rfl (any_of HT_.out (by kernel_rfl)) (fun _ _ _ h => h) (Or.inl ⟨by rfl, ?_⟩) ?_ ?_
                  rotate_left
                  ·
                   intro w'
                   go_simp
                   with_reducible rfl
                  rotate_left
                  · simp only [Act.put, setIfInBounds_toArray, set_cons_zero, set_cons_succ, i64_w, i32_w]; rfl
                  refine done_ (done_of HT_.out (by kernel_rfl)) ?_
                  try go_wp2
                  go_roundg k3
                  case measure => have := HK1.out; have := HK2.out; have := HK3.out; omega
                  case rel => exact ⟨(x9_3), (wrap64 (x10_3 + 1)), zqQ, zqQ, H', ⟨by have := HK1.out; have := HK2.out; have := HK3.out; omega⟩, ⟨zqC HO_6.out⟩, ⟨zqB BK160.out⟩, ⟨zqG HB.out GE160.out⟩⟩
                ·
                 rw [if_neg c21] at H
                 exact absurd H (by simp)
               ·
                rw [if_neg c20] at H
                exact absurd H (by simp)
              ·
               rw [if_neg c19] at H
               exact absurd H (by simp)
            ·
             rw [if_neg c16] at H
             have c16b0 : decide ((rd x6_2 x10_3) < 0) = false := decide_eq_false c16
             clear c16
             have H' := zA H
             clear H
             try go_wp2
             have n0_ := zA (Kd.R_drew HO_6.out); have n1_ := zA (blk_drew BK160.out); have n2_ := zA (below_drew1 HB.out); clear HO_6 BK160 HB; have HO_6 := n0_; have BK160 := n1_; have HB := n2_; clear n0_ n1_ n2_
             have p166 : 0 ≤ (x10_3 : Int) := of_decide_eq_true (zqD)
             have q166 : x10_3 < (x6_2.length : Int) := of_decide_eq_true (zqD)
             obtain ⟨ad166, e166, hx166_0⟩ := Kd.at_int (Kd.R_reads' HO_6.out).2.2 x10_3 p166 q166
             cases e166; replace p166 := eq_true p166; replace q166 := eq_true q166
             refine start_ (n := 24) (S := fun w' => w'.cell? (ad166.add (x10_3).toNat) = some (.int .i64 (rd x6_2 x10_3))) (ds := []) #[false, false, false, false, false, false, false, false, false, false, false, false, false, false, false, false, false, false, false, false, false, false, false, false] (by kernel_rfl) rfl rfl (hx166_0) (fun hHeld => ?_); refine with_tabW pianolaref03_Passes.tab16 pianolaref03_Passes.bits16 (fun HT_ HW_ => ?_)
             generalize wr.drew = w25 at HO_6 BK160 HB hx166_0 hHeld ⊢
             refine pure_ (i := 0) (N := some 38) (v := ?_) (a' := ?_) #[true, false, false, false, false, false, false, false, false, false, false, false, false, false, false, false, false, false, false, false, false, false, false, false] rfl rfl (any_of HT_.out (by kernel_rfl)) (fun _ _ _ h => h) (Or.inl ⟨by rfl, ?_⟩) ?_ ?_
             rotate_left
             ·
              intro w'
              go_simp
              with_reducible rfl
             rotate_left
             · simp only [Act.put, setIfInBounds_toArray, set_cons_zero, set_cons_succ, i64_w, i32_w]; rfl
             refine pure_ (i := 1) (N := some 39) (v := ?_) (a' := ?_) #[true, true, false, false, false, false, false, false, false, false, false, false, false, false, false, false, false, false, false, false, false, false, false, false] rfl rfl (any_of HT_.out (by kernel_rfl)) (fun _ _ _ h => h) (Or.inl ⟨by rfl, ?_⟩) ?_ ?_
             rotate_left
             ·
              intro w'
              go_simp
              with_reducible rfl
             rotate_left
             · simp only [Act.put, setIfInBounds_toArray, set_cons_zero, set_cons_succ, i64_w, i32_w]; rfl
             refine pure_ (i := 2) (N := some 40) (v := ?_) (a' := ?_) #[true, true, true, false, false, false, false, false, false, false, false, false, false, false, false, false, false, false, false, false, false, false, false, false] rfl rfl (any_of HT_.out (by kernel_rfl)) (fun _ _ _ h => h) (Or.inl ⟨by rfl, ?_⟩) ?_ ?_
             rotate_left
             ·
              intro w'
              go_simp
              with_reducible rfl
             rotate_left
             · simp only [Act.put, setIfInBounds_toArray, set_cons_zero, set_cons_succ, i64_w, i32_w]; rfl
             refine take_ (i := 3) (N := some 41) (v := ?_) (a' := ?_) #[true, true, true, true, false, false, false, false, false, false, false, false, false, false, false, false, false, false, false, false, false, false, false, false] rfl rfl (take_ofW HT_.out HW_.out (by kernel_rfl)) (fun _ _ _ h => h) (Or.inl ⟨by rfl, ?_⟩) hHeld ?_ ?_
             rotate_left
             ·
              intro w' s0
              go_simp
              with_reducible rfl
             rotate_left
             · simp only [Act.put, setIfInBounds_toArray, set_cons_zero, set_cons_succ, i64_w, i32_w]; rfl
             refine pure_ (i := 4) (N := some 42) (v := ?_) (a' := ?_) #[true, true, true, true, true, false, false, false, false, false, false, false, false, false, false, false, false, false, false, false, false, false, false, false] rfl rfl (any_of HT_.out (by kernel_rfl)) (fun _ _ _ h => h) (Or.inl ⟨by rfl, ?_⟩) ?_ ?_
             rotate_left
             ·
              intro w'
              go_simp
              with_reducible rfl
             rotate_left
             · simp only [Act.put, setIfInBounds_toArray, set_cons_zero, set_cons_succ, i64_w, i32_w]; rfl
             refine pure_ (i := 5) (N := some 43) (v := ?_) (a' := ?_) #[true, true, true, true, true, true, false, false, false, false, false, false, false, false, false, false, false, false, false, false, false, false, false, false] rfl rfl (any_of HT_.out (by kernel_rfl)) (fun _ _ _ h => h) (Or.inl ⟨by rfl, ?_⟩) ?_ ?_
             rotate_left
             ·
              intro w'
              go_simp
              with_reducible rfl
             rotate_left
             · simp only [Act.put, setIfInBounds_toArray, set_cons_zero, set_cons_succ, i64_w, i32_w]; rfl
             refine pure_ (i := 6) (N := some 44) (v := undef) (a' := ?_) #[true, true, true, true, true, true, true, false, false, false, false, false, false, false, false, false, false, false, false, false, false, false, false, false] rfl rfl (any_of HT_.out (by kernel_rfl)) (fun _ _ _ h => h) (Or.inr ⟨by rfl, rfl⟩) ?_ ?_
             rotate_left
             · simp only [Act.put, setIfInBounds_toArray, set_cons_zero, set_cons_succ, i64_w, i32_w]; rfl
             refine pure_ (i := 7) (N := some 45) (v := undef) (a' := ?_) #[true, true, true, true, true, true, true, true, false, false, false, false, false, false, false, false, false, false, false, false, false, false, false, false] rfl rfl (any_of HT_.out (by kernel_rfl)) (fun _ _ _ h => h) (Or.inr ⟨by rfl, rfl⟩) ?_ ?_
             rotate_left
             · simp only [Act.put, setIfInBounds_toArray, set_cons_zero, set_cons_succ, i64_w, i32_w]; rfl
             refine pure_ (i := 8) (N := some 46) (v := undef) (a' := ?_) #[true, true, true, true, true, true, true, true, true, false, false, false, false, false, false, false, false, false, false, false, false, false, false, false] rfl rfl (any_of HT_.out (by kernel_rfl)) (fun _ _ _ h => h) (Or.inr ⟨by rfl, rfl⟩) ?_ ?_
             rotate_left
             · simp only [Act.put, setIfInBounds_toArray, set_cons_zero, set_cons_succ, i64_w, i32_w]; rfl
             refine pure_ (i := 9) (N := some 47) (v := undef) (a' := ?_) #[true, true, true, true, true, true, true, true, true, true, false, false, false, false, false, false, false, false, false, false, false, false, false, false] rfl rfl (any_of HT_.out (by kernel_rfl)) (fun _ _ _ h => h) (Or.inr ⟨by rfl, rfl⟩) ?_ ?_
             rotate_left
             · simp only [Act.put, setIfInBounds_toArray, set_cons_zero, set_cons_succ, i64_w, i32_w]; rfl
             refine pure_ (i := 10) (N := some 48) (v := undef) (a' := ?_) #[true, true, true, true, true, true, true, true, true, true, true, false, false, false, false, false, false, false, false, false, false, false, false, false] rfl rfl (any_of HT_.out (by kernel_rfl)) (fun _ _ _ h => h) (Or.inr ⟨by rfl, rfl⟩) ?_ ?_
             rotate_left
             · simp only [Act.put, setIfInBounds_toArray, set_cons_zero, set_cons_succ, i64_w, i32_w]; rfl
             refine pure_ (i := 11) (N := some 49) (v := undef) (a' := ?_) #[true, true, true, true, true, true, true, true, true, true, true, true, false, false, false, false, false, false, false, false, false, false, false, false] rfl rfl (any_of HT_.out (by kernel_rfl)) (fun _ _ _ h => h) (Or.inr ⟨by rfl, rfl⟩) ?_ ?_
             rotate_left
             · simp only [Act.put, setIfInBounds_toArray, set_cons_zero, set_cons_succ, i64_w, i32_w]; rfl
             refine pure_ (i := 12) (N := some 50) (v := undef) (a' := ?_) #[true, true, true, true, true, true, true, true, true, true, true, true, true, false, false, false, false, false, false, false, false, false, false, false] rfl rfl (any_of HT_.out (by kernel_rfl)) (fun _ _ _ h => h) (Or.inr ⟨by rfl, rfl⟩) ?_ ?_
             rotate_left
             · simp only [Act.put, setIfInBounds_toArray, set_cons_zero, set_cons_succ, i64_w, i32_w]; rfl
             refine pure_ (i := 13) (N := some 51) (v := undef) (a' := ?_) #[true, true, true, true, true, true, true, true, true, true, true, true, true, true, false, false, false, false, false, false, false, false, false, false] rfl rfl (any_of HT_.out (by kernel_rfl)) (fun _ _ _ h => h) (Or.inr ⟨by rfl, rfl⟩) ?_ ?_
             rotate_left
             · simp only [Act.put, setIfInBounds_toArray, set_cons_zero, set_cons_succ, i64_w, i32_w]; rfl
             refine pure_ (i := 14) (N := some 52) (v := undef) (a' := ?_) #[true, true, true, true, true, true, true, true, true, true, true, true, true, true, true, false, false, false, false, false, false, false, false, false] rfl rfl (any_of HT_.out (by kernel_rfl)) (fun _ _ _ h => h) (Or.inr ⟨by rfl, rfl⟩) ?_ ?_
             rotate_left
             · simp only [Act.put, setIfInBounds_toArray, set_cons_zero, set_cons_succ, i64_w, i32_w]; rfl
             refine pure_ (i := 15) (N := some 53) (v := undef) (a' := ?_) #[true, true, true, true, true, true, true, true, true, true, true, true, true, true, true, true, false, false, false, false, false, false, false, false] rfl rfl (any_of HT_.out (by kernel_rfl)) (fun _ _ _ h => h) (Or.inr ⟨by rfl, rfl⟩) ?_ ?_
             rotate_left
             · simp only [Act.put, setIfInBounds_toArray, set_cons_zero, set_cons_succ, i64_w, i32_w]; rfl
             refine pure_ (i := 16) (N := some 54) (v := undef) (a' := ?_) #[true, true, true, true, true, true, true, true, true, true, true, true, true, true, true, true, true, false, false, false, false, false, false, false] rfl rfl (any_of HT_.out (by kernel_rfl)) (fun _ _ _ h => h) (Or.inr ⟨by rfl, rfl⟩) ?_ ?_
             rotate_left
             · simp only [Act.put, setIfInBounds_toArray, set_cons_zero, set_cons_succ, i64_w, i32_w]; rfl
             refine pure_ (i := 17) (N := some 55) (v := undef) (a' := ?_) #[true, true, true, true, true, true, true, true, true, true, true, true, true, true, true, true, true, true, false, false, false, false, false, false] rfl rfl (any_of HT_.out (by kernel_rfl)) (fun _ _ _ h => h) (Or.inr ⟨by rfl, rfl⟩) ?_ ?_
             rotate_left
             · simp only [Act.put, setIfInBounds_toArray, set_cons_zero, set_cons_succ, i64_w, i32_w]; rfl
             refine pure_ (i := 18) (N := some 56) (v := undef) (a' := ?_) #[true, true, true, true, true, true, true, true, true, true, true, true, true, true, true, true, true, true, true, false, false, false, false, false] rfl rfl (any_of HT_.out (by kernel_rfl)) (fun _ _ _ h => h) (Or.inr ⟨by rfl, rfl⟩) ?_ ?_
             rotate_left
             · simp only [Act.put, setIfInBounds_toArray, set_cons_zero, set_cons_succ, i64_w, i32_w]; rfl
             refine pure_ (i := 19) (N := some 57) (v := undef) (a' := ?_) #[true, true, true, true, true, true, true, true, true, true, true, true, true, true, true, true, true, true, true, true, false, false, false, false] rfl rfl (any_of HT_.out (by kernel_rfl)) (fun _ _ _ h => h) (Or.inr ⟨by rfl, rfl⟩) ?_ ?_
             rotate_left
             · simp only [Act.put, setIfInBounds_toArray, set_cons_zero, set_cons_succ, i64_w, i32_w]; rfl
             refine pure_ (i := 20) (N := some 58) (v := undef) (a' := ?_) #[true, true, true, true, true, true, true, true, true, true, true, true, true, true, true, true, true, true, true, true, true, false, false, false] rfl rfl (any_of HT_.out (by kernel_rfl)) (fun _ _ _ h => h) (Or.inr ⟨by rfl, rfl⟩) ?_ ?_
             rotate_left
             · simp only [Act.put, setIfInBounds_toArray, set_cons_zero, set_cons_succ, i64_w, i32_w]; rfl
             refine pure_ (i := 21) (N := some 59) (v := undef) (a' := ?_) #[true, true, true, true, true, true, true, true, true, true, true, true, true, true, true, true, true, true, true, true, true, true, false, false] rfl rfl (any_of HT_.out (by kernel_rfl)) (fun _ _ _ h => h) (Or.inr ⟨by rfl, rfl⟩) ?_ ?_
             rotate_left
             · simp only [Act.put, setIfInBounds_toArray, set_cons_zero, set_cons_succ, i64_w, i32_w]; rfl
             refine pure_ (i := 22) (N := some 60) (v := undef) (a' := ?_) #[true, true, true, true, true, true, true, true, true, true, true, true, true, true, true, true, true, true, true, true, true, true, true, false] rfl rfl (any_of HT_.out (by kernel_rfl)) (fun _ _ _ h => h) (Or.inr ⟨by rfl, rfl⟩) ?_ ?_
             rotate_left
             · simp only [Act.put, setIfInBounds_toArray, set_cons_zero, set_cons_succ, i64_w, i32_w]; rfl
             refine pure_ (i := 23) (N := some 61) (v := ?_) (a' := ?_) #[true, true, true, true, true, true, true, true, true, true, true, true, true, true, true, true, true, true, true, true, true, true, true, true] rfl rfl (any_of HT_.out (by kernel_rfl)) (fun _ _ _ h => h) (Or.inl ⟨by rfl, ?_⟩) ?_ ?_
             rotate_left
             ·
              intro w'
              go_simp
              with_reducible rfl
             rotate_left
             · simp only [Act.put, setIfInBounds_toArray, set_cons_zero, set_cons_succ, i64_w, i32_w]; rfl
             refine done_ (done_of HT_.out (by kernel_rfl)) ?_
             try go_wp2
             go_roundg k3
             case measure => have := HK1.out; have := HK2.out; have := HK3.out; omega
             case rel => exact ⟨(x9_3), (wrap64 (x10_3 + 1)), zqQ, zqQ, H', ⟨by have := HK1.out; have := HK2.out; have := HK3.out; omega⟩, ⟨zqC HO_6.out⟩, ⟨zqB BK160.out⟩, ⟨zqG HB.out GE160.out⟩⟩
           ·
            rw [if_neg c15] at H
            exact absurd H (by simp)
          ·
           rw [if_neg c14] at H
           have c14b0 : decide (x10_3 < (x6_2.length : Int)) = false := decide_eq_false c14
           clear c14
           by_cases c26 : 0 ≤ x9_3
           ·
            rw [if_pos c26] at H
            have c26b0 : decide (0 ≤ x9_3) = true := decide_eq_true c26
            clear c26
            by_cases c27 : x9_3 < (l0_1.length : Int)
            ·
             rw [if_pos c27] at H
             have c27b0 : decide (x9_3 < (l0_1.length : Int)) = true := decide_eq_true c27
             clear c27
             replace H := Option.bind_eq_some_iff.mp H
             obtain ⟨t170, A280, H⟩ := H
             replace H : (if x9_3 < (x6_2.length : Int) then (pianolaref03_Passes.l1 k3 (x6_2.set (x9_3 : Int).toNat t170) (wrap64 (x8_2 + 1)) a0_0 l0_1) else (none)) = some (r1, r2, r3) := H
             have A28 := zA A280
             clear A280
             by_cases c29 : x9_3 < (x6_2.length : Int)
             ·
              rw [if_pos c29] at H
              have c29b0 : decide (x9_3 < (x6_2.length : Int)) = true := decide_eq_true c29
              clear c29
              obtain ⟨y171, hy171⟩ : ∃ y_ : List Int, y_ = (x6_2.set (x9_3 : Int).toNat t170) := ⟨_, rfl⟩
              replace H : (pianolaref03_Passes.l1 k3 y171 (wrap64 (x8_2 + 1)) a0_0 l0_1) = some (r1, r2, r3) := zqF hy171 H
              have Ny171 := zA hy171
              clear hy171
              have H' := zA H
              clear H
              try go_wp2
              have n0_ := zA (Kd.R_drew HO_6.out); have n1_ := zA (blk_drew BK160.out); have n2_ := zA (below_drew1 HB.out); clear HO_6 BK160 HB; have HO_6 := n0_; have BK160 := n1_; have HB := n2_; clear n0_ n1_ n2_
              have p169 : 0 ≤ (x9_3 : Int) := of_decide_eq_true (zqD)
              have q169 : x9_3 < (l0_1.length : Int) := of_decide_eq_true (zqD)
              obtain ⟨ad169, e169, hx169_0, hx169_1⟩ := at_T52 HR0_1.out x9_3 p169 q169
              have hw169_1 := hx169_1; have hw169_0 := hx169_0; cases e169
              replace hx169_0 := (HB.out.cell (World.block_lt_of_cell? w _ hx169_0)).trans hx169_0
              replace hx169_1 := (HB.out.cell (World.block_lt_of_cell? w _ hx169_1)).trans hx169_1
              replace p169 := eq_true p169; replace q169 := eq_true q169
              refine start_ (n := 12) (S := fun w' => w'.cell? ⟨gb160, 0, none⟩ = some (.int .i64 a0_0) ∧ w'.cell? ⟨gb160, 1, none⟩ = some (.slice (some ad169) l0_1.length c0_1) ∧ w'.cell? (ad169.add ((x9_3).toNat * 2)) = some (.int .i64 ((rd_T52 l0_1 x9_3).f0)) ∧ w'.cell? ⟨(ad169.add ((x9_3).toNat * 2)).block, (ad169.add ((x9_3).toNat * 2)).off + 1, none⟩ = some (.int .i64 ((rd_T52 l0_1 x9_3).f1))) (ds := [11]) #[false, false, false, false, false, false, false, false, false, false, false, false] (by kernel_rfl) rfl rfl ⟨(blk_cell BK160.out 0).trans rfl, (blk_cell BK160.out 1).trans rfl, ((HB.out.cell (World.block_lt_of_cell? w _ hw169_0)).trans hw169_0), ((HB.out.cell (World.block_lt_of_cell? w _ hw169_1)).trans hw169_1)⟩ (fun hHeld => ?_); refine with_tabW pianolaref03_Passes.tab18 pianolaref03_Passes.bits18 (fun HT_ HW_ => ?_)
              generalize wr.drew = w31 at HO_6 BK160 HB hx169_0 hx169_1 hHeld ⊢
              refine pure_ (i := 0) (N := some 63) (v := ?_) (a' := ?_) #[true, false, false, false, false, false, false, false, false, false, false, false] rfl rfl (any_of HT_.out (by kernel_rfl)) (fun _ _ _ h => h) (Or.inl ⟨by rfl, ?_⟩) ?_ ?_
              rotate_left
              ·
               intro w'
               go_simp
               with_reducible rfl
              rotate_left
              · simp only [Act.put, setIfInBounds_toArray, set_cons_zero, set_cons_succ, i64_w, i32_w]; rfl
              refine pure_ (i := 1) (N := some 64) (v := ?_) (a' := ?_) #[true, true, false, false, false, false, false, false, false, false, false, false] rfl rfl (any_of HT_.out (by kernel_rfl)) (fun _ _ _ h => h) (Or.inl ⟨by rfl, ?_⟩) ?_ ?_
              rotate_left
              ·
               intro w'
               go_simp
               with_reducible rfl
              rotate_left
              · simp only [Act.put, setIfInBounds_toArray, set_cons_zero, set_cons_succ, i64_w, i32_w]; rfl
              refine pure_ (i := 3) (N := some 66) (v := ?_) (a' := ?_) #[true, true, false, true, false, false, false, false, false, false, false, false] rfl rfl (any_of HT_.out (by kernel_rfl)) (fun _ _ _ h => h) (Or.inl ⟨by rfl, ?_⟩) ?_ ?_
              rotate_left
              ·
               intro w'
               go_simp
               with_reducible rfl
              rotate_left
              · simp only [Act.put, setIfInBounds_toArray, set_cons_zero, set_cons_succ, i64_w, i32_w]; rfl
              refine pure_ (i := 4) (N := some 67) (v := ?_) (a' := ?_) #[true, true, false, true, true, false, false, false, false, false, false, false] rfl rfl (any_of HT_.out (by kernel_rfl)) (fun _ _ _ h => h) (Or.inl ⟨by rfl, ?_⟩) ?_ ?_
              rotate_left
              ·
               intro w'
               go_simp
               with_reducible rfl
              rotate_left
              · simp only [Act.put, setIfInBounds_toArray, set_cons_zero, set_cons_succ, i64_w, i32_w]; rfl
              refine pure_ (i := 6) (N := some 69) (v := ?_) (a' := ?_) #[true, true, false, true, true, false, true, false, false, false, false, false] rfl rfl (any_of HT_.out (by kernel_rfl)) (fun _ _ _ h => h) (Or.inl ⟨by rfl, ?_⟩) ?_ ?_
              rotate_left
              ·
               intro w'
               go_simp
               with_reducible rfl
              rotate_left
              · simp only [Act.put, setIfInBounds_toArray, set_cons_zero, set_cons_succ, i64_w, i32_w]; rfl
              refine take_ (i := 2) (N := some 65) (v := ?_) (a' := ?_) #[true, true, true, true, true, false, true, false, false, false, false, false] rfl rfl (take_ofW HT_.out HW_.out (by kernel_rfl)) (fun _ _ _ h => h) (Or.inl ⟨by rfl, ?_⟩) hHeld ?_ ?_
              rotate_left
              ·
               rintro w' ⟨s0, s1, s2, s3⟩
               go_simp
               with_reducible rfl
              rotate_left
              · simp only [Act.put, setIfInBounds_toArray, set_cons_zero, set_cons_succ, i64_w, i32_w]; rfl
              refine take_ (i := 5) (N := some 68) (v := ?_) (a' := ?_) #[true, true, true, true, true, true, true, false, false, false, false, false] rfl rfl (take_ofW HT_.out HW_.out (by kernel_rfl)) (fun _ _ _ h => h) (Or.inl ⟨by rfl, ?_⟩) hHeld ?_ ?_
              rotate_left
              ·
               rintro w' ⟨s0, s1, s2, s3⟩
               go_simp
               with_reducible rfl
              rotate_left
              · simp only [Act.put, setIfInBounds_toArray, set_cons_zero, set_cons_succ, i64_w, i32_w]; rfl
              refine pure_ (i := 7) (N := some 70) (v := ?_) (a' := ?_) #[true, true, true, true, true, true, true, true, false, false, false, false] rfl rfl (any_of HT_.out (by kernel_rfl)) (fun _ _ _ h => h) (Or.inl ⟨by rfl, ?_⟩) ?_ ?_
              rotate_left
              ·
               intro w'
               go_simp
               with_reducible rfl
              rotate_left
              · simp only [Act.put, setIfInBounds_toArray, set_cons_zero, set_cons_succ, i64_w, i32_w]; rfl
              refine take_ (i := 8) (N := some 71) (v := ?_) (a' := ?_) #[true, true, true, true, true, true, true, true, true, false, false, false] rfl rfl (take_ofW HT_.out HW_.out (by kernel_rfl)) (fun _ _ _ h => h) (Or.inl ⟨by rfl, ?_⟩) hHeld ?_ ?_
              rotate_left
              ·
               rintro w' ⟨s0, s1, s2, s3⟩
               go_simp
               with_reducible rfl
              rotate_left
              · simp only [Act.put, setIfInBounds_toArray, set_cons_zero, set_cons_succ, i64_w, i32_w]; rfl
              refine one_ (i := 9) (N := some 72) #[true, true, true, true, true, true, true, true, true, true, false, false] rfl rfl (one_of HT_.out (by kernel_rfl)) (by decide) (fun K hK => ?_)
              refine goes_ Try.func64 (by kernel_rfl) rfl #[.agg #[.int .i64 a0_0, .slice (some ad169) l0_1.length c0_1], .slice Ao13 x6_2.length co13, .agg #[.int .i64 ((rd_T52 l0_1 x9_3).f0), .int .i64 ((rd_T52 l0_1 x9_3).f1)]] (by rfl) rfl rfl zqE ?_
              with_reducible refine (pianolaref03_smallest.calls k3 a0_0 _ _ l0_1 _ _ x6_2 ((rd_T52 l0_1 x9_3).f0) ((rd_T52 l0_1 x9_3).f1) t170 _ ?side1 ?side2 ?side3 ?side4 A28.out).mono ?_
              (case side1 => exact zqK (Kd.C_below HR0_1.out HB.out))
              (case side2 => exact HC0_1.out)
              (case side3 => exact zqK (Kd.R_reads' HO_6.out).2.2)
              (case side4 => exact (Kd.R_reads' HO_6.out).2.1)
              rintro e w32 ⟨rfl, hb⟩
              refine ⟨_, rfl, ?_⟩
              have n0_ := zA (Kd.R_below (zqC HO_6.out) hb); have n1_ := zA (blk_below (g := gb160) (o := .cells #[.int .i64 a0_0, .slice (some ad169) l0_1.length c0_1] 33 (0, 0)) (zqB BK160.out) hb); have n2_ := zA (below_step (zqG HB.out GE160.out) hb); clear HO_6 BK160 HB; have HO_6 := n0_; have BK160 := n1_; have HB := n2_; clear n0_ n1_ n2_
              (try clear hb); (try clear hb2); (try clear hk); (try clear hi)
              have p30 : 0 ≤ (x9_3 : Int) := of_decide_eq_true (zqD)
              have q30 : (x9_3 : Int) < ((x6_2.length : Int) : Int) := of_decide_eq_true (zqD)
              obtain ⟨go30, co30, eo30, gb30, gl30, cl30, HG30⟩ := Kd.R_form HO_6.out (by omega)
              (first | cases eo30 | (injection eo30 with ea_ en_ ec_; (first | subst ea_ | (injection ea_ with ea_; subst ea_)); subst ec_; clear en_))
              have GB30 := zA gb30
              have GG30 := zA HG30
              clear gb30 gl30 HG30
              obtain ⟨hx30_0, hf30_0⟩ := Kd.R_celln 0 HO_6.out (x9_3 : Int) p30 q30
              replace p30 := eq_true p30; replace q30 := eq_true q30
              have HP33 := Kd.R_putn HO_6.out (x9_3 : Int) t170
              rw [← Ny171.out] at HP33
              have HQ33 := zA HP33
              clear HP33
              refine hK.out _ _ ⟨(blk_cell BK160.out 0).trans rfl, (blk_cell BK160.out 1).trans rfl, ((HB.out.cell (World.block_lt_of_cell? w _ hw169_0)).trans hw169_0), ((HB.out.cell (World.block_lt_of_cell? w _ hw169_1)).trans hw169_1)⟩ (fun hHeld => ?_)
              clear hK K; refine norm_ (a' := ?_) ?_ ?_; rotate_left
              · show Act.put _ (some 72) _ = _; simp only [Act.put, setIfInBounds_toArray, set_cons_zero, set_cons_succ, i64_w, i32_w]; rfl
              refine pure_ (i := 10) (N := some 73) (v := ?_) (a' := ?_) #[true, true, true, true, true, true, true, true, true, true, true, false] rfl rfl (any_of HT_.out (by kernel_rfl)) (fun _ _ _ h => h) (Or.inl ⟨by rfl, ?_⟩) ?_ ?_
              rotate_left
              ·
               intro w'
               go_simp
               with_reducible rfl
              rotate_left
              · simp only [Act.put, setIfInBounds_toArray, set_cons_zero, set_cons_succ, i64_w, i32_w]; rfl
              refine last_ (i := 11) (N := none) #[true, true, true, true, true, true, true, true, true, true, true, true] rfl rfl (one_of HT_.out (by kernel_rfl)) (by decide) (fun K hK => ?_)
              refine skip_ (w1 := ?_) (by rfl) rfl ?_ ?_
              rotate_left
              ·
               go_simp
               rfl
              refine hK.out _ _ ?_
              clear hK K
              refine done_ (done_of HT_.out (by kernel_rfl)) ?_
              try go_wp2
              go_roundg k3
              case measure => have := HK1.out; have := HK2.out; have := HK3.out; omega
              case rel => exact ⟨(y171), (wrap64 (x8_2 + 1)), zqQ, H', ⟨by have := HK1.out; have := HK2.out; have := HK3.out; omega⟩, ⟨zqC HQ33.out⟩, ⟨by (with_reducible repeat (first | refine blk_drewN ?_ _ | refine blk_drew ?_ | refine blk_alloc ?_ _)); refine blk_far ?_ (by have h_ := Kd.R_ne HO_6.out BK160.out (by decide); intro e_; exact h_ (by rw [e_]; rfl)) _; (with_reducible repeat (first | refine blk_drewN ?_ _ | refine blk_drew ?_ | refine blk_alloc ?_ _)); exact BK160.out⟩, ⟨zqH HB.out GB30.out GE160.out⟩⟩
             ·
              rw [if_neg c29] at H
              exact absurd H (by simp)
            ·
             rw [if_neg c27] at H
             exact absurd H (by simp)
           ·
            rw [if_neg c26] at H
            exact absurd H (by simp)
       ·
        rw [if_neg c12] at H
        have c12b0 : decide (x8_2 < (x6_2.length : Int)) = false := decide_eq_false c12
        clear c12
        replace H := Option.bind_eq_some_iff.mp H
        obtain ⟨t165, A340, H⟩ := H
        replace H : (some (x6_2, t165, 0)) = some (r1, r2, r3) := H
        have A34 := zA A340
        clear A340
        simp only [Option.some.injEq, Prod.mk.injEq] at H
        obtain ⟨rfl, rfl, rfl⟩ := H
        obtain ⟨Ao35, co35, eo35⟩ := Kd.R_slice HO_6.out
        subst eo35
        go_wp2_with (first | ((with_reducible refine gate_callee (f := 65) rfl ?_); refine goesL_ (some 76) rfl rfl Try.func65 (by kernel_rfl) rfl #[.slice Ao35 x6_2.length co35] rfl zqE ?_; (with_reducible refine (pianolaref03_passes.calls k2 _ _ x6_2 t165 _ ?side1 ?side2 A34.out).mono ?_); (case side1 => exact zqK (Kd.R_reads' HO_6.out).2.2); (case side2 => exact (Kd.R_reads' HO_6.out).2.1); rintro e w36 ⟨rfl, hb⟩; refine ⟨_, rfl, ?_⟩; have n0_ := zA (Kd.R_below (zqC HO_6.out) hb); have n1_ := zA (blk_below (g := gb160) (o := .cells #[.int .i64 a0_0, .slice A0_1 l0_1.length c0_1] 33 (0, 0)) (zqB BK160.out) hb); have n2_ := zA (below_step (zqG HB.out GE160.out) hb); clear HO_6; clear BK160; clear HB; have HO_6 := n0_; have BK160 := n1_; have HB := n2_; clear n0_ n1_ n2_; (try clear hb); (try clear hb2); (try clear hk); (try clear hi)))
        go_ret3
        exact ⟨_, zqR, zqC HO_6.out, zqG HB.out GE160.out⟩
 ·
  rw [if_neg c3] at H
  have c3b0 : (t161 == 0) = false := beq_eq_false_iff_ne.mpr c3
  have c3b1 : (t161 != 0) = true := bne_iff_ne.mpr c3
  simp only [Option.some.injEq, Prod.mk.injEq] at H
  obtain ⟨rfl, rfl, rfl⟩ := H
  go_enter Try.func23, Try.ntmps23
  go_wp2_with (first | ((with_reducible refine gate_dst (N := 1) rfl ?_); refine box_event ?hg (N := 1) ?hd (cs := #[.int .i64 a0_0, .slice A0_1 l0_1.length c0_1]) (t := 33) ?hr ?_; (case hd => rfl); (case hg => rfl); (case hr => first | (go_simp; done) | (go_simp; rfl)); intro gb160 hg w37 hbox hb; have n0_ := zA (below_step (zqA HB.out) hb); have n1_ := zA (hbox); have n2_ := zA ((by rw [hg]; exact (below_size (zqA HB.out)) : w.heap.size ≤ gb160)); have n3_ := zA ((by rw [hg]; exact (below_size (zqA HB.out)) : w.heap.size ≤ gb160)); clear HB; have HB := n0_; have BK160 := n1_; have GW160 := n2_; have GE160 := n3_; clear n0_ n1_ n2_ n3_; clear hb hbox hg; have hcz38_0 : w37.cell? ⟨gb160, 0, none⟩ = some (.int .i64 a0_0) := (blk_cell BK160.out 0).trans rfl; have hcz38_1 : w37.cell? ⟨gb160, 1, none⟩ = some (.slice A0_1 l0_1.length c0_1) := (blk_cell BK160.out 1).trans rfl; have hfz38_0 := blk_frozen BK160.out 0; have hfz38_1 := blk_frozen BK160.out 1) | ((with_reducible refine gate_callee (f := 21) rfl ?_); refine goesL_ (some 12) rfl rfl Try.func21 (by kernel_rfl) rfl #[.agg #[.int .i64 a0_0, .slice A0_1 l0_1.length c0_1]] rfl zqE ?_; (with_reducible refine (pianolaref03_Check.calls k a0_0 _ _ l0_1 t161 _ ?side1 ?side2 A2.out).mono ?_); (case side1 => exact zqK (Kd.C_below HR0_1.out HB.out)); (case side2 => exact HC0_1.out); rintro e w39 ⟨rfl, hb⟩; refine ⟨_, rfl, ?_⟩; have n0_ := zA (blk_below (g := gb160) (o := .cells #[.int .i64 a0_0, .slice A0_1 l0_1.length c0_1] 33 (0, 0)) (zqB BK160.out) hb); have n1_ := zA (below_step (zqG HB.out GE160.out) hb); clear BK160; clear HB; have BK160 := n0_; have HB := n1_; clear n0_ n1_; (try clear hb); (try clear hb2); (try clear hk); (try clear hi)))
  go_ret3
  exact ⟨_, zqR, by first | exact Kd.R_nil _ _ _ _ _ | exact Kd.N_nil _ _ _ _ _ | exact Kd.V_nil _ _ _ _ _ | exact Kd.Q_nil _ _ _ _ _ | exact Kd.S_nil _ _ _ _ _, zqG HB.out GE160.out⟩
def pianolaref03_Prove.l0 : Nat → Int → Int → Int → Int → List (S52) → Option (Int × Int)
  | 0, _, _, _, _, _ => none
  | k + 1, x5, x7, x8, x173000, x173001 => if x8 < (x173001.length : Int) then (if 0 ≤ x8 then ((pianolaref03_crowd.f k x173000 x173001 ((rd_T52 x173001 x8).f0)).bind fun t179 => (if (t179.length : Int) = x5 then (if x7 < 0 then (pianolaref03_Prove.l0 k x5 ((rd_T52 x173001 x8).f0) (wrap64 (x8 + 1)) x173000 x173001) else (if ((rd_T52 x173001 x8).f0) < x7 then (pianolaref03_Prove.l0 k x5 ((rd_T52 x173001 x8).f0) (wrap64 (x8 + 1)) x173000 x173001) else (pianolaref03_Prove.l0 k x5 x7 (wrap64 (x8 + 1)) x173000 x173001))) else (pianolaref03_Prove.l0 k x5 x7 (wrap64 (x8 + 1)) x173000 x173001))) else (none)) else (some (x7, 0))
def pianolaref03_Prove.f (k : Nat) (a0_0 : Int) (l0_1 : List (S52)) : Option (Int × Int) := (pianolaref03_Passes.f k a0_0 l0_1).bind fun bt173 => (if bt173.2.2 = 0 then (if bt173.2.1 = 0 then (some (0, 8)) else (pianolaref03_Prove.l0 k bt173.2.1 (-1) 0 a0_0 l0_1)) else (some (0, bt173.2.2)))
set_option maxHeartbeats 8000000 in
set_option maxRecDepth 100000 in
theorem pianolaref03_Prove.calls (k : Nat) (a0_0 : Int) (A0_1 : Option Addr) (c0_1 : Nat) (l0_1 : List (S52)) (r1 : Int) (r2 : Int) (w : World) (hr0_1 : Kd.C k52 w A0_1 l0_1.length l0_1) (hc0_1 : l0_1.length ≤ c0_1) (h : pianolaref03_Prove.f k a0_0 l0_1 = some (r1, r2)) :
  Calls Try.prog 25 #[.agg #[.int .i64 a0_0, .slice A0_1 l0_1.length c0_1]] w fun e w' => e = .returned (.tuple #[.int .i64 r1, .int .i64 r2]) ∧ Below w.heap.size w w' := by
 have hu33 := Try.underlying33
 have HR0_1 := zA hr0_1
 have HC0_1 := zA hc0_1
 clear hr0_1 hc0_1
 have HB := zA (Below.refl w.heap.size w)
 have H : ((pianolaref03_Passes.f k a0_0 l0_1).bind fun bt173 => (if bt173.2.2 = 0 then (if bt173.2.1 = 0 then (some (0, 8)) else (pianolaref03_Prove.l0 k bt173.2.1 (-1) 0 a0_0 l0_1)) else (some (0, bt173.2.2)))) = some (r1, r2) := h
 clear h
 replace H := Option.bind_eq_some_iff.mp H
 obtain ⟨⟨t173, t176, t177⟩, A20, H⟩ := H
 replace H : (if t177 = 0 then (if t176 = 0 then (some (0, 8)) else (pianolaref03_Prove.l0 k t176 (-1) 0 a0_0 l0_1)) else (some (0, t177))) = some (r1, r2) := H
 have A2 := zA A20
 clear A20
 by_cases c3 : t177 = 0
 ·
  rw [if_pos c3] at H
  have c3b0 : (t177 == 0) = true := beq_iff_eq.mpr c3
  have c3b1 : (t177 != 0) = false := bne_eq_false_iff_eq.mpr c3
  clear c3
  by_cases c4 : t176 = 0
  ·
   rw [if_pos c4] at H
   have c4b0 : (t176 == 0) = true := beq_iff_eq.mpr c4
   have c4b1 : (t176 != 0) = false := bne_eq_false_iff_eq.mpr c4
   clear c4
   simp only [Option.some.injEq, Prod.mk.injEq] at H
   obtain ⟨rfl, rfl⟩ := H
   go_enter Try.func25, Try.ntmps25
   go_wp2_with (first | ((with_reducible refine gate_dst (N := 1) rfl ?_); refine box_event ?hg (N := 1) ?hd (cs := #[.int .i64 a0_0, .slice A0_1 l0_1.length c0_1]) (t := 33) ?hr ?_; (case hd => rfl); (case hg => rfl); (case hr => first | (go_simp; done) | (go_simp; rfl)); intro gb172 hg w5 hbox hb; have n0_ := zA (below_step (zqA HB.out) hb); have n1_ := zA (hbox); have n2_ := zA ((by rw [hg]; exact (below_size (zqA HB.out)) : w.heap.size ≤ gb172)); have n3_ := zA ((by rw [hg]; exact (below_size (zqA HB.out)) : w.heap.size ≤ gb172)); clear HB; have HB := n0_; have BK172 := n1_; have GW172 := n2_; have GE172 := n3_; clear n0_ n1_ n2_ n3_; clear hb hbox hg; have hcz6_0 : w5.cell? ⟨gb172, 0, none⟩ = some (.int .i64 a0_0) := (blk_cell BK172.out 0).trans rfl; have hcz6_1 : w5.cell? ⟨gb172, 1, none⟩ = some (.slice A0_1 l0_1.length c0_1) := (blk_cell BK172.out 1).trans rfl; have hfz6_0 := blk_frozen BK172.out 0; have hfz6_1 := blk_frozen BK172.out 1) | ((with_reducible refine gate_callee (f := 23) rfl ?_); refine goesL_ (some 12) rfl rfl Try.func23 (by kernel_rfl) rfl #[.agg #[.int .i64 a0_0, .slice A0_1 l0_1.length c0_1]] rfl zqE ?_; (with_reducible refine (pianolaref03_Passes.calls k a0_0 _ _ l0_1 t173 t176 t177 _ ?side1 ?side2 A2.out).mono ?_); (case side1 => exact zqK (Kd.C_below HR0_1.out HB.out)); (case side2 => exact HC0_1.out); rintro e w7 ⟨v174, rfl, ho0, hb⟩; refine ⟨_, rfl, ?_⟩; have n0_ := zA (Kd.R_lower ho0 (below_size (zqG HB.out GE172.out))); have n1_ := zA (blk_below (g := gb172) (o := .cells #[.int .i64 a0_0, .slice A0_1 l0_1.length c0_1] 33 (0, 0)) (zqB BK172.out) hb); have n2_ := zA (below_step (zqG HB.out GE172.out) hb); clear BK172; clear HB; have HO175 := n0_; have BK172 := n1_; have HB := n2_; clear n0_ n1_ n2_; (try clear hb); (try clear hb2); (try clear hk); (try clear hi); (try clear ho0)))
   go_ret2
   exact ⟨zqR, zqG HB.out GE172.out⟩
  ·
   rw [if_neg c4] at H
   have c4b0 : (t176 == 0) = false := beq_eq_false_iff_ne.mpr c4
   have c4b1 : (t176 != 0) = true := bne_iff_ne.mpr c4
   have H' := zA H
   clear H
   go_enter Try.func25, Try.ntmps25
   go_wp2_with (first | ((with_reducible refine gate_dst (N := 1) rfl ?_); refine box_event ?hg (N := 1) ?hd (cs := #[.int .i64 a0_0, .slice A0_1 l0_1.length c0_1]) (t := 33) ?hr ?_; (case hd => rfl); (case hg => rfl); (case hr => first | (go_simp; done) | (go_simp; rfl)); intro gb172 hg w8 hbox hb; have n0_ := zA (below_step (zqA HB.out) hb); have n1_ := zA (hbox); have n2_ := zA ((by rw [hg]; exact (below_size (zqA HB.out)) : w.heap.size ≤ gb172)); have n3_ := zA ((by rw [hg]; exact (below_size (zqA HB.out)) : w.heap.size ≤ gb172)); clear HB; have HB := n0_; have BK172 := n1_; have GW172 := n2_; have GE172 := n3_; clear n0_ n1_ n2_ n3_; clear hb hbox hg; have hcz9_0 : w8.cell? ⟨gb172, 0, none⟩ = some (.int .i64 a0_0) := (blk_cell BK172.out 0).trans rfl; have hcz9_1 : w8.cell? ⟨gb172, 1, none⟩ = some (.slice A0_1 l0_1.length c0_1) := (blk_cell BK172.out 1).trans rfl; have hfz9_0 := blk_frozen BK172.out 0; have hfz9_1 := blk_frozen BK172.out 1) | ((with_reducible refine gate_callee (f := 23) rfl ?_); refine goesL_ (some 12) rfl rfl Try.func23 (by kernel_rfl) rfl #[.agg #[.int .i64 a0_0, .slice A0_1 l0_1.length c0_1]] rfl zqE ?_; (with_reducible refine (pianolaref03_Passes.calls k a0_0 _ _ l0_1 t173 t176 t177 _ ?side1 ?side2 A2.out).mono ?_); (case side1 => exact zqK (Kd.C_below HR0_1.out HB.out)); (case side2 => exact HC0_1.out); rintro e w10 ⟨v174, rfl, ho0, hb⟩; refine ⟨_, rfl, ?_⟩; have n0_ := zA (Kd.R_lower ho0 (below_size (zqG HB.out GE172.out))); have n1_ := zA (blk_below (g := gb172) (o := .cells #[.int .i64 a0_0, .slice A0_1 l0_1.length c0_1] 33 (0, 0)) (zqB BK172.out) hb); have n2_ := zA (below_step (zqG HB.out GE172.out) hb); clear BK172; clear HB; have HO175 := n0_; have BK172 := n1_; have HB := n2_; clear n0_ n1_ n2_; (try clear hb); (try clear hb2); (try clear hk); (try clear hi); (try clear ho0)))
   go_loopg [7, 8] k (fun kq v7 v8 w' => ∃ (x7_1 : Int) (x8_1 : Int), v7 = .int .i64 x7_1 ∧ v8 = .int .i64 x8_1 ∧ Aside0 (pianolaref03_Prove.l0 kq t176 x7_1 x8_1 a0_0 l0_1 = some (r1, r2)) ∧ Aside0 (kq ≤ k) ∧ Aside0 (w'.heap[gb172]? = some (.cells #[.int .i64 a0_0, (.slice A0_1 l0_1.length c0_1)] 33 (0, 0))) ∧ Aside0 (Below w.heap.size w w'))
   case atStart => exact ⟨((-1)), (0), zqQ, zqQ, H', ⟨Nat.le_refl _⟩, ⟨zqB BK172.out⟩, ⟨zqG HB.out GE172.out⟩⟩
   case round =>
    clear H'
    try clear c2
    try clear p2
    try clear c3
    try clear c3b0
    try clear c3b1
    try clear c4
    try clear c4b0
    try clear c4b1
    try clear hcz6_0
    try clear hcz6_1
    try clear hcz9_0
    try clear hcz9_1
    try clear hfz6_0
    try clear hfz6_1
    try clear hfz9_0
    try clear hfz9_1
    obtain ⟨x7_1, x8_1, rfl, rfl, HA, HK1, BK172, HB⟩ := hrel
    cases gk with
    | zero => exact absurd HA.out (by simp [pianolaref03_Prove.l0])
    | succ k1 =>
     have H := HA.out
     clear HA
     simp only [pianolaref03_Prove.l0] at H
     by_cases c11 : x8_1 < (l0_1.length : Int)
     ·
      rw [if_pos c11] at H
      have c11b0 : decide (x8_1 < (l0_1.length : Int)) = true := decide_eq_true c11
      clear c11
      by_cases c12 : 0 ≤ x8_1
      ·
       rw [if_pos c12] at H
       have c12b0 : decide (0 ≤ x8_1) = true := decide_eq_true c12
       clear c12
       replace H := Option.bind_eq_some_iff.mp H
       obtain ⟨t179, A130, H⟩ := H
       replace H : (if (t179.length : Int) = t176 then (if x7_1 < 0 then (pianolaref03_Prove.l0 k1 t176 ((rd_T52 l0_1 x8_1).f0) (wrap64 (x8_1 + 1)) a0_0 l0_1) else (if ((rd_T52 l0_1 x8_1).f0) < x7_1 then (pianolaref03_Prove.l0 k1 t176 ((rd_T52 l0_1 x8_1).f0) (wrap64 (x8_1 + 1)) a0_0 l0_1) else (pianolaref03_Prove.l0 k1 t176 x7_1 (wrap64 (x8_1 + 1)) a0_0 l0_1))) else (pianolaref03_Prove.l0 k1 t176 x7_1 (wrap64 (x8_1 + 1)) a0_0 l0_1)) = some (r1, r2) := H
       have A13 := zA A130
       clear A130
       by_cases c14 : (t179.length : Int) = t176
       ·
        rw [if_pos c14] at H
        have c14b0 : ((t179.length : Int) == t176) = true := beq_iff_eq.mpr c14
        have c14b1 : ((t179.length : Int) != t176) = false := bne_eq_false_iff_eq.mpr c14
        clear c14
        by_cases c15 : x7_1 < 0
        ·
         rw [if_pos c15] at H
         have c15b0 : decide (x7_1 < 0) = true := decide_eq_true c15
         clear c15
         have H' := zA H
         clear H
         have hcz16_0 : wr.cell? ⟨gb172, 0, none⟩ = some (.int .i64 a0_0) := (blk_cell BK172.out 0).trans rfl
         have hcz16_1 : wr.cell? ⟨gb172, 1, none⟩ = some (.slice A0_1 l0_1.length c0_1) := (blk_cell BK172.out 1).trans rfl
         have hfz16_0 := blk_frozen BK172.out 0
         have hfz16_1 := blk_frozen BK172.out 1
         have p178 : 0 ≤ (x8_1 : Int) := of_decide_eq_true (zqD)
         have q178 : x8_1 < (l0_1.length : Int) := of_decide_eq_true (zqD)
         obtain ⟨ad178, e178, hx178_0, hx178_1⟩ := at_T52 HR0_1.out x8_1 p178 q178
         cases e178
         replace hx178_0 := (HB.out.cell (World.block_lt_of_cell? w _ hx178_0)).trans hx178_0
         replace hx178_1 := (HB.out.cell (World.block_lt_of_cell? w _ hx178_1)).trans hx178_1
         replace p178 := eq_true p178; replace q178 := eq_true q178
         go_wp2_with (first | ((with_reducible refine gate_callee (f := 50) rfl ?_); refine goesL_ (some 36) rfl rfl Try.func50 (by kernel_rfl) rfl #[.agg #[.int .i64 a0_0, .slice (some ad178) l0_1.length c0_1], .int .i64 ((rd_T52 l0_1 x8_1).f0)] rfl zqE ?_; (with_reducible refine (pianolaref03_crowd.calls k1 a0_0 _ _ l0_1 ((rd_T52 l0_1 x8_1).f0) t179 _ ?side1 ?side2 A13.out).mono ?_); (case side1 => exact zqK (Kd.C_below HR0_1.out HB.out)); (case side2 => exact HC0_1.out); rintro e w17 ⟨v180, rfl, ho0, hb⟩; refine ⟨_, rfl, ?_⟩; have n0_ := zA (Kd.R_lower ho0 (below_size (zqG HB.out GE172.out))); have n1_ := zA (blk_below (g := gb172) (o := .cells #[.int .i64 a0_0, .slice (some ad178) l0_1.length c0_1] 33 (0, 0)) (zqB BK172.out) hb); have n2_ := zA (below_step (zqG HB.out GE172.out) hb); clear BK172; clear HB; have HO181 := n0_; have BK172 := n1_; have HB := n2_; clear n0_ n1_ n2_; (try clear hb); (try clear hb2); (try clear hk); (try clear hi); (try clear ho0); obtain ⟨Ao18, co18, eo18⟩ := Kd.R_slice HO181.out; subst eo18))
         go_roundg k1
         case measure => have := HK1.out; omega
         case rel => exact ⟨((rd_T52 l0_1 x8_1).f0), (wrap64 (x8_1 + 1)), zqQ, zqQ, H', ⟨by have := HK1.out; omega⟩, ⟨zqB BK172.out⟩, ⟨zqG HB.out GE172.out⟩⟩
        ·
         rw [if_neg c15] at H
         have c15b0 : decide (x7_1 < 0) = false := decide_eq_false c15
         clear c15
         by_cases c19 : ((rd_T52 l0_1 x8_1).f0) < x7_1
         ·
          rw [if_pos c19] at H
          have c19b0 : decide (((rd_T52 l0_1 x8_1).f0) < x7_1) = true := decide_eq_true c19
          clear c19
          have H' := zA H
          clear H
          have hcz20_0 : wr.cell? ⟨gb172, 0, none⟩ = some (.int .i64 a0_0) := (blk_cell BK172.out 0).trans rfl
          have hcz20_1 : wr.cell? ⟨gb172, 1, none⟩ = some (.slice A0_1 l0_1.length c0_1) := (blk_cell BK172.out 1).trans rfl
          have hfz20_0 := blk_frozen BK172.out 0
          have hfz20_1 := blk_frozen BK172.out 1
          have p178 : 0 ≤ (x8_1 : Int) := of_decide_eq_true (zqD)
          have q178 : x8_1 < (l0_1.length : Int) := of_decide_eq_true (zqD)
          obtain ⟨ad178, e178, hx178_0, hx178_1⟩ := at_T52 HR0_1.out x8_1 p178 q178
          cases e178
          replace hx178_0 := (HB.out.cell (World.block_lt_of_cell? w _ hx178_0)).trans hx178_0
          replace hx178_1 := (HB.out.cell (World.block_lt_of_cell? w _ hx178_1)).trans hx178_1
          replace p178 := eq_true p178; replace q178 := eq_true q178
          go_wp2_with (first | ((with_reducible refine gate_callee (f := 50) rfl ?_); refine goesL_ (some 36) rfl rfl Try.func50 (by kernel_rfl) rfl #[.agg #[.int .i64 a0_0, .slice (some ad178) l0_1.length c0_1], .int .i64 ((rd_T52 l0_1 x8_1).f0)] rfl zqE ?_; (with_reducible refine (pianolaref03_crowd.calls k1 a0_0 _ _ l0_1 ((rd_T52 l0_1 x8_1).f0) t179 _ ?side1 ?side2 A13.out).mono ?_); (case side1 => exact zqK (Kd.C_below HR0_1.out HB.out)); (case side2 => exact HC0_1.out); rintro e w21 ⟨v180, rfl, ho0, hb⟩; refine ⟨_, rfl, ?_⟩; have n0_ := zA (Kd.R_lower ho0 (below_size (zqG HB.out GE172.out))); have n1_ := zA (blk_below (g := gb172) (o := .cells #[.int .i64 a0_0, .slice (some ad178) l0_1.length c0_1] 33 (0, 0)) (zqB BK172.out) hb); have n2_ := zA (below_step (zqG HB.out GE172.out) hb); clear BK172; clear HB; have HO181 := n0_; have BK172 := n1_; have HB := n2_; clear n0_ n1_ n2_; (try clear hb); (try clear hb2); (try clear hk); (try clear hi); (try clear ho0); obtain ⟨Ao22, co22, eo22⟩ := Kd.R_slice HO181.out; subst eo22))
          go_roundg k1
          case measure => have := HK1.out; omega
          case rel => exact ⟨((rd_T52 l0_1 x8_1).f0), (wrap64 (x8_1 + 1)), zqQ, zqQ, H', ⟨by have := HK1.out; omega⟩, ⟨zqB BK172.out⟩, ⟨zqG HB.out GE172.out⟩⟩
         ·
          rw [if_neg c19] at H
          have c19b0 : decide (((rd_T52 l0_1 x8_1).f0) < x7_1) = false := decide_eq_false c19
          clear c19
          have H' := zA H
          clear H
          have hcz23_0 : wr.cell? ⟨gb172, 0, none⟩ = some (.int .i64 a0_0) := (blk_cell BK172.out 0).trans rfl
          have hcz23_1 : wr.cell? ⟨gb172, 1, none⟩ = some (.slice A0_1 l0_1.length c0_1) := (blk_cell BK172.out 1).trans rfl
          have hfz23_0 := blk_frozen BK172.out 0
          have hfz23_1 := blk_frozen BK172.out 1
          have p178 : 0 ≤ (x8_1 : Int) := of_decide_eq_true (zqD)
          have q178 : x8_1 < (l0_1.length : Int) := of_decide_eq_true (zqD)
          obtain ⟨ad178, e178, hx178_0, hx178_1⟩ := at_T52 HR0_1.out x8_1 p178 q178
          cases e178
          replace hx178_0 := (HB.out.cell (World.block_lt_of_cell? w _ hx178_0)).trans hx178_0
          replace hx178_1 := (HB.out.cell (World.block_lt_of_cell? w _ hx178_1)).trans hx178_1
          replace p178 := eq_true p178; replace q178 := eq_true q178
          go_wp2_with (first | ((with_reducible refine gate_callee (f := 50) rfl ?_); refine goesL_ (some 36) rfl rfl Try.func50 (by kernel_rfl) rfl #[.agg #[.int .i64 a0_0, .slice (some ad178) l0_1.length c0_1], .int .i64 ((rd_T52 l0_1 x8_1).f0)] rfl zqE ?_; (with_reducible refine (pianolaref03_crowd.calls k1 a0_0 _ _ l0_1 ((rd_T52 l0_1 x8_1).f0) t179 _ ?side1 ?side2 A13.out).mono ?_); (case side1 => exact zqK (Kd.C_below HR0_1.out HB.out)); (case side2 => exact HC0_1.out); rintro e w24 ⟨v180, rfl, ho0, hb⟩; refine ⟨_, rfl, ?_⟩; have n0_ := zA (Kd.R_lower ho0 (below_size (zqG HB.out GE172.out))); have n1_ := zA (blk_below (g := gb172) (o := .cells #[.int .i64 a0_0, .slice (some ad178) l0_1.length c0_1] 33 (0, 0)) (zqB BK172.out) hb); have n2_ := zA (below_step (zqG HB.out GE172.out) hb); clear BK172; clear HB; have HO181 := n0_; have BK172 := n1_; have HB := n2_; clear n0_ n1_ n2_; (try clear hb); (try clear hb2); (try clear hk); (try clear hi); (try clear ho0); obtain ⟨Ao25, co25, eo25⟩ := Kd.R_slice HO181.out; subst eo25))
          go_roundg k1
          case measure => have := HK1.out; omega
          case rel => exact ⟨(x7_1), (wrap64 (x8_1 + 1)), zqQ, zqQ, H', ⟨by have := HK1.out; omega⟩, ⟨zqB BK172.out⟩, ⟨zqG HB.out GE172.out⟩⟩
       ·
        rw [if_neg c14] at H
        have c14b0 : ((t179.length : Int) == t176) = false := beq_eq_false_iff_ne.mpr c14
        have c14b1 : ((t179.length : Int) != t176) = true := bne_iff_ne.mpr c14
        have H' := zA H
        clear H
        have hcz26_0 : wr.cell? ⟨gb172, 0, none⟩ = some (.int .i64 a0_0) := (blk_cell BK172.out 0).trans rfl
        have hcz26_1 : wr.cell? ⟨gb172, 1, none⟩ = some (.slice A0_1 l0_1.length c0_1) := (blk_cell BK172.out 1).trans rfl
        have hfz26_0 := blk_frozen BK172.out 0
        have hfz26_1 := blk_frozen BK172.out 1
        have p178 : 0 ≤ (x8_1 : Int) := of_decide_eq_true (zqD)
        have q178 : x8_1 < (l0_1.length : Int) := of_decide_eq_true (zqD)
        obtain ⟨ad178, e178, hx178_0, hx178_1⟩ := at_T52 HR0_1.out x8_1 p178 q178
        cases e178
        replace hx178_0 := (HB.out.cell (World.block_lt_of_cell? w _ hx178_0)).trans hx178_0
        replace hx178_1 := (HB.out.cell (World.block_lt_of_cell? w _ hx178_1)).trans hx178_1
        replace p178 := eq_true p178; replace q178 := eq_true q178
        go_wp2_with (first | ((with_reducible refine gate_callee (f := 50) rfl ?_); refine goesL_ (some 36) rfl rfl Try.func50 (by kernel_rfl) rfl #[.agg #[.int .i64 a0_0, .slice (some ad178) l0_1.length c0_1], .int .i64 ((rd_T52 l0_1 x8_1).f0)] rfl zqE ?_; (with_reducible refine (pianolaref03_crowd.calls k1 a0_0 _ _ l0_1 ((rd_T52 l0_1 x8_1).f0) t179 _ ?side1 ?side2 A13.out).mono ?_); (case side1 => exact zqK (Kd.C_below HR0_1.out HB.out)); (case side2 => exact HC0_1.out); rintro e w27 ⟨v180, rfl, ho0, hb⟩; refine ⟨_, rfl, ?_⟩; have n0_ := zA (Kd.R_lower ho0 (below_size (zqG HB.out GE172.out))); have n1_ := zA (blk_below (g := gb172) (o := .cells #[.int .i64 a0_0, .slice (some ad178) l0_1.length c0_1] 33 (0, 0)) (zqB BK172.out) hb); have n2_ := zA (below_step (zqG HB.out GE172.out) hb); clear BK172; clear HB; have HO181 := n0_; have BK172 := n1_; have HB := n2_; clear n0_ n1_ n2_; (try clear hb); (try clear hb2); (try clear hk); (try clear hi); (try clear ho0); obtain ⟨Ao28, co28, eo28⟩ := Kd.R_slice HO181.out; subst eo28))
        go_roundg k1
        case measure => have := HK1.out; omega
        case rel => exact ⟨(x7_1), (wrap64 (x8_1 + 1)), zqQ, zqQ, H', ⟨by have := HK1.out; omega⟩, ⟨zqB BK172.out⟩, ⟨zqG HB.out GE172.out⟩⟩
      ·
       rw [if_neg c12] at H
       exact absurd H (by simp)
     ·
      rw [if_neg c11] at H
      have c11b0 : decide (x8_1 < (l0_1.length : Int)) = false := decide_eq_false c11
      clear c11
      simp only [Option.some.injEq, Prod.mk.injEq] at H
      obtain ⟨rfl, rfl⟩ := H
      have hcz29_0 : wr.cell? ⟨gb172, 0, none⟩ = some (.int .i64 a0_0) := (blk_cell BK172.out 0).trans rfl
      have hcz29_1 : wr.cell? ⟨gb172, 1, none⟩ = some (.slice A0_1 l0_1.length c0_1) := (blk_cell BK172.out 1).trans rfl
      have hfz29_0 := blk_frozen BK172.out 0
      have hfz29_1 := blk_frozen BK172.out 1
      go_wp2
      go_ret2
      exact ⟨zqR, zqG HB.out GE172.out⟩
 ·
  rw [if_neg c3] at H
  have c3b0 : (t177 == 0) = false := beq_eq_false_iff_ne.mpr c3
  have c3b1 : (t177 != 0) = true := bne_iff_ne.mpr c3
  simp only [Option.some.injEq, Prod.mk.injEq] at H
  obtain ⟨rfl, rfl⟩ := H
  go_enter Try.func25, Try.ntmps25
  go_wp2_with (first | ((with_reducible refine gate_dst (N := 1) rfl ?_); refine box_event ?hg (N := 1) ?hd (cs := #[.int .i64 a0_0, .slice A0_1 l0_1.length c0_1]) (t := 33) ?hr ?_; (case hd => rfl); (case hg => rfl); (case hr => first | (go_simp; done) | (go_simp; rfl)); intro gb172 hg w30 hbox hb; have n0_ := zA (below_step (zqA HB.out) hb); have n1_ := zA (hbox); have n2_ := zA ((by rw [hg]; exact (below_size (zqA HB.out)) : w.heap.size ≤ gb172)); have n3_ := zA ((by rw [hg]; exact (below_size (zqA HB.out)) : w.heap.size ≤ gb172)); clear HB; have HB := n0_; have BK172 := n1_; have GW172 := n2_; have GE172 := n3_; clear n0_ n1_ n2_ n3_; clear hb hbox hg; have hcz31_0 : w30.cell? ⟨gb172, 0, none⟩ = some (.int .i64 a0_0) := (blk_cell BK172.out 0).trans rfl; have hcz31_1 : w30.cell? ⟨gb172, 1, none⟩ = some (.slice A0_1 l0_1.length c0_1) := (blk_cell BK172.out 1).trans rfl; have hfz31_0 := blk_frozen BK172.out 0; have hfz31_1 := blk_frozen BK172.out 1) | ((with_reducible refine gate_callee (f := 23) rfl ?_); refine goesL_ (some 12) rfl rfl Try.func23 (by kernel_rfl) rfl #[.agg #[.int .i64 a0_0, .slice A0_1 l0_1.length c0_1]] rfl zqE ?_; (with_reducible refine (pianolaref03_Passes.calls k a0_0 _ _ l0_1 t173 t176 t177 _ ?side1 ?side2 A2.out).mono ?_); (case side1 => exact zqK (Kd.C_below HR0_1.out HB.out)); (case side2 => exact HC0_1.out); rintro e w32 ⟨v174, rfl, ho0, hb⟩; refine ⟨_, rfl, ?_⟩; have n0_ := zA (Kd.R_lower ho0 (below_size (zqG HB.out GE172.out))); have n1_ := zA (blk_below (g := gb172) (o := .cells #[.int .i64 a0_0, .slice A0_1 l0_1.length c0_1] 33 (0, 0)) (zqB BK172.out) hb); have n2_ := zA (below_step (zqG HB.out GE172.out) hb); clear BK172; clear HB; have HO175 := n0_; have BK172 := n1_; have HB := n2_; clear n0_ n1_ n2_; (try clear hb); (try clear hb2); (try clear hk); (try clear hi); (try clear ho0)))
  go_ret2
  exact ⟨zqR, zqG HB.out GE172.out⟩
end Go.Proofs.Ytegffliopblajaa.P
end
end
section
namespace Go.Proofs.Ytegffliopblajaa.P
open Go.RowKit Go.Proofs.YtegffliopblajaaW.PrintWords Go.Proofs.YtegffliopblajaaW.PrintLast Go.Proofs.YtegffliopblajaaW.PrintMore
attribute [local go_sem] max2_int min2_int max_two min_two max_three min_three max_four min_four
set_option linter.unusedVariables false
set_option linter.unusedSimpArgs false
def pianolalaw03_PunchPlans.f (k : Nat) (a0_0 : Int) (l0_1 : List (S47)) : Option (Bool) := if (l0_1.length : Int) > 80 then ((pianolalaw03_works.f).bind fun t183 => (some t183)) else ((punch_Passes.f a0_0 l0_1).bind fun bt184 => ((pianolalaw03_given.f k a0_0 l0_1).bind fun bt189 => ((pianolaref03_Passes.f k bt189.1 bt189.2).bind fun bt193 => ((punch_Prove.f a0_0 l0_1).bind fun bt198 => ((pianolalaw03_given.f k a0_0 l0_1).bind fun bt200 => ((pianolaref03_Prove.f k bt200.1 bt200.2).bind fun bt204 => ((pianolalaw03_numbers.f k bt184.1 bt193.1).bind fun t206 => (if t206 = true then (if bt184.2.1 = bt193.2.1 then (if bt184.2.2 = bt193.2.2 then (if bt198.1 = bt204.1 then (if bt198.2 = bt204.2 then ((pianolalaw03_works.f).bind fun t207 => (some t207)) else (some false)) else (some false)) else (some false)) else (some false)) else (some false)))))))))
set_option maxHeartbeats 8000000 in
set_option maxRecDepth 100000 in
theorem pianolalaw03_PunchPlans.calls (k : Nat) (a0_0 : Int) (A0_1 : Option Addr) (c0_1 : Nat) (l0_1 : List (S47)) (r : Bool) (w : World) (hr0_1 : Kd.C k47 w A0_1 l0_1.length l0_1) (hc0_1 : l0_1.length ≤ c0_1) (h : pianolalaw03_PunchPlans.f k a0_0 l0_1 = some r) :
  Calls Try.prog 4 #[.agg #[.int .i64 a0_0, .slice A0_1 l0_1.length c0_1]] w fun e w' => e = .returned (.bool r) ∧ Below w.heap.size w w' := by
 have hu24 := Try.underlying24
 have HR0_1 := zA hr0_1
 have HC0_1 := zA hc0_1
 clear hr0_1 hc0_1
 have HB := zA (Below.refl w.heap.size w)
 have H : (if (l0_1.length : Int) > 80 then ((pianolalaw03_works.f).bind fun t183 => (some t183)) else ((punch_Passes.f a0_0 l0_1).bind fun bt184 => ((pianolalaw03_given.f k a0_0 l0_1).bind fun bt189 => ((pianolaref03_Passes.f k bt189.1 bt189.2).bind fun bt193 => ((punch_Prove.f a0_0 l0_1).bind fun bt198 => ((pianolalaw03_given.f k a0_0 l0_1).bind fun bt200 => ((pianolaref03_Prove.f k bt200.1 bt200.2).bind fun bt204 => ((pianolalaw03_numbers.f k bt184.1 bt193.1).bind fun t206 => (if t206 = true then (if bt184.2.1 = bt193.2.1 then (if bt184.2.2 = bt193.2.2 then (if bt198.1 = bt204.1 then (if bt198.2 = bt204.2 then ((pianolalaw03_works.f).bind fun t207 => (some t207)) else (some false)) else (some false)) else (some false)) else (some false)) else (some false)))))))))) = some r := h
 clear h
 by_cases c2 : (l0_1.length : Int) > 80
 ·
  rw [if_pos c2] at H
  have c2b0 : decide (80 < (l0_1.length : Int)) = true := decide_eq_true c2
  have c2b1 : decide (80 < l0_1.length) = true := decide_eq_true (by omega)
  clear c2
  replace H := Option.bind_eq_some_iff.mp H
  obtain ⟨t183, A30, H⟩ := H
  replace H : (some t183) = some r := H
  have A3 := zA A30
  clear A30
  obtain rfl := Option.some.inj H
  go_enter Try.func4, Try.ntmps4
  go_wp2_with (first | ((with_reducible refine gate_dst (N := 1) rfl ?_); refine box_event ?hg (N := 1) ?hd (cs := #[.int .i64 a0_0, .slice A0_1 l0_1.length c0_1]) (t := 24) ?hr ?_; (case hd => rfl); (case hg => rfl); (case hr => first | (go_simp; done) | (go_simp; rfl)); intro gb182 hg w4 hbox hb; have n0_ := zA (below_step (zqA HB.out) hb); have n1_ := zA (hbox); have n2_ := zA ((by rw [hg]; exact (below_size (zqA HB.out)) : w.heap.size ≤ gb182)); have n3_ := zA ((by rw [hg]; exact (below_size (zqA HB.out)) : w.heap.size ≤ gb182)); clear HB; have HB := n0_; have BK182 := n1_; have GW182 := n2_; have GE182 := n3_; clear n0_ n1_ n2_ n3_; clear hb hbox hg; have hcz5_0 : w4.cell? ⟨gb182, 0, none⟩ = some (.int .i64 a0_0) := (blk_cell BK182.out 0).trans rfl; have hcz5_1 : w4.cell? ⟨gb182, 1, none⟩ = some (.slice A0_1 l0_1.length c0_1) := (blk_cell BK182.out 1).trans rfl; have hfz5_0 := blk_frozen BK182.out 0; have hfz5_1 := blk_frozen BK182.out 1) | ((with_reducible refine gate_callee (f := 15) rfl ?_); refine goesL_ (some 17) rfl rfl Try.func15 (by kernel_rfl) rfl #[] rfl zqE ?_; (with_reducible refine (pianolalaw03_works.calls  t183 _ A3.out).mono ?_); rintro e w6 ⟨rfl, hb⟩; refine ⟨_, rfl, ?_⟩; have n0_ := zA (blk_below (g := gb182) (o := .cells #[.int .i64 a0_0, .slice A0_1 l0_1.length c0_1] 24 (0, 0)) (zqB BK182.out) hb); have n1_ := zA (below_step (zqG HB.out GE182.out) hb); clear BK182; clear HB; have BK182 := n0_; have HB := n1_; clear n0_ n1_; (try clear hb); (try clear hb2); (try clear hk); (try clear hi)))
  go_ret
  exact ⟨zqR, zqG HB.out GE182.out⟩
 ·
  rw [if_neg c2] at H
  have c2b0 : decide (80 < (l0_1.length : Int)) = false := decide_eq_false c2
  have c2b1 : decide (80 < l0_1.length) = false := decide_eq_false (by omega)
  clear c2
  replace H := Option.bind_eq_some_iff.mp H
  obtain ⟨⟨t184, t187, t188⟩, A70, H⟩ := H
  replace H : ((pianolalaw03_given.f k a0_0 l0_1).bind fun bt189 => ((pianolaref03_Passes.f k bt189.1 bt189.2).bind fun bt193 => ((punch_Prove.f a0_0 l0_1).bind fun bt198 => ((pianolalaw03_given.f k a0_0 l0_1).bind fun bt200 => ((pianolaref03_Prove.f k bt200.1 bt200.2).bind fun bt204 => ((pianolalaw03_numbers.f k t184 bt193.1).bind fun t206 => (if t206 = true then (if t187 = bt193.2.1 then (if t188 = bt193.2.2 then (if bt198.1 = bt204.1 then (if bt198.2 = bt204.2 then ((pianolalaw03_works.f).bind fun t207 => (some t207)) else (some false)) else (some false)) else (some false)) else (some false)) else (some false)))))))) = some r := H
  have A7 := zA A70
  clear A70
  replace H := Option.bind_eq_some_iff.mp H
  obtain ⟨⟨t189, t190⟩, A80, H⟩ := H
  replace H : ((pianolaref03_Passes.f k t189 t190).bind fun bt193 => ((punch_Prove.f a0_0 l0_1).bind fun bt198 => ((pianolalaw03_given.f k a0_0 l0_1).bind fun bt200 => ((pianolaref03_Prove.f k bt200.1 bt200.2).bind fun bt204 => ((pianolalaw03_numbers.f k t184 bt193.1).bind fun t206 => (if t206 = true then (if t187 = bt193.2.1 then (if t188 = bt193.2.2 then (if bt198.1 = bt204.1 then (if bt198.2 = bt204.2 then ((pianolalaw03_works.f).bind fun t207 => (some t207)) else (some false)) else (some false)) else (some false)) else (some false)) else (some false))))))) = some r := H
  have A8 := zA A80
  clear A80
  replace H := Option.bind_eq_some_iff.mp H
  obtain ⟨⟨t193, t196, t197⟩, A90, H⟩ := H
  replace H : ((punch_Prove.f a0_0 l0_1).bind fun bt198 => ((pianolalaw03_given.f k a0_0 l0_1).bind fun bt200 => ((pianolaref03_Prove.f k bt200.1 bt200.2).bind fun bt204 => ((pianolalaw03_numbers.f k t184 t193).bind fun t206 => (if t206 = true then (if t187 = t196 then (if t188 = t197 then (if bt198.1 = bt204.1 then (if bt198.2 = bt204.2 then ((pianolalaw03_works.f).bind fun t207 => (some t207)) else (some false)) else (some false)) else (some false)) else (some false)) else (some false)))))) = some r := H
  have A9 := zA A90
  clear A90
  replace H := Option.bind_eq_some_iff.mp H
  obtain ⟨⟨t198, t199⟩, A100, H⟩ := H
  replace H : ((pianolalaw03_given.f k a0_0 l0_1).bind fun bt200 => ((pianolaref03_Prove.f k bt200.1 bt200.2).bind fun bt204 => ((pianolalaw03_numbers.f k t184 t193).bind fun t206 => (if t206 = true then (if t187 = t196 then (if t188 = t197 then (if t198 = bt204.1 then (if t199 = bt204.2 then ((pianolalaw03_works.f).bind fun t207 => (some t207)) else (some false)) else (some false)) else (some false)) else (some false)) else (some false))))) = some r := H
  have A10 := zA A100
  clear A100
  replace H := Option.bind_eq_some_iff.mp H
  obtain ⟨⟨t200, t201⟩, A110, H⟩ := H
  replace H : ((pianolaref03_Prove.f k t200 t201).bind fun bt204 => ((pianolalaw03_numbers.f k t184 t193).bind fun t206 => (if t206 = true then (if t187 = t196 then (if t188 = t197 then (if t198 = bt204.1 then (if t199 = bt204.2 then ((pianolalaw03_works.f).bind fun t207 => (some t207)) else (some false)) else (some false)) else (some false)) else (some false)) else (some false)))) = some r := H
  have A11 := zA A110
  clear A110
  replace H := Option.bind_eq_some_iff.mp H
  obtain ⟨⟨t204, t205⟩, A120, H⟩ := H
  replace H : ((pianolalaw03_numbers.f k t184 t193).bind fun t206 => (if t206 = true then (if t187 = t196 then (if t188 = t197 then (if t198 = t204 then (if t199 = t205 then ((pianolalaw03_works.f).bind fun t207 => (some t207)) else (some false)) else (some false)) else (some false)) else (some false)) else (some false))) = some r := H
  have A12 := zA A120
  clear A120
  replace H := Option.bind_eq_some_iff.mp H
  obtain ⟨t206, A130, H⟩ := H
  replace H : (if t206 = true then (if t187 = t196 then (if t188 = t197 then (if t198 = t204 then (if t199 = t205 then ((pianolalaw03_works.f).bind fun t207 => (some t207)) else (some false)) else (some false)) else (some false)) else (some false)) else (some false)) = some r := H
  have A13 := zA A130
  clear A130
  by_cases c14 : t206 = true
  ·
   subst c14
   have H1 : (if t187 = t196 then (if t188 = t197 then (if t198 = t204 then (if t199 = t205 then ((pianolalaw03_works.f).bind fun t207 => (some t207)) else (some false)) else (some false)) else (some false)) else (some false)) = some r := by rw [if_pos rfl] at H; exact H
   clear H; have H := H1; clear H1
   by_cases c15 : t187 = t196
   ·
    rw [if_pos c15] at H
    have c15b0 : (t187 == t196) = true := beq_iff_eq.mpr c15
    have c15b1 : (t187 != t196) = false := bne_eq_false_iff_eq.mpr c15
    clear c15
    by_cases c16 : t188 = t197
    ·
     rw [if_pos c16] at H
     have c16b0 : (t188 == t197) = true := beq_iff_eq.mpr c16
     have c16b1 : (t188 != t197) = false := bne_eq_false_iff_eq.mpr c16
     clear c16
     by_cases c17 : t198 = t204
     ·
      rw [if_pos c17] at H
      have c17b0 : (t198 == t204) = true := beq_iff_eq.mpr c17
      have c17b1 : (t198 != t204) = false := bne_eq_false_iff_eq.mpr c17
      clear c17
      by_cases c18 : t199 = t205
      ·
       rw [if_pos c18] at H
       have c18b0 : (t199 == t205) = true := beq_iff_eq.mpr c18
       have c18b1 : (t199 != t205) = false := bne_eq_false_iff_eq.mpr c18
       clear c18
       replace H := Option.bind_eq_some_iff.mp H
       obtain ⟨t207, A190, H⟩ := H
       replace H : (some t207) = some r := H
       have A19 := zA A190
       clear A190
       obtain rfl := Option.some.inj H
       go_enter Try.func4, Try.ntmps4
       go_wp2_with (first | ((with_reducible refine gate_dst (N := 1) rfl ?_); refine box_event ?hg (N := 1) ?hd (cs := #[.int .i64 a0_0, .slice A0_1 l0_1.length c0_1]) (t := 24) ?hr ?_; (case hd => rfl); (case hg => rfl); (case hr => first | (go_simp; done) | (go_simp; rfl)); intro gb182 hg w20 hbox hb; have n0_ := zA (below_step (zqA HB.out) hb); have n1_ := zA (hbox); have n2_ := zA ((by rw [hg]; exact (below_size (zqA HB.out)) : w.heap.size ≤ gb182)); have n3_ := zA ((by rw [hg]; exact (below_size (zqA HB.out)) : w.heap.size ≤ gb182)); clear HB; have HB := n0_; have BK182 := n1_; have GW182 := n2_; have GE182 := n3_; clear n0_ n1_ n2_ n3_; clear hb hbox hg; have hcz21_0 : w20.cell? ⟨gb182, 0, none⟩ = some (.int .i64 a0_0) := (blk_cell BK182.out 0).trans rfl; have hcz21_1 : w20.cell? ⟨gb182, 1, none⟩ = some (.slice A0_1 l0_1.length c0_1) := (blk_cell BK182.out 1).trans rfl; have hfz21_0 := blk_frozen BK182.out 0; have hfz21_1 := blk_frozen BK182.out 1) | ((with_reducible refine gate_callee (f := 22) rfl ?_); refine goesL_ (some 20) rfl rfl Try.func22 (by kernel_rfl) rfl #[.agg #[.int .i64 a0_0, .slice A0_1 l0_1.length c0_1]] rfl zqE ?_; (with_reducible refine (punch_Passes.calls a0_0 _ _ l0_1 t184 t187 t188 _ ?side1 ?side2 A7.out).mono ?_); (case side1 => exact zqK (Kd.C_below HR0_1.out HB.out)); (case side2 => exact HC0_1.out); rintro e w22 ⟨v185, rfl, ho0, hb⟩; refine ⟨_, rfl, ?_⟩; have n0_ := zA (Kd.R_lower ho0 (below_size (zqG HB.out GE182.out))); have n1_ := zA (blk_below (g := gb182) (o := .cells #[.int .i64 a0_0, .slice A0_1 l0_1.length c0_1] 24 (0, 0)) (zqB BK182.out) hb); have n2_ := zA (below_step (zqG HB.out GE182.out) hb); clear BK182; clear HB; have HO186 := n0_; have BK182 := n1_; have HB := n2_; clear n0_ n1_ n2_; (try clear hb); (try clear hb2); (try clear hk); (try clear hi); (try clear ho0); have hcz23_0 : w22.cell? ⟨gb182, 0, none⟩ = some (.int .i64 a0_0) := (blk_cell BK182.out 0).trans rfl; have hcz23_1 : w22.cell? ⟨gb182, 1, none⟩ = some (.slice A0_1 l0_1.length c0_1) := (blk_cell BK182.out 1).trans rfl; have hfz23_0 := blk_frozen BK182.out 0; have hfz23_1 := blk_frozen BK182.out 1) | ((with_reducible refine gate_callee (f := 18) rfl ?_); refine goesL_ (some 26) rfl rfl Try.func18 (by kernel_rfl) rfl #[.agg #[.int .i64 a0_0, .slice A0_1 l0_1.length c0_1]] rfl zqE ?_; (with_reducible refine (pianolalaw03_given.calls k a0_0 _ _ l0_1 t189 t190 _ ?side1 ?side2 A8.out).mono ?_); (case side1 => exact zqK (Kd.C_below HR0_1.out HB.out)); (case side2 => exact HC0_1.out); rintro e w24 ⟨v191, rfl, ho0, hb⟩; refine ⟨_, rfl, ?_⟩; have n0_ := zA (Kd.R_below (zqC HO186.out) hb); have n1_ := zA (Kd.R_lower ho0 (below_size (zqG HB.out GE182.out))); have n2_ := zA (blk_below (g := gb182) (o := .cells #[.int .i64 a0_0, .slice A0_1 l0_1.length c0_1] 24 (0, 0)) (zqB BK182.out) hb); have n3_ := zA (below_step (zqG HB.out GE182.out) hb); clear HO186; clear BK182; clear HB; have HO186 := n0_; have HO192 := n1_; have BK182 := n2_; have HB := n3_; clear n0_ n1_ n2_ n3_; (try clear hb); (try clear hb2); (try clear hk); (try clear hi); (try clear ho0); obtain ⟨Ao25, co25, eo25⟩ := Kd.R_slice HO192.out; subst eo25) | ((with_reducible refine gate_callee (f := 23) rfl ?_); refine goesL_ (some 27) rfl rfl Try.func23 (by kernel_rfl) rfl #[.agg #[.int .i64 t189, .slice Ao25 t190.length co25]] rfl zqE ?_; (with_reducible refine (pianolaref03_Passes.calls k t189 _ _ t190 t193 t196 t197 _ ?side1 ?side2 A9.out).mono ?_); (case side1 => exact zqK (Kd.R_reads' HO192.out).2.2); (case side2 => exact (Kd.R_reads' HO192.out).2.1); rintro e w26 ⟨v194, rfl, ho0, hb⟩; refine ⟨_, rfl, ?_⟩; have n0_ := zA (Kd.R_elder' (zqC HO186.out) (Kd.R_base ho0) hb); have n1_ := zA (Kd.R_below (zqC HO192.out) hb); have n2_ := zA (Kd.R_lower (Kd.R_new' ho0 (Kd.R_lt (zqC HO186.out))) (below_size (zqG HB.out GE182.out))); have n3_ := zA (blk_below (g := gb182) (o := .cells #[.int .i64 a0_0, .slice A0_1 l0_1.length c0_1] 24 (0, 0)) (zqB BK182.out) hb); have n4_ := zA (below_step (zqG HB.out GE182.out) hb); clear HO186; clear HO192; clear BK182; clear HB; have HO186 := n0_; have HO192 := n1_; have HO195 := n2_; have BK182 := n3_; have HB := n4_; clear n0_ n1_ n2_ n3_ n4_; (try clear hb); (try clear hb2); (try clear hk); (try clear hi); (try clear ho0); have hcz27_0 : w26.cell? ⟨gb182, 0, none⟩ = some (.int .i64 a0_0) := (blk_cell BK182.out 0).trans rfl; have hcz27_1 : w26.cell? ⟨gb182, 1, none⟩ = some (.slice A0_1 l0_1.length c0_1) := (blk_cell BK182.out 1).trans rfl; have hfz27_0 := blk_frozen BK182.out 0; have hfz27_1 := blk_frozen BK182.out 1) | ((with_reducible refine gate_callee (f := 24) rfl ?_); refine goesL_ (some 33) rfl rfl Try.func24 (by kernel_rfl) rfl #[.agg #[.int .i64 a0_0, .slice A0_1 l0_1.length c0_1]] rfl zqE ?_; (with_reducible refine (punch_Prove.calls a0_0 _ _ l0_1 t198 t199 _ ?side1 ?side2 A10.out).mono ?_); (case side1 => exact zqK (Kd.C_below HR0_1.out HB.out)); (case side2 => exact HC0_1.out); rintro e w28 ⟨rfl, hb⟩; refine ⟨_, rfl, ?_⟩; have n0_ := zA (Kd.R_below (zqC HO186.out) hb); have n1_ := zA (Kd.R_below (zqC HO192.out) hb); have n2_ := zA (Kd.R_below (zqC HO195.out) hb); have n3_ := zA (blk_below (g := gb182) (o := .cells #[.int .i64 a0_0, .slice A0_1 l0_1.length c0_1] 24 (0, 0)) (zqB BK182.out) hb); have n4_ := zA (below_step (zqG HB.out GE182.out) hb); clear HO186; clear HO192; clear HO195; clear BK182; clear HB; have HO186 := n0_; have HO192 := n1_; have HO195 := n2_; have BK182 := n3_; have HB := n4_; clear n0_ n1_ n2_ n3_ n4_; (try clear hb); (try clear hb2); (try clear hk); (try clear hi); have hcz29_0 : w28.cell? ⟨gb182, 0, none⟩ = some (.int .i64 a0_0) := (blk_cell BK182.out 0).trans rfl; have hcz29_1 : w28.cell? ⟨gb182, 1, none⟩ = some (.slice A0_1 l0_1.length c0_1) := (blk_cell BK182.out 1).trans rfl; have hfz29_0 := blk_frozen BK182.out 0; have hfz29_1 := blk_frozen BK182.out 1) | ((with_reducible refine gate_callee (f := 18) rfl ?_); refine goesL_ (some 38) rfl rfl Try.func18 (by kernel_rfl) rfl #[.agg #[.int .i64 a0_0, .slice A0_1 l0_1.length c0_1]] rfl zqE ?_; (with_reducible refine (pianolalaw03_given.calls k a0_0 _ _ l0_1 t200 t201 _ ?side1 ?side2 A11.out).mono ?_); (case side1 => exact zqK (Kd.C_below HR0_1.out HB.out)); (case side2 => exact HC0_1.out); rintro e w30 ⟨v202, rfl, ho0, hb⟩; refine ⟨_, rfl, ?_⟩; have n0_ := zA (Kd.R_below (zqC HO186.out) hb); have n1_ := zA (Kd.R_elder' (zqC HO192.out) (Kd.R_base ho0) hb); have n2_ := zA (Kd.R_below (zqC HO195.out) hb); have n3_ := zA (Kd.R_lower (Kd.R_new' ho0 (Kd.R_lt (zqC HO192.out))) (below_size (zqG HB.out GE182.out))); have n4_ := zA (blk_below (g := gb182) (o := .cells #[.int .i64 a0_0, .slice A0_1 l0_1.length c0_1] 24 (0, 0)) (zqB BK182.out) hb); have n5_ := zA (below_step (zqG HB.out GE182.out) hb); clear HO186; clear HO192; clear HO195; clear BK182; clear HB; have HO186 := n0_; have HO192 := n1_; have HO195 := n2_; have HO203 := n3_; have BK182 := n4_; have HB := n5_; clear n0_ n1_ n2_ n3_ n4_ n5_; (try clear hb); (try clear hb2); (try clear hk); (try clear hi); (try clear ho0); obtain ⟨Ao31, co31, eo31⟩ := Kd.R_slice HO203.out; subst eo31) | ((with_reducible refine gate_callee (f := 25) rfl ?_); refine goesL_ (some 39) rfl rfl Try.func25 (by kernel_rfl) rfl #[.agg #[.int .i64 t200, .slice Ao31 t201.length co31]] rfl zqE ?_; (with_reducible refine (pianolaref03_Prove.calls k t200 _ _ t201 t204 t205 _ ?side1 ?side2 A12.out).mono ?_); (case side1 => exact zqK (Kd.R_reads' HO203.out).2.2); (case side2 => exact (Kd.R_reads' HO203.out).2.1); rintro e w32 ⟨rfl, hb⟩; refine ⟨_, rfl, ?_⟩; have n0_ := zA (Kd.R_below (zqC HO186.out) hb); have n1_ := zA (Kd.R_below (zqC HO192.out) hb); have n2_ := zA (Kd.R_below (zqC HO195.out) hb); have n3_ := zA (Kd.R_below (zqC HO203.out) hb); have n4_ := zA (blk_below (g := gb182) (o := .cells #[.int .i64 a0_0, .slice A0_1 l0_1.length c0_1] 24 (0, 0)) (zqB BK182.out) hb); have n5_ := zA (below_step (zqG HB.out GE182.out) hb); clear HO186; clear HO192; clear HO195; clear HO203; clear BK182; clear HB; have HO186 := n0_; have HO192 := n1_; have HO195 := n2_; have HO203 := n3_; have BK182 := n4_; have HB := n5_; clear n0_ n1_ n2_ n3_ n4_ n5_; (try clear hb); (try clear hb2); (try clear hk); (try clear hi); obtain ⟨Ao33, co33, eo33⟩ := Kd.R_slice HO186.out; subst eo33; obtain ⟨Ao34, co34, eo34⟩ := Kd.R_slice HO195.out; subst eo34) | ((with_reducible refine gate_callee (f := 19) rfl ?_); refine goesL_ (some 44) rfl rfl Try.func19 (by kernel_rfl) rfl #[.slice Ao33 t184.length co33, .slice Ao34 t193.length co34] rfl zqE ?_; (with_reducible refine (pianolalaw03_numbers.calls k _ _ t184 _ _ t193 true _ ?side1 ?side2 ?side3 ?side4 A13.out).mono ?_); (case side1 => exact zqK (Kd.R_reads' HO186.out).2.2); (case side2 => exact (Kd.R_reads' HO186.out).2.1); (case side3 => exact zqK (Kd.R_reads' HO195.out).2.2); (case side4 => exact (Kd.R_reads' HO195.out).2.1); rintro e w' ⟨rfl, ⟨nd, rfl⟩⟩; refine ⟨_, rfl, ?_⟩) | (go_at_call 15; (with_reducible refine (pianolalaw03_works.calls  t207 _ A19.out).mono ?_); rintro e w35 ⟨rfl, hb⟩; have n0_ := zA (Kd.R_below (zqC HO186.out) hb); have n1_ := zA (Kd.R_below (zqC HO192.out) hb); have n2_ := zA (Kd.R_below (zqC HO195.out) hb); have n3_ := zA (Kd.R_below (zqC HO203.out) hb); have n4_ := zA (blk_below (g := gb182) (o := .cells #[.int .i64 a0_0, .slice A0_1 l0_1.length c0_1] 24 (0, 0)) (zqB BK182.out) hb); have n5_ := zA (below_step (zqG HB.out GE182.out) hb); clear HO186; clear HO192; clear HO195; clear HO203; clear BK182; clear HB; have HO186 := n0_; have HO192 := n1_; have HO195 := n2_; have HO203 := n3_; have BK182 := n4_; have HB := n5_; clear n0_ n1_ n2_ n3_ n4_ n5_; (try clear hb); (try clear hb2); (try clear hk); (try clear hi)))
       go_ret
       exact ⟨zqR, zqG HB.out GE182.out⟩
      ·
       rw [if_neg c18] at H
       have c18b0 : (t199 == t205) = false := beq_eq_false_iff_ne.mpr c18
       have c18b1 : (t199 != t205) = true := bne_iff_ne.mpr c18
       obtain rfl := Option.some.inj H
       go_enter Try.func4, Try.ntmps4
       go_wp2_with (first | ((with_reducible refine gate_dst (N := 1) rfl ?_); refine box_event ?hg (N := 1) ?hd (cs := #[.int .i64 a0_0, .slice A0_1 l0_1.length c0_1]) (t := 24) ?hr ?_; (case hd => rfl); (case hg => rfl); (case hr => first | (go_simp; done) | (go_simp; rfl)); intro gb182 hg w36 hbox hb; have n0_ := zA (below_step (zqA HB.out) hb); have n1_ := zA (hbox); have n2_ := zA ((by rw [hg]; exact (below_size (zqA HB.out)) : w.heap.size ≤ gb182)); have n3_ := zA ((by rw [hg]; exact (below_size (zqA HB.out)) : w.heap.size ≤ gb182)); clear HB; have HB := n0_; have BK182 := n1_; have GW182 := n2_; have GE182 := n3_; clear n0_ n1_ n2_ n3_; clear hb hbox hg; have hcz37_0 : w36.cell? ⟨gb182, 0, none⟩ = some (.int .i64 a0_0) := (blk_cell BK182.out 0).trans rfl; have hcz37_1 : w36.cell? ⟨gb182, 1, none⟩ = some (.slice A0_1 l0_1.length c0_1) := (blk_cell BK182.out 1).trans rfl; have hfz37_0 := blk_frozen BK182.out 0; have hfz37_1 := blk_frozen BK182.out 1) | ((with_reducible refine gate_callee (f := 22) rfl ?_); refine goesL_ (some 20) rfl rfl Try.func22 (by kernel_rfl) rfl #[.agg #[.int .i64 a0_0, .slice A0_1 l0_1.length c0_1]] rfl zqE ?_; (with_reducible refine (punch_Passes.calls a0_0 _ _ l0_1 t184 t187 t188 _ ?side1 ?side2 A7.out).mono ?_); (case side1 => exact zqK (Kd.C_below HR0_1.out HB.out)); (case side2 => exact HC0_1.out); rintro e w38 ⟨v185, rfl, ho0, hb⟩; refine ⟨_, rfl, ?_⟩; have n0_ := zA (Kd.R_lower ho0 (below_size (zqG HB.out GE182.out))); have n1_ := zA (blk_below (g := gb182) (o := .cells #[.int .i64 a0_0, .slice A0_1 l0_1.length c0_1] 24 (0, 0)) (zqB BK182.out) hb); have n2_ := zA (below_step (zqG HB.out GE182.out) hb); clear BK182; clear HB; have HO186 := n0_; have BK182 := n1_; have HB := n2_; clear n0_ n1_ n2_; (try clear hb); (try clear hb2); (try clear hk); (try clear hi); (try clear ho0); have hcz39_0 : w38.cell? ⟨gb182, 0, none⟩ = some (.int .i64 a0_0) := (blk_cell BK182.out 0).trans rfl; have hcz39_1 : w38.cell? ⟨gb182, 1, none⟩ = some (.slice A0_1 l0_1.length c0_1) := (blk_cell BK182.out 1).trans rfl; have hfz39_0 := blk_frozen BK182.out 0; have hfz39_1 := blk_frozen BK182.out 1) | ((with_reducible refine gate_callee (f := 18) rfl ?_); refine goesL_ (some 26) rfl rfl Try.func18 (by kernel_rfl) rfl #[.agg #[.int .i64 a0_0, .slice A0_1 l0_1.length c0_1]] rfl zqE ?_; (with_reducible refine (pianolalaw03_given.calls k a0_0 _ _ l0_1 t189 t190 _ ?side1 ?side2 A8.out).mono ?_); (case side1 => exact zqK (Kd.C_below HR0_1.out HB.out)); (case side2 => exact HC0_1.out); rintro e w40 ⟨v191, rfl, ho0, hb⟩; refine ⟨_, rfl, ?_⟩; have n0_ := zA (Kd.R_below (zqC HO186.out) hb); have n1_ := zA (Kd.R_lower ho0 (below_size (zqG HB.out GE182.out))); have n2_ := zA (blk_below (g := gb182) (o := .cells #[.int .i64 a0_0, .slice A0_1 l0_1.length c0_1] 24 (0, 0)) (zqB BK182.out) hb); have n3_ := zA (below_step (zqG HB.out GE182.out) hb); clear HO186; clear BK182; clear HB; have HO186 := n0_; have HO192 := n1_; have BK182 := n2_; have HB := n3_; clear n0_ n1_ n2_ n3_; (try clear hb); (try clear hb2); (try clear hk); (try clear hi); (try clear ho0); obtain ⟨Ao41, co41, eo41⟩ := Kd.R_slice HO192.out; subst eo41) | ((with_reducible refine gate_callee (f := 23) rfl ?_); refine goesL_ (some 27) rfl rfl Try.func23 (by kernel_rfl) rfl #[.agg #[.int .i64 t189, .slice Ao41 t190.length co41]] rfl zqE ?_; (with_reducible refine (pianolaref03_Passes.calls k t189 _ _ t190 t193 t196 t197 _ ?side1 ?side2 A9.out).mono ?_); (case side1 => exact zqK (Kd.R_reads' HO192.out).2.2); (case side2 => exact (Kd.R_reads' HO192.out).2.1); rintro e w42 ⟨v194, rfl, ho0, hb⟩; refine ⟨_, rfl, ?_⟩; have n0_ := zA (Kd.R_elder' (zqC HO186.out) (Kd.R_base ho0) hb); have n1_ := zA (Kd.R_below (zqC HO192.out) hb); have n2_ := zA (Kd.R_lower (Kd.R_new' ho0 (Kd.R_lt (zqC HO186.out))) (below_size (zqG HB.out GE182.out))); have n3_ := zA (blk_below (g := gb182) (o := .cells #[.int .i64 a0_0, .slice A0_1 l0_1.length c0_1] 24 (0, 0)) (zqB BK182.out) hb); have n4_ := zA (below_step (zqG HB.out GE182.out) hb); clear HO186; clear HO192; clear BK182; clear HB; have HO186 := n0_; have HO192 := n1_; have HO195 := n2_; have BK182 := n3_; have HB := n4_; clear n0_ n1_ n2_ n3_ n4_; (try clear hb); (try clear hb2); (try clear hk); (try clear hi); (try clear ho0); have hcz43_0 : w42.cell? ⟨gb182, 0, none⟩ = some (.int .i64 a0_0) := (blk_cell BK182.out 0).trans rfl; have hcz43_1 : w42.cell? ⟨gb182, 1, none⟩ = some (.slice A0_1 l0_1.length c0_1) := (blk_cell BK182.out 1).trans rfl; have hfz43_0 := blk_frozen BK182.out 0; have hfz43_1 := blk_frozen BK182.out 1) | ((with_reducible refine gate_callee (f := 24) rfl ?_); refine goesL_ (some 33) rfl rfl Try.func24 (by kernel_rfl) rfl #[.agg #[.int .i64 a0_0, .slice A0_1 l0_1.length c0_1]] rfl zqE ?_; (with_reducible refine (punch_Prove.calls a0_0 _ _ l0_1 t198 t199 _ ?side1 ?side2 A10.out).mono ?_); (case side1 => exact zqK (Kd.C_below HR0_1.out HB.out)); (case side2 => exact HC0_1.out); rintro e w44 ⟨rfl, hb⟩; refine ⟨_, rfl, ?_⟩; have n0_ := zA (Kd.R_below (zqC HO186.out) hb); have n1_ := zA (Kd.R_below (zqC HO192.out) hb); have n2_ := zA (Kd.R_below (zqC HO195.out) hb); have n3_ := zA (blk_below (g := gb182) (o := .cells #[.int .i64 a0_0, .slice A0_1 l0_1.length c0_1] 24 (0, 0)) (zqB BK182.out) hb); have n4_ := zA (below_step (zqG HB.out GE182.out) hb); clear HO186; clear HO192; clear HO195; clear BK182; clear HB; have HO186 := n0_; have HO192 := n1_; have HO195 := n2_; have BK182 := n3_; have HB := n4_; clear n0_ n1_ n2_ n3_ n4_; (try clear hb); (try clear hb2); (try clear hk); (try clear hi); have hcz45_0 : w44.cell? ⟨gb182, 0, none⟩ = some (.int .i64 a0_0) := (blk_cell BK182.out 0).trans rfl; have hcz45_1 : w44.cell? ⟨gb182, 1, none⟩ = some (.slice A0_1 l0_1.length c0_1) := (blk_cell BK182.out 1).trans rfl; have hfz45_0 := blk_frozen BK182.out 0; have hfz45_1 := blk_frozen BK182.out 1) | ((with_reducible refine gate_callee (f := 18) rfl ?_); refine goesL_ (some 38) rfl rfl Try.func18 (by kernel_rfl) rfl #[.agg #[.int .i64 a0_0, .slice A0_1 l0_1.length c0_1]] rfl zqE ?_; (with_reducible refine (pianolalaw03_given.calls k a0_0 _ _ l0_1 t200 t201 _ ?side1 ?side2 A11.out).mono ?_); (case side1 => exact zqK (Kd.C_below HR0_1.out HB.out)); (case side2 => exact HC0_1.out); rintro e w46 ⟨v202, rfl, ho0, hb⟩; refine ⟨_, rfl, ?_⟩; have n0_ := zA (Kd.R_below (zqC HO186.out) hb); have n1_ := zA (Kd.R_elder' (zqC HO192.out) (Kd.R_base ho0) hb); have n2_ := zA (Kd.R_below (zqC HO195.out) hb); have n3_ := zA (Kd.R_lower (Kd.R_new' ho0 (Kd.R_lt (zqC HO192.out))) (below_size (zqG HB.out GE182.out))); have n4_ := zA (blk_below (g := gb182) (o := .cells #[.int .i64 a0_0, .slice A0_1 l0_1.length c0_1] 24 (0, 0)) (zqB BK182.out) hb); have n5_ := zA (below_step (zqG HB.out GE182.out) hb); clear HO186; clear HO192; clear HO195; clear BK182; clear HB; have HO186 := n0_; have HO192 := n1_; have HO195 := n2_; have HO203 := n3_; have BK182 := n4_; have HB := n5_; clear n0_ n1_ n2_ n3_ n4_ n5_; (try clear hb); (try clear hb2); (try clear hk); (try clear hi); (try clear ho0); obtain ⟨Ao47, co47, eo47⟩ := Kd.R_slice HO203.out; subst eo47) | ((with_reducible refine gate_callee (f := 25) rfl ?_); refine goesL_ (some 39) rfl rfl Try.func25 (by kernel_rfl) rfl #[.agg #[.int .i64 t200, .slice Ao47 t201.length co47]] rfl zqE ?_; (with_reducible refine (pianolaref03_Prove.calls k t200 _ _ t201 t204 t205 _ ?side1 ?side2 A12.out).mono ?_); (case side1 => exact zqK (Kd.R_reads' HO203.out).2.2); (case side2 => exact (Kd.R_reads' HO203.out).2.1); rintro e w48 ⟨rfl, hb⟩; refine ⟨_, rfl, ?_⟩; have n0_ := zA (Kd.R_below (zqC HO186.out) hb); have n1_ := zA (Kd.R_below (zqC HO192.out) hb); have n2_ := zA (Kd.R_below (zqC HO195.out) hb); have n3_ := zA (Kd.R_below (zqC HO203.out) hb); have n4_ := zA (blk_below (g := gb182) (o := .cells #[.int .i64 a0_0, .slice A0_1 l0_1.length c0_1] 24 (0, 0)) (zqB BK182.out) hb); have n5_ := zA (below_step (zqG HB.out GE182.out) hb); clear HO186; clear HO192; clear HO195; clear HO203; clear BK182; clear HB; have HO186 := n0_; have HO192 := n1_; have HO195 := n2_; have HO203 := n3_; have BK182 := n4_; have HB := n5_; clear n0_ n1_ n2_ n3_ n4_ n5_; (try clear hb); (try clear hb2); (try clear hk); (try clear hi); obtain ⟨Ao49, co49, eo49⟩ := Kd.R_slice HO186.out; subst eo49; obtain ⟨Ao50, co50, eo50⟩ := Kd.R_slice HO195.out; subst eo50) | ((with_reducible refine gate_callee (f := 19) rfl ?_); refine goesL_ (some 44) rfl rfl Try.func19 (by kernel_rfl) rfl #[.slice Ao49 t184.length co49, .slice Ao50 t193.length co50] rfl zqE ?_; (with_reducible refine (pianolalaw03_numbers.calls k _ _ t184 _ _ t193 true _ ?side1 ?side2 ?side3 ?side4 A13.out).mono ?_); (case side1 => exact zqK (Kd.R_reads' HO186.out).2.2); (case side2 => exact (Kd.R_reads' HO186.out).2.1); (case side3 => exact zqK (Kd.R_reads' HO195.out).2.2); (case side4 => exact (Kd.R_reads' HO195.out).2.1); rintro e w' ⟨rfl, ⟨nd, rfl⟩⟩; refine ⟨_, rfl, ?_⟩))
       go_ret
       exact ⟨zqR, zqG HB.out GE182.out⟩
     ·
      rw [if_neg c17] at H
      have c17b0 : (t198 == t204) = false := beq_eq_false_iff_ne.mpr c17
      have c17b1 : (t198 != t204) = true := bne_iff_ne.mpr c17
      obtain rfl := Option.some.inj H
      go_enter Try.func4, Try.ntmps4
      go_wp2_with (first | ((with_reducible refine gate_dst (N := 1) rfl ?_); refine box_event ?hg (N := 1) ?hd (cs := #[.int .i64 a0_0, .slice A0_1 l0_1.length c0_1]) (t := 24) ?hr ?_; (case hd => rfl); (case hg => rfl); (case hr => first | (go_simp; done) | (go_simp; rfl)); intro gb182 hg w51 hbox hb; have n0_ := zA (below_step (zqA HB.out) hb); have n1_ := zA (hbox); have n2_ := zA ((by rw [hg]; exact (below_size (zqA HB.out)) : w.heap.size ≤ gb182)); have n3_ := zA ((by rw [hg]; exact (below_size (zqA HB.out)) : w.heap.size ≤ gb182)); clear HB; have HB := n0_; have BK182 := n1_; have GW182 := n2_; have GE182 := n3_; clear n0_ n1_ n2_ n3_; clear hb hbox hg; have hcz52_0 : w51.cell? ⟨gb182, 0, none⟩ = some (.int .i64 a0_0) := (blk_cell BK182.out 0).trans rfl; have hcz52_1 : w51.cell? ⟨gb182, 1, none⟩ = some (.slice A0_1 l0_1.length c0_1) := (blk_cell BK182.out 1).trans rfl; have hfz52_0 := blk_frozen BK182.out 0; have hfz52_1 := blk_frozen BK182.out 1) | ((with_reducible refine gate_callee (f := 22) rfl ?_); refine goesL_ (some 20) rfl rfl Try.func22 (by kernel_rfl) rfl #[.agg #[.int .i64 a0_0, .slice A0_1 l0_1.length c0_1]] rfl zqE ?_; (with_reducible refine (punch_Passes.calls a0_0 _ _ l0_1 t184 t187 t188 _ ?side1 ?side2 A7.out).mono ?_); (case side1 => exact zqK (Kd.C_below HR0_1.out HB.out)); (case side2 => exact HC0_1.out); rintro e w53 ⟨v185, rfl, ho0, hb⟩; refine ⟨_, rfl, ?_⟩; have n0_ := zA (Kd.R_lower ho0 (below_size (zqG HB.out GE182.out))); have n1_ := zA (blk_below (g := gb182) (o := .cells #[.int .i64 a0_0, .slice A0_1 l0_1.length c0_1] 24 (0, 0)) (zqB BK182.out) hb); have n2_ := zA (below_step (zqG HB.out GE182.out) hb); clear BK182; clear HB; have HO186 := n0_; have BK182 := n1_; have HB := n2_; clear n0_ n1_ n2_; (try clear hb); (try clear hb2); (try clear hk); (try clear hi); (try clear ho0); have hcz54_0 : w53.cell? ⟨gb182, 0, none⟩ = some (.int .i64 a0_0) := (blk_cell BK182.out 0).trans rfl; have hcz54_1 : w53.cell? ⟨gb182, 1, none⟩ = some (.slice A0_1 l0_1.length c0_1) := (blk_cell BK182.out 1).trans rfl; have hfz54_0 := blk_frozen BK182.out 0; have hfz54_1 := blk_frozen BK182.out 1) | ((with_reducible refine gate_callee (f := 18) rfl ?_); refine goesL_ (some 26) rfl rfl Try.func18 (by kernel_rfl) rfl #[.agg #[.int .i64 a0_0, .slice A0_1 l0_1.length c0_1]] rfl zqE ?_; (with_reducible refine (pianolalaw03_given.calls k a0_0 _ _ l0_1 t189 t190 _ ?side1 ?side2 A8.out).mono ?_); (case side1 => exact zqK (Kd.C_below HR0_1.out HB.out)); (case side2 => exact HC0_1.out); rintro e w55 ⟨v191, rfl, ho0, hb⟩; refine ⟨_, rfl, ?_⟩; have n0_ := zA (Kd.R_below (zqC HO186.out) hb); have n1_ := zA (Kd.R_lower ho0 (below_size (zqG HB.out GE182.out))); have n2_ := zA (blk_below (g := gb182) (o := .cells #[.int .i64 a0_0, .slice A0_1 l0_1.length c0_1] 24 (0, 0)) (zqB BK182.out) hb); have n3_ := zA (below_step (zqG HB.out GE182.out) hb); clear HO186; clear BK182; clear HB; have HO186 := n0_; have HO192 := n1_; have BK182 := n2_; have HB := n3_; clear n0_ n1_ n2_ n3_; (try clear hb); (try clear hb2); (try clear hk); (try clear hi); (try clear ho0); obtain ⟨Ao56, co56, eo56⟩ := Kd.R_slice HO192.out; subst eo56) | ((with_reducible refine gate_callee (f := 23) rfl ?_); refine goesL_ (some 27) rfl rfl Try.func23 (by kernel_rfl) rfl #[.agg #[.int .i64 t189, .slice Ao56 t190.length co56]] rfl zqE ?_; (with_reducible refine (pianolaref03_Passes.calls k t189 _ _ t190 t193 t196 t197 _ ?side1 ?side2 A9.out).mono ?_); (case side1 => exact zqK (Kd.R_reads' HO192.out).2.2); (case side2 => exact (Kd.R_reads' HO192.out).2.1); rintro e w57 ⟨v194, rfl, ho0, hb⟩; refine ⟨_, rfl, ?_⟩; have n0_ := zA (Kd.R_elder' (zqC HO186.out) (Kd.R_base ho0) hb); have n1_ := zA (Kd.R_below (zqC HO192.out) hb); have n2_ := zA (Kd.R_lower (Kd.R_new' ho0 (Kd.R_lt (zqC HO186.out))) (below_size (zqG HB.out GE182.out))); have n3_ := zA (blk_below (g := gb182) (o := .cells #[.int .i64 a0_0, .slice A0_1 l0_1.length c0_1] 24 (0, 0)) (zqB BK182.out) hb); have n4_ := zA (below_step (zqG HB.out GE182.out) hb); clear HO186; clear HO192; clear BK182; clear HB; have HO186 := n0_; have HO192 := n1_; have HO195 := n2_; have BK182 := n3_; have HB := n4_; clear n0_ n1_ n2_ n3_ n4_; (try clear hb); (try clear hb2); (try clear hk); (try clear hi); (try clear ho0); have hcz58_0 : w57.cell? ⟨gb182, 0, none⟩ = some (.int .i64 a0_0) := (blk_cell BK182.out 0).trans rfl; have hcz58_1 : w57.cell? ⟨gb182, 1, none⟩ = some (.slice A0_1 l0_1.length c0_1) := (blk_cell BK182.out 1).trans rfl; have hfz58_0 := blk_frozen BK182.out 0; have hfz58_1 := blk_frozen BK182.out 1) | ((with_reducible refine gate_callee (f := 24) rfl ?_); refine goesL_ (some 33) rfl rfl Try.func24 (by kernel_rfl) rfl #[.agg #[.int .i64 a0_0, .slice A0_1 l0_1.length c0_1]] rfl zqE ?_; (with_reducible refine (punch_Prove.calls a0_0 _ _ l0_1 t198 t199 _ ?side1 ?side2 A10.out).mono ?_); (case side1 => exact zqK (Kd.C_below HR0_1.out HB.out)); (case side2 => exact HC0_1.out); rintro e w59 ⟨rfl, hb⟩; refine ⟨_, rfl, ?_⟩; have n0_ := zA (Kd.R_below (zqC HO186.out) hb); have n1_ := zA (Kd.R_below (zqC HO192.out) hb); have n2_ := zA (Kd.R_below (zqC HO195.out) hb); have n3_ := zA (blk_below (g := gb182) (o := .cells #[.int .i64 a0_0, .slice A0_1 l0_1.length c0_1] 24 (0, 0)) (zqB BK182.out) hb); have n4_ := zA (below_step (zqG HB.out GE182.out) hb); clear HO186; clear HO192; clear HO195; clear BK182; clear HB; have HO186 := n0_; have HO192 := n1_; have HO195 := n2_; have BK182 := n3_; have HB := n4_; clear n0_ n1_ n2_ n3_ n4_; (try clear hb); (try clear hb2); (try clear hk); (try clear hi); have hcz60_0 : w59.cell? ⟨gb182, 0, none⟩ = some (.int .i64 a0_0) := (blk_cell BK182.out 0).trans rfl; have hcz60_1 : w59.cell? ⟨gb182, 1, none⟩ = some (.slice A0_1 l0_1.length c0_1) := (blk_cell BK182.out 1).trans rfl; have hfz60_0 := blk_frozen BK182.out 0; have hfz60_1 := blk_frozen BK182.out 1) | ((with_reducible refine gate_callee (f := 18) rfl ?_); refine goesL_ (some 38) rfl rfl Try.func18 (by kernel_rfl) rfl #[.agg #[.int .i64 a0_0, .slice A0_1 l0_1.length c0_1]] rfl zqE ?_; (with_reducible refine (pianolalaw03_given.calls k a0_0 _ _ l0_1 t200 t201 _ ?side1 ?side2 A11.out).mono ?_); (case side1 => exact zqK (Kd.C_below HR0_1.out HB.out)); (case side2 => exact HC0_1.out); rintro e w61 ⟨v202, rfl, ho0, hb⟩; refine ⟨_, rfl, ?_⟩; have n0_ := zA (Kd.R_below (zqC HO186.out) hb); have n1_ := zA (Kd.R_elder' (zqC HO192.out) (Kd.R_base ho0) hb); have n2_ := zA (Kd.R_below (zqC HO195.out) hb); have n3_ := zA (Kd.R_lower (Kd.R_new' ho0 (Kd.R_lt (zqC HO192.out))) (below_size (zqG HB.out GE182.out))); have n4_ := zA (blk_below (g := gb182) (o := .cells #[.int .i64 a0_0, .slice A0_1 l0_1.length c0_1] 24 (0, 0)) (zqB BK182.out) hb); have n5_ := zA (below_step (zqG HB.out GE182.out) hb); clear HO186; clear HO192; clear HO195; clear BK182; clear HB; have HO186 := n0_; have HO192 := n1_; have HO195 := n2_; have HO203 := n3_; have BK182 := n4_; have HB := n5_; clear n0_ n1_ n2_ n3_ n4_ n5_; (try clear hb); (try clear hb2); (try clear hk); (try clear hi); (try clear ho0); obtain ⟨Ao62, co62, eo62⟩ := Kd.R_slice HO203.out; subst eo62) | ((with_reducible refine gate_callee (f := 25) rfl ?_); refine goesL_ (some 39) rfl rfl Try.func25 (by kernel_rfl) rfl #[.agg #[.int .i64 t200, .slice Ao62 t201.length co62]] rfl zqE ?_; (with_reducible refine (pianolaref03_Prove.calls k t200 _ _ t201 t204 t205 _ ?side1 ?side2 A12.out).mono ?_); (case side1 => exact zqK (Kd.R_reads' HO203.out).2.2); (case side2 => exact (Kd.R_reads' HO203.out).2.1); rintro e w63 ⟨rfl, hb⟩; refine ⟨_, rfl, ?_⟩; have n0_ := zA (Kd.R_below (zqC HO186.out) hb); have n1_ := zA (Kd.R_below (zqC HO192.out) hb); have n2_ := zA (Kd.R_below (zqC HO195.out) hb); have n3_ := zA (Kd.R_below (zqC HO203.out) hb); have n4_ := zA (blk_below (g := gb182) (o := .cells #[.int .i64 a0_0, .slice A0_1 l0_1.length c0_1] 24 (0, 0)) (zqB BK182.out) hb); have n5_ := zA (below_step (zqG HB.out GE182.out) hb); clear HO186; clear HO192; clear HO195; clear HO203; clear BK182; clear HB; have HO186 := n0_; have HO192 := n1_; have HO195 := n2_; have HO203 := n3_; have BK182 := n4_; have HB := n5_; clear n0_ n1_ n2_ n3_ n4_ n5_; (try clear hb); (try clear hb2); (try clear hk); (try clear hi); obtain ⟨Ao64, co64, eo64⟩ := Kd.R_slice HO186.out; subst eo64; obtain ⟨Ao65, co65, eo65⟩ := Kd.R_slice HO195.out; subst eo65) | ((with_reducible refine gate_callee (f := 19) rfl ?_); refine goesL_ (some 44) rfl rfl Try.func19 (by kernel_rfl) rfl #[.slice Ao64 t184.length co64, .slice Ao65 t193.length co65] rfl zqE ?_; (with_reducible refine (pianolalaw03_numbers.calls k _ _ t184 _ _ t193 true _ ?side1 ?side2 ?side3 ?side4 A13.out).mono ?_); (case side1 => exact zqK (Kd.R_reads' HO186.out).2.2); (case side2 => exact (Kd.R_reads' HO186.out).2.1); (case side3 => exact zqK (Kd.R_reads' HO195.out).2.2); (case side4 => exact (Kd.R_reads' HO195.out).2.1); rintro e w' ⟨rfl, ⟨nd, rfl⟩⟩; refine ⟨_, rfl, ?_⟩))
      go_ret
      exact ⟨zqR, zqG HB.out GE182.out⟩
    ·
     rw [if_neg c16] at H
     have c16b0 : (t188 == t197) = false := beq_eq_false_iff_ne.mpr c16
     have c16b1 : (t188 != t197) = true := bne_iff_ne.mpr c16
     obtain rfl := Option.some.inj H
     go_enter Try.func4, Try.ntmps4
     go_wp2_with (first | ((with_reducible refine gate_dst (N := 1) rfl ?_); refine box_event ?hg (N := 1) ?hd (cs := #[.int .i64 a0_0, .slice A0_1 l0_1.length c0_1]) (t := 24) ?hr ?_; (case hd => rfl); (case hg => rfl); (case hr => first | (go_simp; done) | (go_simp; rfl)); intro gb182 hg w66 hbox hb; have n0_ := zA (below_step (zqA HB.out) hb); have n1_ := zA (hbox); have n2_ := zA ((by rw [hg]; exact (below_size (zqA HB.out)) : w.heap.size ≤ gb182)); have n3_ := zA ((by rw [hg]; exact (below_size (zqA HB.out)) : w.heap.size ≤ gb182)); clear HB; have HB := n0_; have BK182 := n1_; have GW182 := n2_; have GE182 := n3_; clear n0_ n1_ n2_ n3_; clear hb hbox hg; have hcz67_0 : w66.cell? ⟨gb182, 0, none⟩ = some (.int .i64 a0_0) := (blk_cell BK182.out 0).trans rfl; have hcz67_1 : w66.cell? ⟨gb182, 1, none⟩ = some (.slice A0_1 l0_1.length c0_1) := (blk_cell BK182.out 1).trans rfl; have hfz67_0 := blk_frozen BK182.out 0; have hfz67_1 := blk_frozen BK182.out 1) | ((with_reducible refine gate_callee (f := 22) rfl ?_); refine goesL_ (some 20) rfl rfl Try.func22 (by kernel_rfl) rfl #[.agg #[.int .i64 a0_0, .slice A0_1 l0_1.length c0_1]] rfl zqE ?_; (with_reducible refine (punch_Passes.calls a0_0 _ _ l0_1 t184 t187 t188 _ ?side1 ?side2 A7.out).mono ?_); (case side1 => exact zqK (Kd.C_below HR0_1.out HB.out)); (case side2 => exact HC0_1.out); rintro e w68 ⟨v185, rfl, ho0, hb⟩; refine ⟨_, rfl, ?_⟩; have n0_ := zA (Kd.R_lower ho0 (below_size (zqG HB.out GE182.out))); have n1_ := zA (blk_below (g := gb182) (o := .cells #[.int .i64 a0_0, .slice A0_1 l0_1.length c0_1] 24 (0, 0)) (zqB BK182.out) hb); have n2_ := zA (below_step (zqG HB.out GE182.out) hb); clear BK182; clear HB; have HO186 := n0_; have BK182 := n1_; have HB := n2_; clear n0_ n1_ n2_; (try clear hb); (try clear hb2); (try clear hk); (try clear hi); (try clear ho0); have hcz69_0 : w68.cell? ⟨gb182, 0, none⟩ = some (.int .i64 a0_0) := (blk_cell BK182.out 0).trans rfl; have hcz69_1 : w68.cell? ⟨gb182, 1, none⟩ = some (.slice A0_1 l0_1.length c0_1) := (blk_cell BK182.out 1).trans rfl; have hfz69_0 := blk_frozen BK182.out 0; have hfz69_1 := blk_frozen BK182.out 1) | ((with_reducible refine gate_callee (f := 18) rfl ?_); refine goesL_ (some 26) rfl rfl Try.func18 (by kernel_rfl) rfl #[.agg #[.int .i64 a0_0, .slice A0_1 l0_1.length c0_1]] rfl zqE ?_; (with_reducible refine (pianolalaw03_given.calls k a0_0 _ _ l0_1 t189 t190 _ ?side1 ?side2 A8.out).mono ?_); (case side1 => exact zqK (Kd.C_below HR0_1.out HB.out)); (case side2 => exact HC0_1.out); rintro e w70 ⟨v191, rfl, ho0, hb⟩; refine ⟨_, rfl, ?_⟩; have n0_ := zA (Kd.R_below (zqC HO186.out) hb); have n1_ := zA (Kd.R_lower ho0 (below_size (zqG HB.out GE182.out))); have n2_ := zA (blk_below (g := gb182) (o := .cells #[.int .i64 a0_0, .slice A0_1 l0_1.length c0_1] 24 (0, 0)) (zqB BK182.out) hb); have n3_ := zA (below_step (zqG HB.out GE182.out) hb); clear HO186; clear BK182; clear HB; have HO186 := n0_; have HO192 := n1_; have BK182 := n2_; have HB := n3_; clear n0_ n1_ n2_ n3_; (try clear hb); (try clear hb2); (try clear hk); (try clear hi); (try clear ho0); obtain ⟨Ao71, co71, eo71⟩ := Kd.R_slice HO192.out; subst eo71) | ((with_reducible refine gate_callee (f := 23) rfl ?_); refine goesL_ (some 27) rfl rfl Try.func23 (by kernel_rfl) rfl #[.agg #[.int .i64 t189, .slice Ao71 t190.length co71]] rfl zqE ?_; (with_reducible refine (pianolaref03_Passes.calls k t189 _ _ t190 t193 t196 t197 _ ?side1 ?side2 A9.out).mono ?_); (case side1 => exact zqK (Kd.R_reads' HO192.out).2.2); (case side2 => exact (Kd.R_reads' HO192.out).2.1); rintro e w72 ⟨v194, rfl, ho0, hb⟩; refine ⟨_, rfl, ?_⟩; have n0_ := zA (Kd.R_elder' (zqC HO186.out) (Kd.R_base ho0) hb); have n1_ := zA (Kd.R_below (zqC HO192.out) hb); have n2_ := zA (Kd.R_lower (Kd.R_new' ho0 (Kd.R_lt (zqC HO186.out))) (below_size (zqG HB.out GE182.out))); have n3_ := zA (blk_below (g := gb182) (o := .cells #[.int .i64 a0_0, .slice A0_1 l0_1.length c0_1] 24 (0, 0)) (zqB BK182.out) hb); have n4_ := zA (below_step (zqG HB.out GE182.out) hb); clear HO186; clear HO192; clear BK182; clear HB; have HO186 := n0_; have HO192 := n1_; have HO195 := n2_; have BK182 := n3_; have HB := n4_; clear n0_ n1_ n2_ n3_ n4_; (try clear hb); (try clear hb2); (try clear hk); (try clear hi); (try clear ho0); have hcz73_0 : w72.cell? ⟨gb182, 0, none⟩ = some (.int .i64 a0_0) := (blk_cell BK182.out 0).trans rfl; have hcz73_1 : w72.cell? ⟨gb182, 1, none⟩ = some (.slice A0_1 l0_1.length c0_1) := (blk_cell BK182.out 1).trans rfl; have hfz73_0 := blk_frozen BK182.out 0; have hfz73_1 := blk_frozen BK182.out 1) | ((with_reducible refine gate_callee (f := 24) rfl ?_); refine goesL_ (some 33) rfl rfl Try.func24 (by kernel_rfl) rfl #[.agg #[.int .i64 a0_0, .slice A0_1 l0_1.length c0_1]] rfl zqE ?_; (with_reducible refine (punch_Prove.calls a0_0 _ _ l0_1 t198 t199 _ ?side1 ?side2 A10.out).mono ?_); (case side1 => exact zqK (Kd.C_below HR0_1.out HB.out)); (case side2 => exact HC0_1.out); rintro e w74 ⟨rfl, hb⟩; refine ⟨_, rfl, ?_⟩; have n0_ := zA (Kd.R_below (zqC HO186.out) hb); have n1_ := zA (Kd.R_below (zqC HO192.out) hb); have n2_ := zA (Kd.R_below (zqC HO195.out) hb); have n3_ := zA (blk_below (g := gb182) (o := .cells #[.int .i64 a0_0, .slice A0_1 l0_1.length c0_1] 24 (0, 0)) (zqB BK182.out) hb); have n4_ := zA (below_step (zqG HB.out GE182.out) hb); clear HO186; clear HO192; clear HO195; clear BK182; clear HB; have HO186 := n0_; have HO192 := n1_; have HO195 := n2_; have BK182 := n3_; have HB := n4_; clear n0_ n1_ n2_ n3_ n4_; (try clear hb); (try clear hb2); (try clear hk); (try clear hi); have hcz75_0 : w74.cell? ⟨gb182, 0, none⟩ = some (.int .i64 a0_0) := (blk_cell BK182.out 0).trans rfl; have hcz75_1 : w74.cell? ⟨gb182, 1, none⟩ = some (.slice A0_1 l0_1.length c0_1) := (blk_cell BK182.out 1).trans rfl; have hfz75_0 := blk_frozen BK182.out 0; have hfz75_1 := blk_frozen BK182.out 1) | ((with_reducible refine gate_callee (f := 18) rfl ?_); refine goesL_ (some 38) rfl rfl Try.func18 (by kernel_rfl) rfl #[.agg #[.int .i64 a0_0, .slice A0_1 l0_1.length c0_1]] rfl zqE ?_; (with_reducible refine (pianolalaw03_given.calls k a0_0 _ _ l0_1 t200 t201 _ ?side1 ?side2 A11.out).mono ?_); (case side1 => exact zqK (Kd.C_below HR0_1.out HB.out)); (case side2 => exact HC0_1.out); rintro e w76 ⟨v202, rfl, ho0, hb⟩; refine ⟨_, rfl, ?_⟩; have n0_ := zA (Kd.R_below (zqC HO186.out) hb); have n1_ := zA (Kd.R_elder' (zqC HO192.out) (Kd.R_base ho0) hb); have n2_ := zA (Kd.R_below (zqC HO195.out) hb); have n3_ := zA (Kd.R_lower (Kd.R_new' ho0 (Kd.R_lt (zqC HO192.out))) (below_size (zqG HB.out GE182.out))); have n4_ := zA (blk_below (g := gb182) (o := .cells #[.int .i64 a0_0, .slice A0_1 l0_1.length c0_1] 24 (0, 0)) (zqB BK182.out) hb); have n5_ := zA (below_step (zqG HB.out GE182.out) hb); clear HO186; clear HO192; clear HO195; clear BK182; clear HB; have HO186 := n0_; have HO192 := n1_; have HO195 := n2_; have HO203 := n3_; have BK182 := n4_; have HB := n5_; clear n0_ n1_ n2_ n3_ n4_ n5_; (try clear hb); (try clear hb2); (try clear hk); (try clear hi); (try clear ho0); obtain ⟨Ao77, co77, eo77⟩ := Kd.R_slice HO203.out; subst eo77) | ((with_reducible refine gate_callee (f := 25) rfl ?_); refine goesL_ (some 39) rfl rfl Try.func25 (by kernel_rfl) rfl #[.agg #[.int .i64 t200, .slice Ao77 t201.length co77]] rfl zqE ?_; (with_reducible refine (pianolaref03_Prove.calls k t200 _ _ t201 t204 t205 _ ?side1 ?side2 A12.out).mono ?_); (case side1 => exact zqK (Kd.R_reads' HO203.out).2.2); (case side2 => exact (Kd.R_reads' HO203.out).2.1); rintro e w78 ⟨rfl, hb⟩; refine ⟨_, rfl, ?_⟩; have n0_ := zA (Kd.R_below (zqC HO186.out) hb); have n1_ := zA (Kd.R_below (zqC HO192.out) hb); have n2_ := zA (Kd.R_below (zqC HO195.out) hb); have n3_ := zA (Kd.R_below (zqC HO203.out) hb); have n4_ := zA (blk_below (g := gb182) (o := .cells #[.int .i64 a0_0, .slice A0_1 l0_1.length c0_1] 24 (0, 0)) (zqB BK182.out) hb); have n5_ := zA (below_step (zqG HB.out GE182.out) hb); clear HO186; clear HO192; clear HO195; clear HO203; clear BK182; clear HB; have HO186 := n0_; have HO192 := n1_; have HO195 := n2_; have HO203 := n3_; have BK182 := n4_; have HB := n5_; clear n0_ n1_ n2_ n3_ n4_ n5_; (try clear hb); (try clear hb2); (try clear hk); (try clear hi); obtain ⟨Ao79, co79, eo79⟩ := Kd.R_slice HO186.out; subst eo79; obtain ⟨Ao80, co80, eo80⟩ := Kd.R_slice HO195.out; subst eo80) | ((with_reducible refine gate_callee (f := 19) rfl ?_); refine goesL_ (some 44) rfl rfl Try.func19 (by kernel_rfl) rfl #[.slice Ao79 t184.length co79, .slice Ao80 t193.length co80] rfl zqE ?_; (with_reducible refine (pianolalaw03_numbers.calls k _ _ t184 _ _ t193 true _ ?side1 ?side2 ?side3 ?side4 A13.out).mono ?_); (case side1 => exact zqK (Kd.R_reads' HO186.out).2.2); (case side2 => exact (Kd.R_reads' HO186.out).2.1); (case side3 => exact zqK (Kd.R_reads' HO195.out).2.2); (case side4 => exact (Kd.R_reads' HO195.out).2.1); rintro e w' ⟨rfl, ⟨nd, rfl⟩⟩; refine ⟨_, rfl, ?_⟩))
     go_ret
     exact ⟨zqR, zqG HB.out GE182.out⟩
   ·
    rw [if_neg c15] at H
    have c15b0 : (t187 == t196) = false := beq_eq_false_iff_ne.mpr c15
    have c15b1 : (t187 != t196) = true := bne_iff_ne.mpr c15
    obtain rfl := Option.some.inj H
    go_enter Try.func4, Try.ntmps4
    go_wp2_with (first | ((with_reducible refine gate_dst (N := 1) rfl ?_); refine box_event ?hg (N := 1) ?hd (cs := #[.int .i64 a0_0, .slice A0_1 l0_1.length c0_1]) (t := 24) ?hr ?_; (case hd => rfl); (case hg => rfl); (case hr => first | (go_simp; done) | (go_simp; rfl)); intro gb182 hg w81 hbox hb; have n0_ := zA (below_step (zqA HB.out) hb); have n1_ := zA (hbox); have n2_ := zA ((by rw [hg]; exact (below_size (zqA HB.out)) : w.heap.size ≤ gb182)); have n3_ := zA ((by rw [hg]; exact (below_size (zqA HB.out)) : w.heap.size ≤ gb182)); clear HB; have HB := n0_; have BK182 := n1_; have GW182 := n2_; have GE182 := n3_; clear n0_ n1_ n2_ n3_; clear hb hbox hg; have hcz82_0 : w81.cell? ⟨gb182, 0, none⟩ = some (.int .i64 a0_0) := (blk_cell BK182.out 0).trans rfl; have hcz82_1 : w81.cell? ⟨gb182, 1, none⟩ = some (.slice A0_1 l0_1.length c0_1) := (blk_cell BK182.out 1).trans rfl; have hfz82_0 := blk_frozen BK182.out 0; have hfz82_1 := blk_frozen BK182.out 1) | ((with_reducible refine gate_callee (f := 22) rfl ?_); refine goesL_ (some 20) rfl rfl Try.func22 (by kernel_rfl) rfl #[.agg #[.int .i64 a0_0, .slice A0_1 l0_1.length c0_1]] rfl zqE ?_; (with_reducible refine (punch_Passes.calls a0_0 _ _ l0_1 t184 t187 t188 _ ?side1 ?side2 A7.out).mono ?_); (case side1 => exact zqK (Kd.C_below HR0_1.out HB.out)); (case side2 => exact HC0_1.out); rintro e w83 ⟨v185, rfl, ho0, hb⟩; refine ⟨_, rfl, ?_⟩; have n0_ := zA (Kd.R_lower ho0 (below_size (zqG HB.out GE182.out))); have n1_ := zA (blk_below (g := gb182) (o := .cells #[.int .i64 a0_0, .slice A0_1 l0_1.length c0_1] 24 (0, 0)) (zqB BK182.out) hb); have n2_ := zA (below_step (zqG HB.out GE182.out) hb); clear BK182; clear HB; have HO186 := n0_; have BK182 := n1_; have HB := n2_; clear n0_ n1_ n2_; (try clear hb); (try clear hb2); (try clear hk); (try clear hi); (try clear ho0); have hcz84_0 : w83.cell? ⟨gb182, 0, none⟩ = some (.int .i64 a0_0) := (blk_cell BK182.out 0).trans rfl; have hcz84_1 : w83.cell? ⟨gb182, 1, none⟩ = some (.slice A0_1 l0_1.length c0_1) := (blk_cell BK182.out 1).trans rfl; have hfz84_0 := blk_frozen BK182.out 0; have hfz84_1 := blk_frozen BK182.out 1) | ((with_reducible refine gate_callee (f := 18) rfl ?_); refine goesL_ (some 26) rfl rfl Try.func18 (by kernel_rfl) rfl #[.agg #[.int .i64 a0_0, .slice A0_1 l0_1.length c0_1]] rfl zqE ?_; (with_reducible refine (pianolalaw03_given.calls k a0_0 _ _ l0_1 t189 t190 _ ?side1 ?side2 A8.out).mono ?_); (case side1 => exact zqK (Kd.C_below HR0_1.out HB.out)); (case side2 => exact HC0_1.out); rintro e w85 ⟨v191, rfl, ho0, hb⟩; refine ⟨_, rfl, ?_⟩; have n0_ := zA (Kd.R_below (zqC HO186.out) hb); have n1_ := zA (Kd.R_lower ho0 (below_size (zqG HB.out GE182.out))); have n2_ := zA (blk_below (g := gb182) (o := .cells #[.int .i64 a0_0, .slice A0_1 l0_1.length c0_1] 24 (0, 0)) (zqB BK182.out) hb); have n3_ := zA (below_step (zqG HB.out GE182.out) hb); clear HO186; clear BK182; clear HB; have HO186 := n0_; have HO192 := n1_; have BK182 := n2_; have HB := n3_; clear n0_ n1_ n2_ n3_; (try clear hb); (try clear hb2); (try clear hk); (try clear hi); (try clear ho0); obtain ⟨Ao86, co86, eo86⟩ := Kd.R_slice HO192.out; subst eo86) | ((with_reducible refine gate_callee (f := 23) rfl ?_); refine goesL_ (some 27) rfl rfl Try.func23 (by kernel_rfl) rfl #[.agg #[.int .i64 t189, .slice Ao86 t190.length co86]] rfl zqE ?_; (with_reducible refine (pianolaref03_Passes.calls k t189 _ _ t190 t193 t196 t197 _ ?side1 ?side2 A9.out).mono ?_); (case side1 => exact zqK (Kd.R_reads' HO192.out).2.2); (case side2 => exact (Kd.R_reads' HO192.out).2.1); rintro e w87 ⟨v194, rfl, ho0, hb⟩; refine ⟨_, rfl, ?_⟩; have n0_ := zA (Kd.R_elder' (zqC HO186.out) (Kd.R_base ho0) hb); have n1_ := zA (Kd.R_below (zqC HO192.out) hb); have n2_ := zA (Kd.R_lower (Kd.R_new' ho0 (Kd.R_lt (zqC HO186.out))) (below_size (zqG HB.out GE182.out))); have n3_ := zA (blk_below (g := gb182) (o := .cells #[.int .i64 a0_0, .slice A0_1 l0_1.length c0_1] 24 (0, 0)) (zqB BK182.out) hb); have n4_ := zA (below_step (zqG HB.out GE182.out) hb); clear HO186; clear HO192; clear BK182; clear HB; have HO186 := n0_; have HO192 := n1_; have HO195 := n2_; have BK182 := n3_; have HB := n4_; clear n0_ n1_ n2_ n3_ n4_; (try clear hb); (try clear hb2); (try clear hk); (try clear hi); (try clear ho0); have hcz88_0 : w87.cell? ⟨gb182, 0, none⟩ = some (.int .i64 a0_0) := (blk_cell BK182.out 0).trans rfl; have hcz88_1 : w87.cell? ⟨gb182, 1, none⟩ = some (.slice A0_1 l0_1.length c0_1) := (blk_cell BK182.out 1).trans rfl; have hfz88_0 := blk_frozen BK182.out 0; have hfz88_1 := blk_frozen BK182.out 1) | ((with_reducible refine gate_callee (f := 24) rfl ?_); refine goesL_ (some 33) rfl rfl Try.func24 (by kernel_rfl) rfl #[.agg #[.int .i64 a0_0, .slice A0_1 l0_1.length c0_1]] rfl zqE ?_; (with_reducible refine (punch_Prove.calls a0_0 _ _ l0_1 t198 t199 _ ?side1 ?side2 A10.out).mono ?_); (case side1 => exact zqK (Kd.C_below HR0_1.out HB.out)); (case side2 => exact HC0_1.out); rintro e w89 ⟨rfl, hb⟩; refine ⟨_, rfl, ?_⟩; have n0_ := zA (Kd.R_below (zqC HO186.out) hb); have n1_ := zA (Kd.R_below (zqC HO192.out) hb); have n2_ := zA (Kd.R_below (zqC HO195.out) hb); have n3_ := zA (blk_below (g := gb182) (o := .cells #[.int .i64 a0_0, .slice A0_1 l0_1.length c0_1] 24 (0, 0)) (zqB BK182.out) hb); have n4_ := zA (below_step (zqG HB.out GE182.out) hb); clear HO186; clear HO192; clear HO195; clear BK182; clear HB; have HO186 := n0_; have HO192 := n1_; have HO195 := n2_; have BK182 := n3_; have HB := n4_; clear n0_ n1_ n2_ n3_ n4_; (try clear hb); (try clear hb2); (try clear hk); (try clear hi); have hcz90_0 : w89.cell? ⟨gb182, 0, none⟩ = some (.int .i64 a0_0) := (blk_cell BK182.out 0).trans rfl; have hcz90_1 : w89.cell? ⟨gb182, 1, none⟩ = some (.slice A0_1 l0_1.length c0_1) := (blk_cell BK182.out 1).trans rfl; have hfz90_0 := blk_frozen BK182.out 0; have hfz90_1 := blk_frozen BK182.out 1) | ((with_reducible refine gate_callee (f := 18) rfl ?_); refine goesL_ (some 38) rfl rfl Try.func18 (by kernel_rfl) rfl #[.agg #[.int .i64 a0_0, .slice A0_1 l0_1.length c0_1]] rfl zqE ?_; (with_reducible refine (pianolalaw03_given.calls k a0_0 _ _ l0_1 t200 t201 _ ?side1 ?side2 A11.out).mono ?_); (case side1 => exact zqK (Kd.C_below HR0_1.out HB.out)); (case side2 => exact HC0_1.out); rintro e w91 ⟨v202, rfl, ho0, hb⟩; refine ⟨_, rfl, ?_⟩; have n0_ := zA (Kd.R_below (zqC HO186.out) hb); have n1_ := zA (Kd.R_elder' (zqC HO192.out) (Kd.R_base ho0) hb); have n2_ := zA (Kd.R_below (zqC HO195.out) hb); have n3_ := zA (Kd.R_lower (Kd.R_new' ho0 (Kd.R_lt (zqC HO192.out))) (below_size (zqG HB.out GE182.out))); have n4_ := zA (blk_below (g := gb182) (o := .cells #[.int .i64 a0_0, .slice A0_1 l0_1.length c0_1] 24 (0, 0)) (zqB BK182.out) hb); have n5_ := zA (below_step (zqG HB.out GE182.out) hb); clear HO186; clear HO192; clear HO195; clear BK182; clear HB; have HO186 := n0_; have HO192 := n1_; have HO195 := n2_; have HO203 := n3_; have BK182 := n4_; have HB := n5_; clear n0_ n1_ n2_ n3_ n4_ n5_; (try clear hb); (try clear hb2); (try clear hk); (try clear hi); (try clear ho0); obtain ⟨Ao92, co92, eo92⟩ := Kd.R_slice HO203.out; subst eo92) | ((with_reducible refine gate_callee (f := 25) rfl ?_); refine goesL_ (some 39) rfl rfl Try.func25 (by kernel_rfl) rfl #[.agg #[.int .i64 t200, .slice Ao92 t201.length co92]] rfl zqE ?_; (with_reducible refine (pianolaref03_Prove.calls k t200 _ _ t201 t204 t205 _ ?side1 ?side2 A12.out).mono ?_); (case side1 => exact zqK (Kd.R_reads' HO203.out).2.2); (case side2 => exact (Kd.R_reads' HO203.out).2.1); rintro e w93 ⟨rfl, hb⟩; refine ⟨_, rfl, ?_⟩; have n0_ := zA (Kd.R_below (zqC HO186.out) hb); have n1_ := zA (Kd.R_below (zqC HO192.out) hb); have n2_ := zA (Kd.R_below (zqC HO195.out) hb); have n3_ := zA (Kd.R_below (zqC HO203.out) hb); have n4_ := zA (blk_below (g := gb182) (o := .cells #[.int .i64 a0_0, .slice A0_1 l0_1.length c0_1] 24 (0, 0)) (zqB BK182.out) hb); have n5_ := zA (below_step (zqG HB.out GE182.out) hb); clear HO186; clear HO192; clear HO195; clear HO203; clear BK182; clear HB; have HO186 := n0_; have HO192 := n1_; have HO195 := n2_; have HO203 := n3_; have BK182 := n4_; have HB := n5_; clear n0_ n1_ n2_ n3_ n4_ n5_; (try clear hb); (try clear hb2); (try clear hk); (try clear hi); obtain ⟨Ao94, co94, eo94⟩ := Kd.R_slice HO186.out; subst eo94; obtain ⟨Ao95, co95, eo95⟩ := Kd.R_slice HO195.out; subst eo95) | ((with_reducible refine gate_callee (f := 19) rfl ?_); refine goesL_ (some 44) rfl rfl Try.func19 (by kernel_rfl) rfl #[.slice Ao94 t184.length co94, .slice Ao95 t193.length co95] rfl zqE ?_; (with_reducible refine (pianolalaw03_numbers.calls k _ _ t184 _ _ t193 true _ ?side1 ?side2 ?side3 ?side4 A13.out).mono ?_); (case side1 => exact zqK (Kd.R_reads' HO186.out).2.2); (case side2 => exact (Kd.R_reads' HO186.out).2.1); (case side3 => exact zqK (Kd.R_reads' HO195.out).2.2); (case side4 => exact (Kd.R_reads' HO195.out).2.1); rintro e w' ⟨rfl, ⟨nd, rfl⟩⟩; refine ⟨_, rfl, ?_⟩))
    go_ret
    exact ⟨zqR, zqG HB.out GE182.out⟩
  ·
   replace c14 := Bool.eq_false_iff.mpr c14
   subst c14
   have H1 : (some false) = some r := by rw [if_neg (show ¬ (false = true) by decide)] at H; exact H
   clear H; have H := H1; clear H1
   obtain rfl := Option.some.inj H
   go_enter Try.func4, Try.ntmps4
   go_wp2_with (first | ((with_reducible refine gate_dst (N := 1) rfl ?_); refine box_event ?hg (N := 1) ?hd (cs := #[.int .i64 a0_0, .slice A0_1 l0_1.length c0_1]) (t := 24) ?hr ?_; (case hd => rfl); (case hg => rfl); (case hr => first | (go_simp; done) | (go_simp; rfl)); intro gb182 hg w96 hbox hb; have n0_ := zA (below_step (zqA HB.out) hb); have n1_ := zA (hbox); have n2_ := zA ((by rw [hg]; exact (below_size (zqA HB.out)) : w.heap.size ≤ gb182)); have n3_ := zA ((by rw [hg]; exact (below_size (zqA HB.out)) : w.heap.size ≤ gb182)); clear HB; have HB := n0_; have BK182 := n1_; have GW182 := n2_; have GE182 := n3_; clear n0_ n1_ n2_ n3_; clear hb hbox hg; have hcz97_0 : w96.cell? ⟨gb182, 0, none⟩ = some (.int .i64 a0_0) := (blk_cell BK182.out 0).trans rfl; have hcz97_1 : w96.cell? ⟨gb182, 1, none⟩ = some (.slice A0_1 l0_1.length c0_1) := (blk_cell BK182.out 1).trans rfl; have hfz97_0 := blk_frozen BK182.out 0; have hfz97_1 := blk_frozen BK182.out 1) | ((with_reducible refine gate_callee (f := 22) rfl ?_); refine goesL_ (some 20) rfl rfl Try.func22 (by kernel_rfl) rfl #[.agg #[.int .i64 a0_0, .slice A0_1 l0_1.length c0_1]] rfl zqE ?_; (with_reducible refine (punch_Passes.calls a0_0 _ _ l0_1 t184 t187 t188 _ ?side1 ?side2 A7.out).mono ?_); (case side1 => exact zqK (Kd.C_below HR0_1.out HB.out)); (case side2 => exact HC0_1.out); rintro e w98 ⟨v185, rfl, ho0, hb⟩; refine ⟨_, rfl, ?_⟩; have n0_ := zA (Kd.R_lower ho0 (below_size (zqG HB.out GE182.out))); have n1_ := zA (blk_below (g := gb182) (o := .cells #[.int .i64 a0_0, .slice A0_1 l0_1.length c0_1] 24 (0, 0)) (zqB BK182.out) hb); have n2_ := zA (below_step (zqG HB.out GE182.out) hb); clear BK182; clear HB; have HO186 := n0_; have BK182 := n1_; have HB := n2_; clear n0_ n1_ n2_; (try clear hb); (try clear hb2); (try clear hk); (try clear hi); (try clear ho0); have hcz99_0 : w98.cell? ⟨gb182, 0, none⟩ = some (.int .i64 a0_0) := (blk_cell BK182.out 0).trans rfl; have hcz99_1 : w98.cell? ⟨gb182, 1, none⟩ = some (.slice A0_1 l0_1.length c0_1) := (blk_cell BK182.out 1).trans rfl; have hfz99_0 := blk_frozen BK182.out 0; have hfz99_1 := blk_frozen BK182.out 1) | ((with_reducible refine gate_callee (f := 18) rfl ?_); refine goesL_ (some 26) rfl rfl Try.func18 (by kernel_rfl) rfl #[.agg #[.int .i64 a0_0, .slice A0_1 l0_1.length c0_1]] rfl zqE ?_; (with_reducible refine (pianolalaw03_given.calls k a0_0 _ _ l0_1 t189 t190 _ ?side1 ?side2 A8.out).mono ?_); (case side1 => exact zqK (Kd.C_below HR0_1.out HB.out)); (case side2 => exact HC0_1.out); rintro e w100 ⟨v191, rfl, ho0, hb⟩; refine ⟨_, rfl, ?_⟩; have n0_ := zA (Kd.R_below (zqC HO186.out) hb); have n1_ := zA (Kd.R_lower ho0 (below_size (zqG HB.out GE182.out))); have n2_ := zA (blk_below (g := gb182) (o := .cells #[.int .i64 a0_0, .slice A0_1 l0_1.length c0_1] 24 (0, 0)) (zqB BK182.out) hb); have n3_ := zA (below_step (zqG HB.out GE182.out) hb); clear HO186; clear BK182; clear HB; have HO186 := n0_; have HO192 := n1_; have BK182 := n2_; have HB := n3_; clear n0_ n1_ n2_ n3_; (try clear hb); (try clear hb2); (try clear hk); (try clear hi); (try clear ho0); obtain ⟨Ao101, co101, eo101⟩ := Kd.R_slice HO192.out; subst eo101) | ((with_reducible refine gate_callee (f := 23) rfl ?_); refine goesL_ (some 27) rfl rfl Try.func23 (by kernel_rfl) rfl #[.agg #[.int .i64 t189, .slice Ao101 t190.length co101]] rfl zqE ?_; (with_reducible refine (pianolaref03_Passes.calls k t189 _ _ t190 t193 t196 t197 _ ?side1 ?side2 A9.out).mono ?_); (case side1 => exact zqK (Kd.R_reads' HO192.out).2.2); (case side2 => exact (Kd.R_reads' HO192.out).2.1); rintro e w102 ⟨v194, rfl, ho0, hb⟩; refine ⟨_, rfl, ?_⟩; have n0_ := zA (Kd.R_elder' (zqC HO186.out) (Kd.R_base ho0) hb); have n1_ := zA (Kd.R_below (zqC HO192.out) hb); have n2_ := zA (Kd.R_lower (Kd.R_new' ho0 (Kd.R_lt (zqC HO186.out))) (below_size (zqG HB.out GE182.out))); have n3_ := zA (blk_below (g := gb182) (o := .cells #[.int .i64 a0_0, .slice A0_1 l0_1.length c0_1] 24 (0, 0)) (zqB BK182.out) hb); have n4_ := zA (below_step (zqG HB.out GE182.out) hb); clear HO186; clear HO192; clear BK182; clear HB; have HO186 := n0_; have HO192 := n1_; have HO195 := n2_; have BK182 := n3_; have HB := n4_; clear n0_ n1_ n2_ n3_ n4_; (try clear hb); (try clear hb2); (try clear hk); (try clear hi); (try clear ho0); have hcz103_0 : w102.cell? ⟨gb182, 0, none⟩ = some (.int .i64 a0_0) := (blk_cell BK182.out 0).trans rfl; have hcz103_1 : w102.cell? ⟨gb182, 1, none⟩ = some (.slice A0_1 l0_1.length c0_1) := (blk_cell BK182.out 1).trans rfl; have hfz103_0 := blk_frozen BK182.out 0; have hfz103_1 := blk_frozen BK182.out 1) | ((with_reducible refine gate_callee (f := 24) rfl ?_); refine goesL_ (some 33) rfl rfl Try.func24 (by kernel_rfl) rfl #[.agg #[.int .i64 a0_0, .slice A0_1 l0_1.length c0_1]] rfl zqE ?_; (with_reducible refine (punch_Prove.calls a0_0 _ _ l0_1 t198 t199 _ ?side1 ?side2 A10.out).mono ?_); (case side1 => exact zqK (Kd.C_below HR0_1.out HB.out)); (case side2 => exact HC0_1.out); rintro e w104 ⟨rfl, hb⟩; refine ⟨_, rfl, ?_⟩; have n0_ := zA (Kd.R_below (zqC HO186.out) hb); have n1_ := zA (Kd.R_below (zqC HO192.out) hb); have n2_ := zA (Kd.R_below (zqC HO195.out) hb); have n3_ := zA (blk_below (g := gb182) (o := .cells #[.int .i64 a0_0, .slice A0_1 l0_1.length c0_1] 24 (0, 0)) (zqB BK182.out) hb); have n4_ := zA (below_step (zqG HB.out GE182.out) hb); clear HO186; clear HO192; clear HO195; clear BK182; clear HB; have HO186 := n0_; have HO192 := n1_; have HO195 := n2_; have BK182 := n3_; have HB := n4_; clear n0_ n1_ n2_ n3_ n4_; (try clear hb); (try clear hb2); (try clear hk); (try clear hi); have hcz105_0 : w104.cell? ⟨gb182, 0, none⟩ = some (.int .i64 a0_0) := (blk_cell BK182.out 0).trans rfl; have hcz105_1 : w104.cell? ⟨gb182, 1, none⟩ = some (.slice A0_1 l0_1.length c0_1) := (blk_cell BK182.out 1).trans rfl; have hfz105_0 := blk_frozen BK182.out 0; have hfz105_1 := blk_frozen BK182.out 1) | ((with_reducible refine gate_callee (f := 18) rfl ?_); refine goesL_ (some 38) rfl rfl Try.func18 (by kernel_rfl) rfl #[.agg #[.int .i64 a0_0, .slice A0_1 l0_1.length c0_1]] rfl zqE ?_; (with_reducible refine (pianolalaw03_given.calls k a0_0 _ _ l0_1 t200 t201 _ ?side1 ?side2 A11.out).mono ?_); (case side1 => exact zqK (Kd.C_below HR0_1.out HB.out)); (case side2 => exact HC0_1.out); rintro e w106 ⟨v202, rfl, ho0, hb⟩; refine ⟨_, rfl, ?_⟩; have n0_ := zA (Kd.R_below (zqC HO186.out) hb); have n1_ := zA (Kd.R_elder' (zqC HO192.out) (Kd.R_base ho0) hb); have n2_ := zA (Kd.R_below (zqC HO195.out) hb); have n3_ := zA (Kd.R_lower (Kd.R_new' ho0 (Kd.R_lt (zqC HO192.out))) (below_size (zqG HB.out GE182.out))); have n4_ := zA (blk_below (g := gb182) (o := .cells #[.int .i64 a0_0, .slice A0_1 l0_1.length c0_1] 24 (0, 0)) (zqB BK182.out) hb); have n5_ := zA (below_step (zqG HB.out GE182.out) hb); clear HO186; clear HO192; clear HO195; clear BK182; clear HB; have HO186 := n0_; have HO192 := n1_; have HO195 := n2_; have HO203 := n3_; have BK182 := n4_; have HB := n5_; clear n0_ n1_ n2_ n3_ n4_ n5_; (try clear hb); (try clear hb2); (try clear hk); (try clear hi); (try clear ho0); obtain ⟨Ao107, co107, eo107⟩ := Kd.R_slice HO203.out; subst eo107) | ((with_reducible refine gate_callee (f := 25) rfl ?_); refine goesL_ (some 39) rfl rfl Try.func25 (by kernel_rfl) rfl #[.agg #[.int .i64 t200, .slice Ao107 t201.length co107]] rfl zqE ?_; (with_reducible refine (pianolaref03_Prove.calls k t200 _ _ t201 t204 t205 _ ?side1 ?side2 A12.out).mono ?_); (case side1 => exact zqK (Kd.R_reads' HO203.out).2.2); (case side2 => exact (Kd.R_reads' HO203.out).2.1); rintro e w108 ⟨rfl, hb⟩; refine ⟨_, rfl, ?_⟩; have n0_ := zA (Kd.R_below (zqC HO186.out) hb); have n1_ := zA (Kd.R_below (zqC HO192.out) hb); have n2_ := zA (Kd.R_below (zqC HO195.out) hb); have n3_ := zA (Kd.R_below (zqC HO203.out) hb); have n4_ := zA (blk_below (g := gb182) (o := .cells #[.int .i64 a0_0, .slice A0_1 l0_1.length c0_1] 24 (0, 0)) (zqB BK182.out) hb); have n5_ := zA (below_step (zqG HB.out GE182.out) hb); clear HO186; clear HO192; clear HO195; clear HO203; clear BK182; clear HB; have HO186 := n0_; have HO192 := n1_; have HO195 := n2_; have HO203 := n3_; have BK182 := n4_; have HB := n5_; clear n0_ n1_ n2_ n3_ n4_ n5_; (try clear hb); (try clear hb2); (try clear hk); (try clear hi); obtain ⟨Ao109, co109, eo109⟩ := Kd.R_slice HO186.out; subst eo109; obtain ⟨Ao110, co110, eo110⟩ := Kd.R_slice HO195.out; subst eo110) | ((with_reducible refine gate_callee (f := 19) rfl ?_); refine goesL_ (some 44) rfl rfl Try.func19 (by kernel_rfl) rfl #[.slice Ao109 t184.length co109, .slice Ao110 t193.length co110] rfl zqE ?_; (with_reducible refine (pianolalaw03_numbers.calls k _ _ t184 _ _ t193 false _ ?side1 ?side2 ?side3 ?side4 A13.out).mono ?_); (case side1 => exact zqK (Kd.R_reads' HO186.out).2.2); (case side2 => exact (Kd.R_reads' HO186.out).2.1); (case side3 => exact zqK (Kd.R_reads' HO195.out).2.2); (case side4 => exact (Kd.R_reads' HO195.out).2.1); rintro e w' ⟨rfl, ⟨nd, rfl⟩⟩; refine ⟨_, rfl, ?_⟩))
   go_ret
   exact ⟨zqR, zqG HB.out GE182.out⟩
end Go.Proofs.Ytegffliopblajaa.P
end
section
namespace Go.Proofs.Ytegffliopblajaa.P
open Go.RowKit Go.Proofs.YtegffliopblajaaW.PrintWords Go.Proofs.YtegffliopblajaaW.PrintLast Go.Proofs.YtegffliopblajaaW.PrintMore
set_option linter.unusedVariables false
set_option linter.unusedSimpArgs false
def c52 (x : S47) : S52 := ⟨x.f0, x.f1⟩
def gS (l : List S47) : List S52 := l.map c52
theorem gS_len (l : List S47) : (gS l).length = l.length := by simp [gS]
theorem gS_get (l : List S47) (i : Int) : rd_T52 (gS l) i = ⟨(rd_T47 l i).f0, (rd_T47 l i).f1⟩ := by
  unfold rd_T52 rd_T47 gS
  rw [List.getD_eq_getElem?_getD, List.getD_eq_getElem?_getD, List.getElem?_map]
  cases h : l[i.toNat]? with
  | none => rfl
  | some x => rfl
theorem rd47_at {l : List S47} {i : Nat} (h : i < l.length) : rd_T47 l (i : Int) = l[i] := by
  unfold rd_T47
  rw [List.getD_eq_getElem?_getD, Int.toNat_natCast, List.getElem?_eq_getElem h]; rfl
theorem rdI_at {l : List Int} {i : Nat} (h : i < l.length) : rd l (i : Int) = l[i] := by
  unfold rd
  rw [List.getD_eq_getElem?_getD, Int.toNat_natCast, List.getElem?_eq_getElem h]; rfl
theorem w_succ (i : Nat) (h : i ≤ 1000000000) : wrap64 ((i : Int) + 1) = ((i + 1 : Nat) : Int) := by unfold wrap64; omega
theorem given_l0 (a b : Int) (l : List S47) (hl : l.length ≤ 1000000) : ∀ (m i : Nat), i + m = l.length → Ev (fun k => pianolalaw03_given.l0 k i b l a (gS (l.take i))) (a, gS l)
  | 0, i, h => by
    refine Ev.step (f := fun _ => some (a, gS l)) (fun k => ?_) (Ev.now _)
    rw [pianolalaw03_given.l0, if_neg (by omega), List.take_of_length_le (by omega)]
  | m + 1, i, h => by
    refine Ev.step (fun k => ?_) (given_l0 a b l hl m (i + 1) (by omega))
    rw [pianolalaw03_given.l0, if_pos (by omega), if_pos (by omega), if_pos (by rw [gS_len, List.length_take]; omega), w_succ i (by omega)]
    congr 1
    have hi : i < l.length := by omega
    rw [List.take_succ_eq_append_getElem hi, rd47_at hi]
    unfold gS
    rw [List.map_append]
    rfl
theorem given_f (a : Int) (l : List S47) (hl : l.length ≤ 1000000) : Ev (fun k => pianolalaw03_given.f k a l) (a, gS l) := by
  have := given_l0 a a l hl l.length 0 (by omega)
  simpa [pianolalaw03_given.f, gS] using this
theorem is_f (a b c : Int) : pianolaref03_is.f a b c = some (btw b a c) := by
  unfold pianolaref03_is.f pianolaref01_Is.f btw
  by_cases h : a ≥ b
  · rw [if_pos h, decide_eq_true (show b ≤ a from h)]; rfl
  · rw [if_neg h, decide_eq_false (show ¬ b ≤ a from h)]; rfl
theorem slot_f (a b : Int) : pianolaref03_slot.f a b = some (good ⟨a, b⟩) := by
  unfold pianolaref03_slot.f good
  by_cases h : 0 ≤ a
  · by_cases h2 : a < b <;> simp [h, h2]
  · simp [h]
def chk (rest : Int) (l : List S47) : Int := if btw 0 rest 1000 = true then (if l.length > 40 then 5 else if (l.any fun x => !good x) = true then 3 else 0) else 3
theorem check_f (rest : Int) (l : List S47) : punch_Check.f rest l = some (chk rest l) := by
  unfold punch_Check.f chk
  rw [btw_f]
  show (if btw 0 rest 1000 = true then _ else _) = _
  by_cases c : btw 0 rest 1000 = true
  · rw [if_pos c, if_pos c]
    by_cases c2 : l.length > 40
    · rw [if_pos (by omega), if_pos c2]
    · rw [if_neg (by omega), if_neg c2]
      unfold any_bad.f
      rw [if_pos (by omega)]
      show (if (l.any fun x => !good x) = true then _ else _) = _
      split <;> rfl
  · rw [if_neg c, if_neg c]
theorem rcheck_l0 (a : Int) (l : List S47) (hl : l.length ≤ 40) : ∀ (m i : Nat), i + m = l.length → Ev (fun k => pianolaref03_Check.l0 k i a (gS l)) (if ((l.drop i).any fun x => !good x) = true then 3 else 0)
  | 0, i, h => by
    refine Ev.step (f := fun _ => some 0) (fun k => ?_) (by rw [List.drop_eq_nil_of_le (by omega)]; exact Ev.now _)
    rw [pianolaref03_Check.l0, if_neg (by rw [gS_len]; omega)]
  | m + 1, i, h => by
    have hi : i < l.length := by omega
    rw [List.drop_eq_getElem_cons hi, List.any_cons]
    have e : ∀ k, pianolaref03_Check.l0 (k + 1) i a (gS l) = if good l[i] = true then pianolaref03_Check.l0 k ((i + 1 : Nat) : Int) a (gS l) else some 3 := fun k => by
      rw [pianolaref03_Check.l0, if_pos (by rw [gS_len]; omega), if_pos (by omega), gS_get, slot_f, w_succ i (by omega), rd47_at hi]
      rfl
    cases c : good l[i] with
    | true =>
      refine Ev.step (fun k => (e k).trans (by rw [c, if_pos rfl])) ?_
      have := rcheck_l0 a l hl m (i + 1) (by omega)
      simpa using this
    | false =>
      refine Ev.step (f := fun _ => some 3) (fun k => (e k).trans (by rw [c, if_neg (by decide)])) ?_
      simp only [Bool.not_false, Bool.true_or, if_true]
      exact Ev.now _
theorem rcheck_f (rest : Int) (l : List S47) : Ev (fun k => pianolaref03_Check.f k rest (gS l)) (chk rest l) := by
  unfold pianolaref03_Check.f chk
  simp only [is_f, Option.bind_some]
  by_cases c : btw 0 rest 1000 = true
  · rw [if_pos c]
    simp only [if_pos c, gS_len]
    by_cases c2 : l.length > 40
    · rw [if_pos c2]
      simp only [if_pos (show (l.length : Int) > 40 by omega)]
      exact Ev.now _
    · rw [if_neg c2]
      simp only [if_neg (show ¬ (l.length : Int) > 40 by omega)]
      have := rcheck_l0 rest l (by omega) l.length 0 (by omega)
      simpa using this
  · rw [if_neg c]
    simp only [if_neg c]
    exact Ev.now _
theorem numbers_l0 (a b : List Int) (h1 : a.length = b.length) (hl : a.length ≤ 1000000) : ∀ (m i : Nat), i + m = a.length → Ev (fun k => pianolalaw03_numbers.l0 k a b i) (decide (a.drop i = b.drop i))
  | 0, i, h => by
    refine Ev.step (f := fun _ => some true) (fun k => ?_) (by rw [List.drop_eq_nil_of_le (by omega), List.drop_eq_nil_of_le (by omega)]; exact Ev.now _)
    rw [pianolalaw03_numbers.l0, if_neg (by omega)]
  | m + 1, i, h => by
    have hi : i < a.length := by omega
    have hi2 : i < b.length := by omega
    have hd : decide (a.drop i = b.drop i) = (decide (a[i] = b[i]) && decide (a.drop (i + 1) = b.drop (i + 1))) := by
      rw [List.drop_eq_getElem_cons hi, List.drop_eq_getElem_cons hi2, ← Bool.decide_and]
      exact decide_eq_decide.2 (by rw [List.cons.injEq])
    rw [hd]
    have e : ∀ k, pianolalaw03_numbers.l0 (k + 1) a b i = if a[i] = b[i] then pianolalaw03_numbers.l0 k a b ((i + 1 : Nat) : Int) else some false := fun k => by
      rw [pianolalaw03_numbers.l0, if_pos (by omega), if_pos (by omega), if_pos (by omega), rdI_at hi, rdI_at hi2, w_succ i (by omega)]
    by_cases c : a[i] = b[i]
    · refine Ev.step (fun k => (e k).trans (by rw [if_pos c])) ?_
      rw [decide_eq_true c, Bool.true_and]
      exact numbers_l0 a b h1 hl m (i + 1) (by omega)
    · refine Ev.step (f := fun _ => some false) (fun k => (e k).trans (by rw [if_neg c])) ?_
      rw [decide_eq_false c, Bool.false_and]
      exact Ev.now _
theorem numbers_f (a b : List Int) (hl : a.length ≤ 1000000) : Ev (fun k => pianolalaw03_numbers.f k a b) (decide (a = b)) := by
  unfold pianolalaw03_numbers.f
  by_cases c : a.length = b.length
  · simp only [if_pos (show (a.length : Int) = (b.length : Int) by omega)]
    have := numbers_l0 a b c hl a.length 0 (by omega)
    simpa using this
  · simp only [if_neg (show ¬ (a.length : Int) = (b.length : Int) by omega)]
    rw [decide_eq_false (fun e => c (by rw [e]))]
    exact Ev.now _
theorem rcrowd_l0 (rest m : Int) (l : List S47) (hl : l.length ≤ 40) : ∀ (r i : Nat), i + r = l.length → Ev (fun k => pianolaref03_crowd.l0 k m (crowdTo rest m l i) i rest (gS l)) (crowdL rest m l)
  | 0, i, h => by
    obtain rfl : i = l.length := by omega
    refine Ev.step (f := fun _ => some (crowdL rest m l)) (fun k => ?_) (Ev.now _)
    rw [pianolaref03_crowd.l0, if_neg (by rw [gS_len]; omega)]
    rfl
  | r + 1, i, h => by
    refine Ev.step (fun k => ?_) (rcrowd_l0 rest m l hl r (i + 1) (by omega))
    have hlen := crowdTo_len rest m l i
    rw [pianolaref03_crowd.l0, if_pos (by rw [gS_len]; omega), if_pos (by omega), gS_get, w_succ i (by omega), crowdTo_succ]
    unfold inB
    by_cases c1 : (rd_T47 l (i : Int)).f0 ≤ m
    · by_cases c2 : m < wrap64 ((rd_T47 l (i : Int)).f1 + rest)
      · rw [if_pos c1, if_pos c2, if_pos (by omega), if_pos (by simp [c1, c2])]
      · rw [if_pos c1, if_neg c2, if_neg (by simp [c2])]
    · rw [if_neg c1, if_neg (by simp [c1])]
theorem rcrowd_f (rest m : Int) (l : List S47) (hl : l.length ≤ 40) : Ev (fun k => pianolaref03_crowd.f k rest (gS l) m) (crowdL rest m l) := by
  have := rcrowd_l0 rest m l hl l.length 0 (by omega)
  simpa [pianolaref03_crowd.f, crowdTo] using this
theorem chk_len {rest : Int} {l : List S47} (h : chk rest l = 0) : l.length ≤ 40 := by
  unfold chk at h
  split at h
  · split at h
    · cases h
    · omega
  · cases h
end Go.Proofs.Ytegffliopblajaa.P
end
section
namespace Go.Proofs.Ytegffliopblajaa.P
open Go.RowKit Go.Proofs.YtegffliopblajaaW.PrintWords Go.Proofs.YtegffliopblajaaW.PrintLast Go.Proofs.YtegffliopblajaaW.PrintMore
set_option linter.unusedVariables false
set_option linter.unusedSimpArgs false
def Cl (rest : Int) (x y : S47) : Bool := decide (x.f0 < wrap64 (y.f1 + rest)) && decide (y.f0 < wrap64 (x.f1 + rest))
theorem Cl_comm (rest : Int) (x y : S47) : Cl rest x y = Cl rest y x := by unfold Cl; rw [Bool.and_comm]
theorem clash_f (x y : S47) (rest : Int) : pianolaref03_clash.f x.f0 x.f1 y.f0 y.f1 rest = some (Cl rest x y) := by
  unfold pianolaref03_clash.f Cl
  by_cases c : x.f0 < wrap64 (y.f1 + rest)
  · rw [if_pos c, decide_eq_true c, Bool.true_and]
  · rw [if_neg c, decide_eq_false c, Bool.false_and]
theorem clB_eq (x : S47) (p rest a b : Int) : clB x p rest a b = (Cl rest x ⟨a, b⟩ && decide (0 ≤ p)) := rfl
theorem mem_clashL (l : List S47) (ps : List Int) (rest a b p : Int) : ∀ (r f : Nat), p ∈ clashL l ps rest a b r f ↔ ∃ i, f ≤ i ∧ i < f + r ∧ ps.getD i 0 = p ∧ clB (rd_T47 l (i : Int)) (ps.getD i 0) rest a b = true
  | 0, f => by
    constructor
    · intro h; cases h
    · rintro ⟨i, h1, h2, _⟩; omega
  | r + 1, f => by
    rw [clashL]
    have ih := mem_clashL l ps rest a b p r (f + 1)
    constructor
    · intro h
      split at h
      · rename_i hc
        rcases List.mem_cons.1 h with h | h
        · exact ⟨f, Nat.le_refl _, by omega, h.symm, hc⟩
        · obtain ⟨i, h1, h2, h3⟩ := ih.1 h
          exact ⟨i, by omega, by omega, h3⟩
      · obtain ⟨i, h1, h2, h3⟩ := ih.1 h
        exact ⟨i, by omega, by omega, h3⟩
    · rintro ⟨i, h1, h2, h3, h4⟩
      by_cases e : i = f
      · subst e
        rw [if_pos h4, h3]
        exact List.mem_cons_self
      · have := ih.2 ⟨i, by omega, by omega, h3, h4⟩
        split
        · exact List.mem_cons_of_mem _ this
        · exact this
theorem least_of {P : Nat → Prop} (h : ∃ m, P m) : ∃ m, P m ∧ ∀ j, j < m → ¬ P j := by
  obtain ⟨m, hm⟩ := h
  induction m using Nat.strongRecOn with
  | ind m ih =>
    by_cases c : ∃ j, j < m ∧ P j
    · obtain ⟨j, hj, hp⟩ := c
      exact ih j hj hp
    · exact ⟨m, hm, fun j hj hp => c ⟨j, hj, hp⟩⟩
theorem mex_exists (cs : List Int) : ∃ m, IsMex cs m := by
  have ex : ∃ m : Nat, (m : Int) ∉ cs := Classical.byContradiction fun h => by
    have := cover_len (n := cs.length + 1) (cs := cs) (fun j _ => Classical.byContradiction fun hj => h ⟨j, hj⟩)
    omega
  obtain ⟨m, hm, hl⟩ := least_of ex
  exact ⟨m, hm, fun j hj => Classical.byContradiction (hl j hj)⟩
theorem mexL_is (cs : List Int) : IsMex cs (mexL cs) := by
  obtain ⟨m, h⟩ := mex_exists cs
  rw [← mexL_eq h]
  exact h
theorem mexL_le (cs : List Int) : mexL cs ≤ cs.length := cover_len (mexL_is cs).2
def freeB (rest : Int) (l : List S47) (pl : List Int) (s : S47) (n : Int) (i : Nat) : Bool := (List.range i).all fun j => !(decide (rd pl (j : Int) = n) && Cl rest (rd_T47 l (j : Int)) s)
theorem freeB_succ (rest : Int) (l : List S47) (pl : List Int) (s : S47) (n : Int) (i : Nat) : freeB rest l pl s n (i + 1) = (freeB rest l pl s n i && !(decide (rd pl (i : Int) = n) && Cl rest (rd_T47 l (i : Int)) s)) := by
  unfold freeB
  rw [List.range_succ, List.all_append]
  simp
theorem small_l1 (rest : Int) (l : List S47) (pl : List Int) (s : S47) (n : Int) (hpl : pl.length ≤ l.length) (hl : l.length ≤ 1000) {r : Int}
    (hr : Ev (fun k => if freeB rest l pl s n pl.length = true then some n else pianolaref03_smallest.l0 k pl (wrap64 (n + 1)) rest (gS l) s.f0 s.f1) r) :
    ∀ (m i : Nat), i + m = pl.length → Ev (fun k => pianolaref03_smallest.l1 k pl n (freeB rest l pl s n i) i rest (gS l) s.f0 s.f1) r
  | 0, i, h => by
    obtain rfl : i = pl.length := by omega
    refine Ev.step (fun k => ?_) hr
    rw [pianolaref03_smallest.l1, if_neg (by omega)]
  | m + 1, i, h => by
    refine Ev.step (fun k => ?_) (small_l1 rest l pl s n hpl hl hr m (i + 1) (by omega))
    rw [pianolaref03_smallest.l1, if_pos (by omega), freeB_succ, w_succ i (by omega)]
    cases hf : freeB rest l pl s n i with
    | false => rw [if_neg (by decide), Bool.false_and]
    | true =>
      rw [if_pos rfl, if_pos (by omega), Bool.true_and]
      by_cases c : rd pl (i : Int) = n
      · rw [if_pos c, if_pos (by rw [gS_len]; omega), gS_get, clash_f, decide_eq_true c, Bool.true_and]
        rfl
      · rw [if_neg c, decide_eq_false c, Bool.false_and]
        rfl
theorem free_iff {rest : Int} {l : List S47} {pl : List Int} {s : S47} {n : Int} {i : Nat} : freeB rest l pl s n i = true ↔ ¬ ∃ j, j < i ∧ rd pl (j : Int) = n ∧ Cl rest (rd_T47 l (j : Int)) s = true := by
  unfold freeB
  rw [List.all_eq_true]
  constructor
  · rintro h ⟨j, hj, h1, h2⟩
    have := h j (List.mem_range.2 hj)
    simp [h1, h2] at this
  · intro h j hj
    rw [Bool.not_eq_true']
    by_cases c : rd pl (j : Int) = n ∧ Cl rest (rd_T47 l (j : Int)) s = true
    · exact absurd ⟨j, List.mem_range.1 hj, c⟩ h
    · rw [Bool.and_eq_false_iff]
      by_cases c1 : rd pl (j : Int) = n
      · exact .inr (by simpa using fun e => c ⟨c1, e⟩)
      · exact .inl (decide_eq_false c1)
theorem rsmallest_f (rest : Int) (l : List S47) (pl : List Int) (s : S47) (hpl : pl.length ≤ l.length) (hl : l.length ≤ 1000) (cs : List Int) (hcl : cs.length ≤ 1000)
    (hcs : ∀ n : Nat, (n : Int) ∈ cs ↔ ∃ j, j < pl.length ∧ rd pl (j : Int) = n ∧ Cl rest (rd_T47 l (j : Int)) s = true) : Ev (fun k => pianolaref03_smallest.f k rest (gS l) pl s.f0 s.f1) ((mexL cs : Nat) : Int) := by
  have hm := mexL_is cs
  have hle := mexL_le cs
  have go : ∀ (r n : Nat), n + r = mexL cs → Ev (fun k => pianolaref03_smallest.l0 k pl n rest (gS l) s.f0 s.f1) ((mexL cs : Nat) : Int) := by
    intro r
    induction r with
    | zero =>
      intro n hn
      refine Ev.step (fun k => by rw [pianolaref03_smallest.l0]; rfl) (small_l1 rest l pl s n hpl hl ?_ pl.length 0 (by omega))
      have : freeB rest l pl s n pl.length = true := free_iff.2 (fun h => hm.1 (by rw [← show n = mexL cs by omega]; exact (hcs n).2 h))
      simp only [if_pos this]
      rw [show n = mexL cs by omega]
      exact Ev.now _
    | succ r ih =>
      intro n hn
      refine Ev.step (fun k => by rw [pianolaref03_smallest.l0]; rfl) (small_l1 rest l pl s n hpl hl ?_ pl.length 0 (by omega))
      have : ¬ freeB rest l pl s n pl.length = true := fun h => free_iff.1 h ((hcs n).1 (hm.2 n (by omega)))
      simp only [if_neg this, w_succ n (by omega)]
      exact ih (n + 1) (by omega)
  have := go (mexL cs) 0 (by omega)
  simpa [pianolaref03_smallest.f] using this
def passN (p : List Int) : Int := p.foldl (fun n x => max n (x + 1)) 0
theorem mx_max (a b : Int) : mx a b = max a b := by unfold mx; omega
theorem rpasses_l0 (p : List Int) (hb : ∀ x ∈ p, -1 ≤ x ∧ x ≤ 1000) (hl : p.length ≤ 1000) : ∀ (m i : Nat) (n : Int), i + m = p.length → Ev (fun k => pianolaref03_passes.l0 k p n i) ((p.drop i).foldl (fun n x => max n (x + 1)) n)
  | 0, i, n, h => by
    refine Ev.step (f := fun _ => some n) (fun k => ?_) (by rw [List.drop_eq_nil_of_le (by omega)]; exact Ev.now _)
    rw [pianolaref03_passes.l0, if_neg (by omega)]
  | m + 1, i, n, h => by
    have hi : i < p.length := by omega
    have hx := hb p[i] (List.getElem_mem hi)
    have e : p.drop i = p[i] :: p.drop (i + 1) := List.drop_eq_getElem_cons hi
    rw [e, List.foldl_cons]
    refine Ev.step (fun k => ?_) (rpasses_l0 p hb hl m (i + 1) (max n (p[i] + 1)) (by omega))
    rw [pianolaref03_passes.l0, if_pos (by omega), if_pos (by omega), rdI_at hi, w_succ i (by omega), mx_max, show wrap64 (p[i] + 1) = p[i] + 1 by unfold wrap64; omega]
theorem rpasses_f (p : List Int) (hb : ∀ x ∈ p, -1 ≤ x ∧ x ≤ 1000) (hl : p.length ≤ 1000) : Ev (fun k => pianolaref03_passes.f k p) (passN p) := by
  have := rpasses_l0 p hb hl p.length 0 0 (by omega)
  simpa [pianolaref03_passes.f, passN] using this
theorem passes_l0 (p : List Int) (hb : ∀ x ∈ p, -1 ≤ x ∧ x ≤ 1000) (hl : p.length ≤ 1000) : ∀ (m i k : Nat) (n : Int), i + m = p.length → m < k → punch_passes.l0 k n p p.length i = some ((p.drop i).foldl (fun n x => max n (x + 1)) n)
  | 0, i, 0, n, h, hk => by omega
  | m + 1, i, 0, n, h, hk => by omega
  | 0, i, k + 1, n, h, hk => by
    rw [punch_passes.l0, if_neg (by omega), List.drop_eq_nil_of_le (by omega)]
    rfl
  | m + 1, i, k + 1, n, h, hk => by
    have hi : i < p.length := by omega
    have hx := hb p[i] (List.getElem_mem hi)
    have e : p.drop i = p[i] :: p.drop (i + 1) := List.drop_eq_getElem_cons hi
    rw [e, List.foldl_cons, punch_passes.l0, if_pos (by omega), if_pos (by omega), if_pos (by omega), rdI_at hi, w_succ i (by omega), mx_max, show wrap64 (p[i] + 1) = p[i] + 1 by unfold wrap64; omega]
    exact passes_l0 p hb hl m (i + 1) k (max n (p[i] + 1)) (by omega) (by omega)
theorem passes_f (p : List Int) (hb : ∀ x ∈ p, -1 ≤ x ∧ x ≤ 1000) (hl : p.length ≤ 1000) : punch_passes.f (p.length + 1) p = some (passN p) := by
  have := passes_l0 p hb hl p.length 0 (p.length + 1) 0 (by omega) (by omega)
  simpa [punch_passes.f, passN] using this
end Go.Proofs.Ytegffliopblajaa.P
end
section
namespace Go.Proofs.Ytegffliopblajaa.P
open Go.RowKit Go.Proofs.YtegffliopblajaaW.PrintWords Go.Proofs.YtegffliopblajaaW.PrintLast Go.Proofs.YtegffliopblajaaW.PrintMore
set_option linter.unusedVariables false
set_option linter.unusedSimpArgs false
theorem noPass_iff {p : Int} : noPass p = false ↔ 0 ≤ p ∧ p ≤ 39 := by
  unfold noPass
  rw [Bool.not_eq_false', btw_iff]
def apartB (rest : Int) (l : List S47) (pl : List Int) (i : Nat) : Bool := (List.range i).all fun k => !(decide (rd pl (i : Int) = rd pl (k : Int)) && Cl rest (rd_T47 l (i : Int)) (rd_T47 l (k : Int)))
def planB (rest : Int) (l : List S47) (pl : List Int) : Bool := (List.range l.length).all (apartB rest l pl)
theorem apartB_iff {rest : Int} {l : List S47} {pl : List Int} {i : Nat} : apartB rest l pl i = true ↔ ∀ k, k < i → rd pl (i : Int) = rd pl (k : Int) → Cl rest (rd_T47 l (i : Int)) (rd_T47 l (k : Int)) = false := by
  unfold apartB
  rw [List.all_eq_true]
  constructor
  · intro h k hk e
    have := h k (List.mem_range.2 hk)
    rw [e] at this
    simpa using this
  · intro h k hk
    rw [Bool.not_eq_true', Bool.and_eq_false_iff]
    by_cases c : rd pl (i : Int) = rd pl (k : Int)
    · exact .inr (h k (List.mem_range.1 hk) c)
    · exact .inl (decide_eq_false c)
def perr (rest : Int) (l : List S47) (pl : List Int) : Int := if chk rest l = 0 then (if pl.length = l.length then (if pl.any noPass = true then 3 else if planB rest l pl = true then 0 else 14) else 6) else chk rest l
theorem perr_ok {rest : Int} {l : List S47} {pl : List Int} (h : perr rest l pl = 0) : chk rest l = 0 ∧ l.length ≤ 40 ∧ pl.length = l.length ∧ (∀ x ∈ pl, 0 ≤ x ∧ x ≤ 39) ∧ planB rest l pl = true := by
  unfold perr at h
  split at h
  · rename_i c
    split at h
    · rename_i c2
      split at h
      · cases h
      · rename_i c3
        split at h
        · rename_i c4
          have c3' : pl.any noPass = false := by simpa using c3
          rw [List.any_eq_false] at c3'
          exact ⟨c, chk_len c, c2, fun x hx => noPass_iff.1 (by simpa using c3' x hx), c4⟩
        · cases h
    · cases h
  · exact absurd h (by assumption)
end Go.Proofs.Ytegffliopblajaa.P
end
section
namespace Go.Proofs.Ytegffliopblajaa.P
open Go.RowKit Go.Proofs.YtegffliopblajaaW.PrintWords Go.Proofs.YtegffliopblajaaW.PrintLast Go.Proofs.YtegffliopblajaaW.PrintMore
set_option linter.unusedVariables false
set_option linter.unusedSimpArgs false
def oS (l : List S47) (r : Nat) : Nat := ((ordL l).getD r 0).toNat
theorem oS_lt {l : List S47} {r : Nat} (h : r < l.length) : oS l r < l.length := by
  have := ordL_mem h
  unfold oS
  omega
theorem ordF_perm (l : List S47) : (ordF l).Perm (List.finRange l.length) := List.mergeSort_perm _ _
theorem ordF_sorted (l : List S47) : (ordF l).Pairwise (fun x y => ltS l y x = false) := by
  have h1 : (ordF l).Pairwise (fun x y => (!ltS l y x) = true) := List.pairwise_mergeSort (fun a b c h1 h2 => by
    simp only [Bool.not_eq_true'] at *
    exact (ltS_swo l).ntrans c b a h2 h1) (fun a b => by
    cases h : ltS l b a
    · rfl
    · have : ltS l a b = false := by
        cases h2 : ltS l a b
        · rfl
        · have := (ltS_swo l).trans _ _ _ h h2
          rw [(ltS_swo l).irrefl] at this; cases this
      simp [this]) _
  exact h1.imp (fun h => by simpa using h)
theorem oS_at {l : List S47} {r : Nat} (h : r < l.length) : oS l r = ((ordF l)[r]'(by rw [ordF_len]; exact h)).1 := by
  unfold oS ordL
  rw [List.getD_eq_getElem?_getD, List.getElem?_map, List.getElem?_eq_getElem (by rw [ordF_len]; exact h)]
  simp
theorem oS_inj {l : List S47} {q r : Nat} (hq : q < l.length) (hr : r < l.length) (e : oS l q = oS l r) : q = r := by
  rw [oS_at hq, oS_at hr] at e
  have nd : (ordF l).Nodup := (ordF_perm l).nodup_iff.2 (List.nodup_finRange _)
  have np := List.pairwise_iff_getElem.1 nd
  rcases Nat.lt_trichotomy q r with h | h | h
  · exact absurd (Fin.ext e) (np q r (by rw [ordF_len]; omega) (by rw [ordF_len]; omega) h)
  · exact h
  · exact absurd (Fin.ext e.symm) (np r q (by rw [ordF_len]; omega) (by rw [ordF_len]; omega) h)
theorem oS_sur {l : List S47} {i : Nat} (h : i < l.length) : ∃ r, r < l.length ∧ oS l r = i := by
  have : (⟨i, h⟩ : Fin l.length) ∈ ordF l := (ordF_perm l).mem_iff.2 (List.mem_finRange _)
  obtain ⟨r, hr, e⟩ := List.mem_iff_getElem.1 this
  rw [ordF_len] at hr
  exact ⟨r, hr, by rw [oS_at hr, e]⟩
theorem oS_sorted {l : List S47} {q r : Nat} (h : q < r) (hr : r < l.length) : (rd_T47 l (oS l q : Nat)).f0 < (rd_T47 l (oS l r : Nat)).f0 ∨ (rd_T47 l (oS l q : Nat)).f0 = (rd_T47 l (oS l r : Nat)).f0 ∧ oS l q < oS l r := by
  have hs := List.pairwise_iff_getElem.1 (ordF_sorted l) q r (by rw [ordF_len]; omega) (by rw [ordF_len]; exact hr) h
  have hne : oS l q ≠ oS l r := fun e => by have := oS_inj (by omega) hr e; omega
  rw [oS_at (show q < l.length by omega), oS_at hr] at hne ⊢
  unfold ltS at hs
  have := of_decide_eq_false hs
  omega
def st (rest : Int) (l : List S47) (r : Nat) : List Int := fillL rest l ((ordL l).take r) (List.replicate 40 (-1))
def col (rest : Int) (l : List S47) (r : Nat) : Nat := mexL (clashL l (st rest l r) rest (rd_T47 l (oS l r : Nat)).f0 (rd_T47 l (oS l r : Nat)).f1 l.length 0)
theorem st_len (rest : Int) (l : List S47) (r : Nat) : (st rest l r).length = 40 := by unfold st; rw [fillL_len, List.length_replicate]
theorem st_succ (rest : Int) (l : List S47) {r : Nat} (h : r < l.length) : st rest l (r + 1) = (st rest l r).set (oS l r) (col rest l r) := by
  unfold st
  rw [fill_step rest l _ h]
  have := ordL_mem h
  unfold passOf col oS
  rw [show ((((ordL l).getD r 0).toNat : Nat) : Int) = (ordL l).getD r 0 by omega]
  rfl
theorem st_un (rest : Int) (l : List S47) (h40 : l.length ≤ 40) : ∀ (r : Nat), r ≤ l.length → ∀ j, j < l.length → (∀ q, q < r → oS l q ≠ j) → (st rest l r).getD j 0 = -1
  | 0, _, j, hj, _ => by
    unfold st
    rw [List.take_zero, fillL, List.getD_eq_getElem?_getD, List.getElem?_replicate, if_pos (by omega)]
    rfl
  | r + 1, hr, j, hj, hq => by
    rw [st_succ rest l (by omega), List.getD_eq_getElem?_getD, List.getElem?_set_ne (hq r (by omega)), ← List.getD_eq_getElem?_getD]
    exact st_un rest l h40 r (by omega) j hj (fun q h => hq q (by omega))
theorem st_at (rest : Int) (l : List S47) (h40 : l.length ≤ 40) : ∀ (r : Nat), r ≤ l.length → ∀ q, q < r → (st rest l r).getD (oS l q) 0 = col rest l q
  | 0, _, q, hq => by omega
  | r + 1, hr, q, hq => by
    rw [st_succ rest l (by omega), List.getD_eq_getElem?_getD]
    by_cases e : q = r
    · subst e
      rw [List.getElem?_set_self (by rw [st_len]; have := oS_lt (l := l) (r := q) (by omega); omega)]
      rfl
    · rw [List.getElem?_set_ne (fun h => e (oS_inj (by omega) (by omega) h.symm)), ← List.getD_eq_getElem?_getD]
      exact st_at rest l h40 r (by omega) q (by omega)
theorem st_cases (rest : Int) (l : List S47) (h40 : l.length ≤ 40) {r j : Nat} (hr : r ≤ l.length) (hj : j < l.length) : (∃ q, q < r ∧ oS l q = j ∧ (st rest l r).getD j 0 = col rest l q) ∨ ((∀ q, q < r → oS l q ≠ j) ∧ (st rest l r).getD j 0 = -1) := by
  by_cases c : ∃ q, q < r ∧ oS l q = j
  · obtain ⟨q, h1, h2⟩ := c
    exact .inl ⟨q, h1, h2, by rw [← h2]; exact st_at rest l h40 r hr q h1⟩
  · have : ∀ q, q < r → oS l q ≠ j := fun q h e => c ⟨q, h, e⟩
    exact .inr ⟨this, st_un rest l h40 r hr j hj this⟩
theorem mem_st (rest : Int) (l : List S47) (h40 : l.length ≤ 40) {r : Nat} (hr : r ≤ l.length) (s : S47) (p : Nat) :
    (p : Int) ∈ clashL l (st rest l r) rest s.f0 s.f1 l.length 0 ↔ ∃ q, q < r ∧ col rest l q = p ∧ Cl rest (rd_T47 l (oS l q : Nat)) s = true := by
  rw [mem_clashL]
  constructor
  · rintro ⟨j, _, h2, h3, h4⟩
    rcases st_cases rest l h40 hr (show j < l.length by omega) with ⟨q, h5, h6, h7⟩ | ⟨_, h7⟩
    · rw [clB_eq, Bool.and_eq_true] at h4
      exact ⟨q, h5, by omega, by rw [h6]; exact h4.1⟩
    · omega
  · rintro ⟨q, h1, h2, h3⟩
    have hlt := oS_lt (l := l) (r := q) (by omega)
    have := st_at rest l h40 r hr q h1
    refine ⟨oS l q, Nat.zero_le _, by omega, by rw [this, h2], ?_⟩
    rw [clB_eq, h3, this, decide_eq_true (by omega)]
    rfl
theorem col_mex (rest : Int) (l : List S47) (h40 : l.length ≤ 40) {r : Nat} (hr : r < l.length) :
    (∀ q, q < r → Cl rest (rd_T47 l (oS l q : Nat)) (rd_T47 l (oS l r : Nat)) = true → col rest l q ≠ col rest l r) ∧
    (∀ p, p < col rest l r → ∃ q, q < r ∧ col rest l q = p ∧ Cl rest (rd_T47 l (oS l q : Nat)) (rd_T47 l (oS l r : Nat)) = true) := by
  have h := mexL_is (clashL l (st rest l r) rest (rd_T47 l (oS l r : Nat)).f0 (rd_T47 l (oS l r : Nat)).f1 l.length 0)
  constructor
  · intro q hq hc e
    exact h.1 ((mem_st rest l h40 (by omega) _ _).2 ⟨q, hq, e, hc⟩)
  · intro p hp
    exact (mem_st rest l h40 (by omega) _ _).1 (h.2 p hp)
theorem col_le (rest : Int) (l : List S47) (h40 : l.length ≤ 40) {r : Nat} (hr : r < l.length) : col rest l r ≤ r := by
  have h := (col_mex rest l h40 hr).2
  have : ∀ j : Nat, j < col rest l r → (j : Int) ∈ (List.range r).map fun q => ((col rest l q : Nat) : Int) := fun j hj => by
    obtain ⟨q, h1, h2, _⟩ := h j hj
    exact List.mem_map.2 ⟨q, List.mem_range.2 h1, by rw [h2]⟩
  have := cover_len this
  simpa using this
theorem planL_len {rest : Int} {l : List S47} (h40 : l.length ≤ 40) : (planL rest l).length = l.length := by
  unfold planL
  rw [List.length_take, fillL_len, List.length_replicate]
  omega
theorem planL_eq (rest : Int) (l : List S47) : planL rest l = (st rest l l.length).take l.length := by
  unfold planL st
  rw [show (ordL l).take l.length = ordL l from List.take_of_length_le (by rw [ordL_len]; exact Nat.le_refl _)]
theorem take_getD {α : Type} {xs : List α} {n j : Nat} {d : α} (h : j < n) : (xs.take n).getD j d = xs.getD j d := by
  rw [List.getD_eq_getElem?_getD, List.getD_eq_getElem?_getD, List.getElem?_take_of_lt h]
theorem planL_at (rest : Int) (l : List S47) (h40 : l.length ≤ 40) {r : Nat} (hr : r < l.length) : rd (planL rest l) (oS l r : Nat) = col rest l r := by
  unfold rd
  rw [planL_eq, Int.toNat_natCast, take_getD (oS_lt hr)]
  exact st_at rest l h40 l.length (Nat.le_refl _) r hr
theorem planL_mem (rest : Int) (l : List S47) (h40 : l.length ≤ 40) {x : Int} (h : x ∈ planL rest l) : ∃ r, r < l.length ∧ x = col rest l r := by
  obtain ⟨i, hi, e⟩ := List.mem_iff_getElem.1 h
  rw [planL_len h40] at hi
  obtain ⟨r, hr, e2⟩ := oS_sur hi
  refine ⟨r, hr, ?_⟩
  rw [← planL_at rest l h40 hr, e2, rdI_at (by rw [planL_len h40]; exact hi)]
  exact e.symm
theorem planL_bd (rest : Int) (l : List S47) (h40 : l.length ≤ 40) {x : Int} (h : x ∈ planL rest l) : 0 ≤ x ∧ x ≤ 39 := by
  obtain ⟨r, hr, e⟩ := planL_mem rest l h40 h
  have := col_le rest l h40 hr
  omega
def passR (rest : Int) (l : List S47) : List Int × Int × Int := if chk rest l = 0 then (planL rest l, passN (planL rest l), 0) else ([], 0, chk rest l)
theorem Passes_f (rest : Int) (l : List S47) : punch_Passes.f rest l = some (passR rest l) := by
  unfold punch_Passes.f passR
  rw [check_f]
  show (if chk rest l = 0 then _ else _) = _
  by_cases c : chk rest l = 0
  · have h40 := chk_len c
    have := passes_f (planL rest l) (fun x hx => by have := planL_bd rest l h40 hx; omega) (by rw [planL_len h40]; omega)
    rw [planL_len h40] at this
    rw [if_pos c, if_pos c, if_pos h40, this]
    rfl
  · rw [if_neg c, if_neg c]
end Go.Proofs.Ytegffliopblajaa.P
end
section
namespace Go.Proofs.Ytegffliopblajaa.P
open Go.RowKit Go.Proofs.YtegffliopblajaaW.PrintWords Go.Proofs.YtegffliopblajaaW.PrintLast Go.Proofs.YtegffliopblajaaW.PrintMore
set_option linter.unusedVariables false
set_option linter.unusedSimpArgs false
def nextF (l : List S47) (P : List Int) : Nat → Int
  | 0 => -1
  | i + 1 => if rd P (i : Int) < 0 ∧ (nextF l P i < 0 ∨ (rd_T47 l (i : Int)).f0 < (rd_T47 l (nextF l P i)).f0) then (i : Int) else nextF l P i
theorem nextF_spec (l : List S47) (P : List Int) : ∀ i, (nextF l P i = -1 ∧ ∀ j : Nat, j < i → 0 ≤ rd P (j : Int)) ∨
    (∃ j : Nat, j < i ∧ nextF l P i = j ∧ rd P (j : Int) < 0 ∧ ∀ j' : Nat, j' < i → rd P (j' : Int) < 0 → (rd_T47 l (j : Int)).f0 < (rd_T47 l (j' : Int)).f0 ∨ (rd_T47 l (j : Int)).f0 = (rd_T47 l (j' : Int)).f0 ∧ j ≤ j')
  | 0 => .inl ⟨rfl, fun j hj => by omega⟩
  | i + 1 => by
    have ih := nextF_spec l P i
    rw [nextF]
    split
    · rename_i c
      refine .inr ⟨i, by omega, rfl, c.1, fun j' hj' hn => ?_⟩
      rcases ih with ⟨h1, h2⟩ | ⟨j, h1, h2, h3, h4⟩
      · rcases Nat.lt_or_ge j' i with h | h
        · have := h2 j' h; omega
        · obtain rfl : j' = i := by omega
          exact .inr ⟨rfl, Nat.le_refl _⟩
      · rw [h2] at c
        rcases c.2 with c2 | c2
        · omega
        · rcases Nat.lt_or_ge j' i with h | h
          · have := h4 j' h hn; omega
          · obtain rfl : j' = i := by omega
            exact .inr ⟨rfl, Nat.le_refl _⟩
    · rename_i c
      rcases ih with ⟨h1, h2⟩ | ⟨j, h1, h2, h3, h4⟩
      · refine .inl ⟨h1, fun j hj => ?_⟩
        rcases Nat.lt_or_ge j i with h | h
        · exact h2 j h
        · obtain rfl : j = i := by omega
          by_cases h5 : rd P (j : Int) < 0
          · exact absurd ⟨h5, .inl (by omega)⟩ c
          · omega
      · refine .inr ⟨j, by omega, h2, h3, fun j' hj' hn => ?_⟩
        rcases Nat.lt_or_ge j' i with h | h
        · exact h4 j' h hn
        · obtain rfl : j' = i := by omega
          have : ¬ (rd_T47 l (j' : Int)).f0 < (rd_T47 l (j : Int)).f0 := fun h5 => c ⟨hn, .inr (by rw [h2]; exact h5)⟩
          omega
def pR (rest : Int) (l : List S47) (r : Nat) : List Int := (st rest l r).take l.length
theorem pR_len {rest : Int} {l : List S47} (h40 : l.length ≤ 40) (r : Nat) : (pR rest l r).length = l.length := by
  unfold pR
  rw [List.length_take, st_len]
  omega
theorem pR_at (rest : Int) (l : List S47) {r j : Nat} (hj : j < l.length) : rd (pR rest l r) (j : Int) = (st rest l r).getD j 0 := by
  unfold rd pR
  rw [Int.toNat_natCast, take_getD hj]
theorem next_eq (rest : Int) (l : List S47) (h40 : l.length ≤ 40) {r : Nat} (hr : r < l.length) : nextF l (pR rest l r) l.length = oS l r := by
  have hor : rd (pR rest l r) (oS l r : Nat) = -1 := by
    rw [pR_at rest l (oS_lt hr)]
    exact st_un rest l h40 r (by omega) _ (oS_lt hr) (fun q hq e => by have := oS_inj (by omega) hr e; omega)
  rcases nextF_spec l (pR rest l r) l.length with ⟨_, h2⟩ | ⟨j, h1, h2, h3, h4⟩
  · have := h2 (oS l r) (oS_lt hr)
    omega
  · rw [h2]
    obtain ⟨q, hq, e⟩ := oS_sur h1
    have hqr : r ≤ q := Classical.byContradiction fun h => by
      rw [pR_at rest l h1, ← e, st_at rest l h40 r (by omega) q (by omega)] at h3
      omega
    rcases Nat.lt_or_ge r q with h | h
    · have := oS_sorted h hq
      rw [e] at this
      have := h4 (oS l r) (oS_lt hr) (by omega)
      omega
    · obtain rfl : q = r := by omega
      rw [e]
theorem rPasses_l2 (rest : Int) (l : List S47) (h40 : l.length ≤ 40) {r : Nat} (hr : r < l.length) {x8 : Int} {res : List Int × Int × Int}
  (hres : Ev (fun k => pianolaref03_Passes.l1 k (pR rest l (r + 1)) (wrap64 (x8 + 1)) rest (gS l)) res) :
  ∀ (m i : Nat), i + m = l.length → Ev (fun k => pianolaref03_Passes.l2 k (pR rest l r) x8 (nextF l (pR rest l r) i) i rest (gS l)) res
 | 0, i, h => by
  obtain rfl : i = l.length := by omega
  have hlt := oS_lt hr
  rw [next_eq rest l h40 hr]
  refine Ev.step (f := fun k => (pianolaref03_smallest.f k rest (gS l) (pR rest l r) (rd_T47 l (oS l r : Nat)).f0 (rd_T47 l (oS l r : Nat)).f1).bind fun t => pianolaref03_Passes.l1 k ((pR rest l r).set (oS l r) t) (wrap64 (x8 + 1)) rest (gS l)) (fun k => ?_) ?_
  ·
   rw [pianolaref03_Passes.l2, if_neg (by rw [pR_len h40]; omega), if_pos (by omega), if_pos (by rw [gS_len]; omega), gS_get]
   congr 1
   funext t
   rw [if_pos (by rw [pR_len h40]; omega), Int.toNat_natCast]
  ·
   refine Ev.bind (rsmallest_f rest l (pR rest l r) (rd_T47 l (oS l r : Nat)) (by rw [pR_len h40]; exact Nat.le_refl _) (by omega) (clashL l (st rest l r) rest (rd_T47 l (oS l r : Nat)).f0 (rd_T47 l (oS l r : Nat)).f1 l.length 0) (Nat.le_trans (clashL_len _ _ _ _ _ _ _) (by omega)) (fun n => ?_)) ?_
   ·
    rw [mem_st rest l h40 (by omega), pR_len h40]
    constructor
    ·
     rintro ⟨q, h1, h2, h3⟩
     have hq := oS_lt (l := l) (r := q) (by omega)
     exact ⟨oS l q, hq, by rw [pR_at rest l hq, st_at rest l h40 r (by omega) q h1, h2], h3⟩
    ·
     rintro ⟨j, h1, h2, h3⟩
     rw [pR_at rest l h1] at h2
     rcases st_cases rest l h40 (show r ≤ l.length by omega) h1 with ⟨q, h5, h6, h7⟩ | ⟨_, h7⟩
     ·
      exact ⟨q, h5, by omega, by rw [h6]; exact h3⟩
     ·
      omega
   ·
    have : (pR rest l r).set (oS l r) ((mexL (clashL l (st rest l r) rest (rd_T47 l (oS l r : Nat)).f0 (rd_T47 l (oS l r : Nat)).f1 l.length 0) : Nat) : Int) = pR rest l (r + 1) := by
     unfold pR
     rw [st_succ rest l hr, List.take_set]
     rfl
    simp only [this]
    exact hres
 | m + 1, i, h => by
  have hi : i < l.length := by omega
  refine Ev.step (fun k => ?_) (rPasses_l2 rest l h40 hr hres m (i + 1) (by omega))
  have hsp := nextF_spec l (pR rest l r) i
  rw [pianolaref03_Passes.l2, if_pos (by rw [pR_len h40]; omega), if_pos (by omega), w_succ i (by omega), nextF]
  by_cases c : rd (pR rest l r) (i : Int) < 0
  ·
   rw [if_pos c]
   by_cases c2 : nextF l (pR rest l r) i < 0
   ·
    rw [if_pos c2, if_pos ⟨c, .inl c2⟩]
   ·
    have hn : 0 ≤ nextF l (pR rest l r) i ∧ nextF l (pR rest l r) i < l.length := by
     rcases hsp with ⟨h1, _⟩ | ⟨j, h1, h2, _⟩
     ·
      omega
     ·
      omega
    rw [if_neg c2, if_pos (by rw [gS_len]; omega), if_pos hn.1, if_pos (by rw [gS_len]; omega), gS_get, gS_get]
    by_cases c3 : (rd_T47 l (i : Int)).f0 < (rd_T47 l (nextF l (pR rest l r) i)).f0
    ·
     rw [if_pos c3, if_pos ⟨c, .inr c3⟩]
    ·
     rw [if_neg c3, if_neg (fun h => by rcases h.2 with h | h; exact c2 h; exact c3 h)]
  ·
   rw [if_neg c, if_neg (fun h => c h.1)]
theorem rPasses_l1 (rest : Int) (l : List S47) (h40 : l.length ≤ 40) : ∀ (m r : Nat), r + m = l.length → Ev (fun k => pianolaref03_Passes.l1 k (pR rest l r) r rest (gS l)) (planL rest l, passN (planL rest l), 0)
  | 0, r, h => by
    obtain rfl : r = l.length := by omega
    have e : pR rest l l.length = planL rest l := (planL_eq rest l).symm
    rw [e]
    refine Ev.step (f := fun k => (pianolaref03_passes.f k (planL rest l)).bind fun t => some (planL rest l, t, 0)) (fun k => ?_) ?_
    · rw [pianolaref03_Passes.l1, if_neg (by rw [planL_len h40]; omega)]
    · exact Ev.bind (rpasses_f _ (fun x hx => by have := planL_bd rest l h40 hx; omega) (by rw [planL_len h40]; omega)) (Ev.now _)
  | m + 1, r, h => by
    refine Ev.step (f := fun k => pianolaref03_Passes.l2 k (pR rest l r) r (-1) 0 rest (gS l)) (fun k => by rw [pianolaref03_Passes.l1, if_pos (by rw [pR_len h40]; omega)]) ?_
    refine rPasses_l2 rest l h40 (by omega) ?_ l.length 0 (by omega)
    simp only [w_succ r (by omega)]
    exact rPasses_l1 rest l h40 m (r + 1) (by omega)
theorem rPasses_l0 (rest : Int) (l : List S47) (h40 : l.length ≤ 40) : ∀ (m i : Nat), i + m = l.length → Ev (fun k => pianolaref03_Passes.l0 k (List.replicate i (-1)) i rest (gS l)) (planL rest l, passN (planL rest l), 0)
  | 0, i, h => by
    obtain rfl : i = l.length := by omega
    have e : List.replicate l.length (-1) = pR rest l 0 := by
      unfold pR st
      rw [List.take_zero, fillL, List.take_replicate, Nat.min_eq_left h40]
    rw [e]
    refine Ev.step (f := fun k => pianolaref03_Passes.l1 k (pR rest l 0) 0 rest (gS l)) (fun k => by rw [pianolaref03_Passes.l0, if_neg (by rw [gS_len]; omega)]) (rPasses_l1 rest l h40 l.length 0 (by omega))
  | m + 1, i, h => by
    refine Ev.step (fun k => ?_) (rPasses_l0 rest l h40 m (i + 1) (by omega))
    rw [pianolaref03_Passes.l0, if_pos (by rw [gS_len]; omega), if_pos (by rw [List.length_replicate]; omega), w_succ i (by omega), ← List.replicate_succ']
theorem rPasses_f (rest : Int) (l : List S47) : Ev (fun k => pianolaref03_Passes.f k rest (gS l)) (passR rest l) := by
  unfold pianolaref03_Passes.f passR
  refine Ev.bind (rcheck_f rest l) ?_
  by_cases c : chk rest l = 0
  · rw [if_pos c]
    simp only [if_pos c]
    exact rPasses_l0 rest l (chk_len c) l.length 0 (by omega)
  · rw [if_neg c]
    simp only [if_neg c]
    exact Ev.now _
end Go.Proofs.Ytegffliopblajaa.P
end
