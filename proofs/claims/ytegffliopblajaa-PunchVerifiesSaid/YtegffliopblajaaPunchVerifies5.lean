/- Words and contracts for a claim. -/
import Derived.Test.YtegffliopblajaaPunchVerifies4

section
open List (setIfInBounds_toArray set_cons_zero set_cons_succ)
section
namespace Go.Proofs.Ytegffliopblajaa.P
open Go.RowKit Go.Proofs.YtegffliopblajaaW.PrintWords Go.Proofs.YtegffliopblajaaW.PrintLast Go.Proofs.YtegffliopblajaaW.PrintMore
attribute [local go_sem] max2_int min2_int max_two min_two max_three min_three max_four min_four
set_option linter.unusedVariables false
set_option linter.unusedSimpArgs false
def pianolalaw03_PunchVerifies.j0 : Nat → List Int → Bool → Int → List (S47) → Int → Int → Option (Bool)
  | 0, _, _, _, _, _, _ => none
  | k + 1, x1, x23, x225000, x225001, x226000, x226001 => if x23 = true then ((pianolalaw03_works.f).bind fun t226 => (some t226)) else ((punch_Verify.f x225000 x225001 x1).bind fun bt227 => ((pianolalaw03_given.f k x225000 x225001).bind fun bt229 => ((pianolaref03_Verify.f k bt229.1 bt229.2 x1).bind fun bt233 => ((punch_Add.f x225000 x225001 x1 x226000 x226001).bind fun bt235 => ((pianolalaw03_given.f k x225000 x225001).bind fun bt237 => ((pianolaref03_Add.f k bt237.1 bt237.2 x1 x226000 x226001).bind fun bt241 => (if bt227.1 = bt233.1 then (if bt227.2 = bt233.2 then (if bt235.1 = bt241.1 then (if bt235.2 = bt241.2 then ((pianolalaw03_works.f).bind fun t243 => (some t243)) else (some false)) else (some false)) else (some false)) else (some false))))))))
def pianolalaw03_PunchVerifies.f (k : Nat) (a0_0 : Int) (l0_1 : List (S47)) (l1 : List Int) (a2_0 : Int) (a2_1 : Int) : Option (Bool) := if (l0_1.length : Int) > 80 then (pianolalaw03_PunchVerifies.j0 k l1 true a0_0 l0_1 a2_0 a2_1) else (pianolalaw03_PunchVerifies.j0 k l1 (decide ((l1.length : Int) > 80)) a0_0 l0_1 a2_0 a2_1)
def pianolalaw03_PunchVerifies.T6 : Bool × List (List Nat × List Nat) := (true, [([], []), ([0], [0]), ([], []), ([], []), ([1, 2, 3, 1], [1, 2, 3]), ([4], [4]), ([5], [5]), ([5], [5]), ([6, 4, 0, 1, 2, 3, 4, 5, 6], [6]), ([7, 8, 0, 1, 2, 3, 4, 5, 6, 7, 8], [7])])
def pianolalaw03_PunchVerifies.B6 : List Nat := [0, 1, 0, 0, 15, 31, 63, 63, 127, 511]
theorem pianolalaw03_PunchVerifies.tab6 : rtab .any (opsOf Try.f5 6) = pianolalaw03_PunchVerifies.T6 := by kernel_rfl
theorem pianolalaw03_PunchVerifies.bits6 : waitsOk pianolalaw03_PunchVerifies.T6.2 pianolalaw03_PunchVerifies.B6 = true := by kernel_rfl
set_option maxHeartbeats 8000000 in
set_option maxRecDepth 100000 in
theorem pianolalaw03_PunchVerifies.calls (k : Nat) (a0_0 : Int) (A0_1 : Option Addr) (c0_1 : Nat) (l0_1 : List (S47)) (A1 : Option Addr) (c1 : Nat) (l1 : List Int) (a2_0 : Int) (a2_1 : Int) (r : Bool) (w : World) (hr0_1 : Kd.C k47 w A0_1 l0_1.length l0_1) (hc0_1 : l0_1.length ≤ c0_1) (hr1 : Kd.C (Kd.int .i64) w A1 l1.length l1) (hc1 : l1.length ≤ c1) (h : pianolalaw03_PunchVerifies.f k a0_0 l0_1 l1 a2_0 a2_1 = some r) :
  Calls Try.prog 5 #[.agg #[.int .i64 a0_0, .slice A0_1 l0_1.length c0_1], .slice A1 l1.length c1, .agg #[.int .i64 a2_0, .int .i64 a2_1]] w fun e w' => e = .returned (.bool r) ∧ Below w.heap.size w w' := by
 have hu24 := Try.underlying24
 have hu47 := Try.underlying47
 have HR0_1 := zA hr0_1
 have HC0_1 := zA hc0_1
 clear hr0_1 hc0_1
 have HR1 := zA hr1
 have HC1 := zA hc1
 clear hr1 hc1
 have HB := zA (Below.refl w.heap.size w)
 have H : (if (l0_1.length : Int) > 80 then (pianolalaw03_PunchVerifies.j0 k l1 true a0_0 l0_1 a2_0 a2_1) else (pianolalaw03_PunchVerifies.j0 k l1 (decide ((l1.length : Int) > 80)) a0_0 l0_1 a2_0 a2_1)) = some r := h
 clear h
 have HC4 := zA H
 clear H
 go_enter Try.func5, Try.ntmps5
 go_upto_region 1 with (first | ((with_reducible refine gate_dst (N := 3) rfl ?_); (try (refine gate_guard (by rfl) ?_; dsimp only)); refine box_event ?hg (N := 3) ?hd (cs := #[.int .i64 a0_0, .slice A0_1 l0_1.length c0_1]) (t := 24) ?hr ?_; (case hd => rfl); (case hg => rfl); (case hr => first | (go_simp; done) | (go_simp; rfl)); intro gb224 hg w5 hbox hb; have n0_ := zA (below_step (zqA HB.out) hb); have n1_ := zA (hbox); have n2_ := zA ((by rw [hg]; exact (below_size (zqA HB.out)) : w.heap.size ≤ gb224)); have n3_ := zA ((by rw [hg]; exact (below_size (zqA HB.out)) : w.heap.size ≤ gb224)); clear HB; have HB := n0_; have BK224 := n1_; have GW224 := n2_; have GE224 := n3_; clear n0_ n1_ n2_ n3_; clear hb hbox hg) | ((with_reducible refine gate_dst (N := 5) rfl ?_); (try (refine gate_guard (by rfl) ?_; dsimp only)); refine box_event ?hg (N := 5) ?hd (cs := #[.int .i64 a2_0, .int .i64 a2_1]) (t := 47) ?hr ?_; (case hd => rfl); (case hg => rfl); (case hr => first | (go_simp; done) | (go_simp; rfl)); intro gb225 hg w6 hbox hb; have n0_ := zA (blk_below (g := gb224) (o := .cells #[.int .i64 a0_0, .slice A0_1 l0_1.length c0_1] 24 (0, 0)) (zqB BK224.out) hb); have n1_ := zA (below_step (zqG HB.out GE224.out) hb); have n2_ := zA (hbox); have n3_ := zA ((by rw [hg]; exact (below_size (zqG HB.out GE224.out)) : w.heap.size ≤ gb225)); have n4_ := zA ((by rw [hg]; exact (below_size (zqG HB.out GE224.out)) : w.heap.size ≤ gb225)); have n5_ := zA ((by rw [hg]; exact Nat.ne_of_lt (blk_lt (g := gb224) (o := .cells #[.int .i64 a0_0, .slice A0_1 l0_1.length c0_1] 24 (0, 0)) (zqB BK224.out)) : gb224 ≠ gb225)); have n6_ := zA ((by rw [hg]; exact Nat.ne_of_gt (blk_lt (g := gb224) (o := .cells #[.int .i64 a0_0, .slice A0_1 l0_1.length c0_1] 24 (0, 0)) (zqB BK224.out)) : gb225 ≠ gb224)); clear BK224; clear HB; have BK224 := n0_; have HB := n1_; have BK225 := n2_; have GW225 := n3_; have GE225 := n4_; have NB224_225 := n5_; have NB225_224 := n6_; clear n0_ n1_ n2_ n3_ n4_ n5_ n6_; clear hb hbox hg))
 (try simp only [Act.put, setIfInBounds_toArray, set_cons_zero, set_cons_succ])
 go_cut [23] (fun v23 wc => ∃ (kq : Nat) (x23_3 : Bool), v23 = .bool x23_3 ∧ Aside0 (pianolalaw03_PunchVerifies.j0 kq l1 x23_3 a0_0 l0_1 a2_0 a2_1 = some r) ∧ Aside0 (kq ≤ k) ∧ Aside0 (wc.heap[gb224]? = some (.cells #[.int .i64 a0_0, (.slice A0_1 l0_1.length c0_1)] 24 (0, 0))) ∧ Aside0 (wc.heap[gb225]? = some (.cells #[.int .i64 a2_0, .int .i64 a2_1] 47 (0, 0))) ∧ Aside0 (Below w.heap.size w wc))
 case first =>
  have H := HC4.out
  clear HC4
  by_cases c7 : (l0_1.length : Int) > 80
  ·
   rw [if_pos c7] at H
   have c7b0 : decide (80 < (l0_1.length : Int)) = true := decide_eq_true c7
   have c7b1 : decide (80 < l0_1.length) = true := decide_eq_true (by omega)
   clear c7
   (first | rw [c7b0] | rw [c7b1] | (simp only [i64_w, i32_w]; rw [c7b0]) | skip)
   have H' := zA H
   clear H
   have hnb8 := NB224_225.out
   have hnc8 := NB225_224.out
   have hcz9_0 : w6.cell? ⟨gb224, 0, none⟩ = some (.int .i64 a0_0) := (blk_cell BK224.out 0).trans rfl
   have hcz9_1 : w6.cell? ⟨gb224, 1, none⟩ = some (.slice A0_1 l0_1.length c0_1) := (blk_cell BK224.out 1).trans rfl
   have hfz9_0 := blk_frozen BK224.out 0
   have hfz9_1 := blk_frozen BK224.out 1
   go_wp2
   go_meet
   case rel => exact ⟨_, (true), zqQ, H', ⟨by first | omega | exact Nat.le_refl _⟩, ⟨zqB BK224.out⟩, ⟨zqB BK225.out⟩, ⟨zqH HB.out GE224.out GE225.out⟩⟩
  ·
   rw [if_neg c7] at H
   have c7b0 : decide (80 < (l0_1.length : Int)) = false := decide_eq_false c7
   have c7b1 : decide (80 < l0_1.length) = false := decide_eq_false (by omega)
   clear c7
   (first | rw [c7b0] | rw [c7b1] | (simp only [i64_w, i32_w]; rw [c7b0]) | skip)
   have H' := zA H
   clear H
   have hnb10 := NB224_225.out
   have hnc10 := NB225_224.out
   have hcz11_0 : w6.cell? ⟨gb224, 0, none⟩ = some (.int .i64 a0_0) := (blk_cell BK224.out 0).trans rfl
   have hcz11_1 : w6.cell? ⟨gb224, 1, none⟩ = some (.slice A0_1 l0_1.length c0_1) := (blk_cell BK224.out 1).trans rfl
   have hfz11_0 := blk_frozen BK224.out 0
   have hfz11_1 := blk_frozen BK224.out 1
   go_wp2
   go_meet
   case rel => exact ⟨_, (decide ((l1.length : Int) > 80)), zqQ, H', ⟨by first | omega | exact Nat.le_refl _⟩, ⟨zqB BK224.out⟩, ⟨zqB BK225.out⟩, ⟨zqH HB.out GE224.out GE225.out⟩⟩
 case rest =>
  clear HC4
  try clear c1
  try clear p2
  try clear c5
  try clear c7
  try clear c7b0
  try clear c7b1
  try clear c8
  try clear c10
  try clear hcz11_0
  try clear hcz11_1
  try clear hcz9_0
  try clear hcz9_1
  try clear hfz11_0
  try clear hfz11_1
  try clear hfz9_0
  try clear hfz9_1
  obtain ⟨kq, x23_3, rfl, HA, HJ3, BK224, BK225, HB⟩ := hcut
  cases kq with
  | zero => exact absurd HA.out (by simp [pianolalaw03_PunchVerifies.j0])
  | succ kj3 =>
   have H := HA.out
   clear HA
   simp only [pianolalaw03_PunchVerifies.j0] at H
   by_cases c12 : x23_3 = true
   ·
    subst c12
    have H1 : ((pianolalaw03_works.f).bind fun t226 => (some t226)) = some r := by rw [if_pos rfl] at H; exact H
    clear H; have H := H1; clear H1
    replace H := Option.bind_eq_some_iff.mp H
    obtain ⟨t226, A130, H⟩ := H
    replace H : (some t226) = some r := H
    have A13 := zA A130
    clear A130
    obtain rfl := Option.some.inj H
    go_wp2_with (first | ((with_reducible refine gate_callee (f := 15) rfl ?_); refine goesL_ (some 24) rfl rfl Try.func15 (by kernel_rfl) rfl #[] rfl zqE ?_; (with_reducible refine (pianolalaw03_works.calls  t226 _ A13.out).mono ?_); rintro e w14 ⟨rfl, hb⟩; refine ⟨_, rfl, ?_⟩; have n0_ := zA (blk_below (g := gb224) (o := .cells #[.int .i64 a0_0, .slice A0_1 l0_1.length c0_1] 24 (0, 0)) (zqB BK224.out) hb); have n1_ := zA (blk_below (g := gb225) (o := .cells #[.int .i64 a2_0, .int .i64 a2_1] 47 (0, 0)) (zqB BK225.out) hb); have n2_ := zA (below_step (zqH HB.out GE224.out GE225.out) hb); clear BK224; clear BK225; clear HB; have BK224 := n0_; have BK225 := n1_; have HB := n2_; clear n0_ n1_ n2_; (try clear hb); (try clear hb2); (try clear hk); (try clear hi)))
    go_ret
    exact ⟨zqR, zqH HB.out GE224.out GE225.out⟩
   ·
    replace c12 := Bool.eq_false_iff.mpr c12
    subst c12
    have H1 : ((punch_Verify.f a0_0 l0_1 l1).bind fun bt227 => ((pianolalaw03_given.f kj3 a0_0 l0_1).bind fun bt229 => ((pianolaref03_Verify.f kj3 bt229.1 bt229.2 l1).bind fun bt233 => ((punch_Add.f a0_0 l0_1 l1 a2_0 a2_1).bind fun bt235 => ((pianolalaw03_given.f kj3 a0_0 l0_1).bind fun bt237 => ((pianolaref03_Add.f kj3 bt237.1 bt237.2 l1 a2_0 a2_1).bind fun bt241 => (if bt227.1 = bt233.1 then (if bt227.2 = bt233.2 then (if bt235.1 = bt241.1 then (if bt235.2 = bt241.2 then ((pianolalaw03_works.f).bind fun t243 => (some t243)) else (some false)) else (some false)) else (some false)) else (some false)))))))) = some r := by rw [if_neg (show ¬ (false = true) by decide)] at H; exact H
    clear H; have H := H1; clear H1
    replace H := Option.bind_eq_some_iff.mp H
    obtain ⟨⟨t227, t228⟩, A150, H⟩ := H
    replace H : ((pianolalaw03_given.f kj3 a0_0 l0_1).bind fun bt229 => ((pianolaref03_Verify.f kj3 bt229.1 bt229.2 l1).bind fun bt233 => ((punch_Add.f a0_0 l0_1 l1 a2_0 a2_1).bind fun bt235 => ((pianolalaw03_given.f kj3 a0_0 l0_1).bind fun bt237 => ((pianolaref03_Add.f kj3 bt237.1 bt237.2 l1 a2_0 a2_1).bind fun bt241 => (if t227 = bt233.1 then (if t228 = bt233.2 then (if bt235.1 = bt241.1 then (if bt235.2 = bt241.2 then ((pianolalaw03_works.f).bind fun t243 => (some t243)) else (some false)) else (some false)) else (some false)) else (some false))))))) = some r := H
    have A15 := zA A150
    clear A150
    replace H := Option.bind_eq_some_iff.mp H
    obtain ⟨⟨t229, t230⟩, A160, H⟩ := H
    replace H : ((pianolaref03_Verify.f kj3 t229 t230 l1).bind fun bt233 => ((punch_Add.f a0_0 l0_1 l1 a2_0 a2_1).bind fun bt235 => ((pianolalaw03_given.f kj3 a0_0 l0_1).bind fun bt237 => ((pianolaref03_Add.f kj3 bt237.1 bt237.2 l1 a2_0 a2_1).bind fun bt241 => (if t227 = bt233.1 then (if t228 = bt233.2 then (if bt235.1 = bt241.1 then (if bt235.2 = bt241.2 then ((pianolalaw03_works.f).bind fun t243 => (some t243)) else (some false)) else (some false)) else (some false)) else (some false)))))) = some r := H
    have A16 := zA A160
    clear A160
    replace H := Option.bind_eq_some_iff.mp H
    obtain ⟨⟨t233, t234⟩, A170, H⟩ := H
    replace H : ((punch_Add.f a0_0 l0_1 l1 a2_0 a2_1).bind fun bt235 => ((pianolalaw03_given.f kj3 a0_0 l0_1).bind fun bt237 => ((pianolaref03_Add.f kj3 bt237.1 bt237.2 l1 a2_0 a2_1).bind fun bt241 => (if t227 = t233 then (if t228 = t234 then (if bt235.1 = bt241.1 then (if bt235.2 = bt241.2 then ((pianolalaw03_works.f).bind fun t243 => (some t243)) else (some false)) else (some false)) else (some false)) else (some false))))) = some r := H
    have A17 := zA A170
    clear A170
    replace H := Option.bind_eq_some_iff.mp H
    obtain ⟨⟨t235, t236⟩, A180, H⟩ := H
    replace H : ((pianolalaw03_given.f kj3 a0_0 l0_1).bind fun bt237 => ((pianolaref03_Add.f kj3 bt237.1 bt237.2 l1 a2_0 a2_1).bind fun bt241 => (if t227 = t233 then (if t228 = t234 then (if t235 = bt241.1 then (if t236 = bt241.2 then ((pianolalaw03_works.f).bind fun t243 => (some t243)) else (some false)) else (some false)) else (some false)) else (some false)))) = some r := H
    have A18 := zA A180
    clear A180
    replace H := Option.bind_eq_some_iff.mp H
    obtain ⟨⟨t237, t238⟩, A190, H⟩ := H
    replace H : ((pianolaref03_Add.f kj3 t237 t238 l1 a2_0 a2_1).bind fun bt241 => (if t227 = t233 then (if t228 = t234 then (if t235 = bt241.1 then (if t236 = bt241.2 then ((pianolalaw03_works.f).bind fun t243 => (some t243)) else (some false)) else (some false)) else (some false)) else (some false))) = some r := H
    have A19 := zA A190
    clear A190
    replace H := Option.bind_eq_some_iff.mp H
    obtain ⟨⟨t241, t242⟩, A200, H⟩ := H
    replace H : (if t227 = t233 then (if t228 = t234 then (if t235 = t241 then (if t236 = t242 then ((pianolalaw03_works.f).bind fun t243 => (some t243)) else (some false)) else (some false)) else (some false)) else (some false)) = some r := H
    have A20 := zA A200
    clear A200
    by_cases c21 : t227 = t233
    ·
     rw [if_pos c21] at H
     have c21b0 : (t227 == t233) = true := beq_iff_eq.mpr c21
     have c21b1 : (t227 != t233) = false := bne_eq_false_iff_eq.mpr c21
     clear c21
     by_cases c22 : t228 = t234
     ·
      rw [if_pos c22] at H
      have c22b0 : (t228 == t234) = true := beq_iff_eq.mpr c22
      have c22b1 : (t228 != t234) = false := bne_eq_false_iff_eq.mpr c22
      clear c22
      by_cases c23 : t235 = t241
      ·
       rw [if_pos c23] at H
       have c23b0 : (t235 == t241) = true := beq_iff_eq.mpr c23
       have c23b1 : (t235 != t241) = false := bne_eq_false_iff_eq.mpr c23
       clear c23
       by_cases c24 : t236 = t242
       ·
        rw [if_pos c24] at H
        have c24b0 : (t236 == t242) = true := beq_iff_eq.mpr c24
        have c24b1 : (t236 != t242) = false := bne_eq_false_iff_eq.mpr c24
        clear c24
        replace H := Option.bind_eq_some_iff.mp H
        obtain ⟨t243, A250, H⟩ := H
        replace H : (some t243) = some r := H
        have A25 := zA A250
        clear A250
        obtain rfl := Option.some.inj H
        have hnb26 := NB224_225.out
        have hnc26 := NB225_224.out
        have hcz27_0 : wc.cell? ⟨gb224, 0, none⟩ = some (.int .i64 a0_0) := (blk_cell BK224.out 0).trans rfl
        have hcz27_1 : wc.cell? ⟨gb224, 1, none⟩ = some (.slice A0_1 l0_1.length c0_1) := (blk_cell BK224.out 1).trans rfl
        have hfz27_0 := blk_frozen BK224.out 0
        have hfz27_1 := blk_frozen BK224.out 1
        try go_wp2_with (first | ((with_reducible refine gate_callee (f := 26) rfl ?_); refine goesL_ (some 28) rfl rfl Try.func26 (by kernel_rfl) rfl #[.agg #[.int .i64 a0_0, .slice A0_1 l0_1.length c0_1], .slice A1 l1.length c1] rfl zqE ?_; (with_reducible refine (punch_Verify.calls a0_0 _ _ l0_1 _ _ l1 t227 t228 _ ?side1 ?side2 ?side3 ?side4 A15.out).mono ?_); (case side1 => exact zqK (Kd.C_below HR0_1.out HB.out)); (case side2 => exact HC0_1.out); (case side3 => exact zqK (Kd.C_below HR1.out HB.out)); (case side4 => exact HC1.out); rintro e w28 ⟨rfl, hb⟩; refine ⟨_, rfl, ?_⟩; have n0_ := zA (blk_below (g := gb224) (o := .cells #[.int .i64 a0_0, .slice A0_1 l0_1.length c0_1] 24 (0, 0)) (zqB BK224.out) hb); have n1_ := zA (blk_below (g := gb225) (o := .cells #[.int .i64 a2_0, .int .i64 a2_1] 47 (0, 0)) (zqB BK225.out) hb); have n2_ := zA (below_step (zqH HB.out GE224.out GE225.out) hb); clear BK224; clear BK225; clear HB; have BK224 := n0_; have BK225 := n1_; have HB := n2_; clear n0_ n1_ n2_; (try clear hb); (try clear hb2); (try clear hk); (try clear hi); have hcz29_0 : w28.cell? ⟨gb224, 0, none⟩ = some (.int .i64 a0_0) := (blk_cell BK224.out 0).trans rfl; have hcz29_1 : w28.cell? ⟨gb224, 1, none⟩ = some (.slice A0_1 l0_1.length c0_1) := (blk_cell BK224.out 1).trans rfl; have hfz29_0 := blk_frozen BK224.out 0; have hfz29_1 := blk_frozen BK224.out 1) | ((with_reducible refine gate_callee (f := 18) rfl ?_); refine goesL_ (some 33) rfl rfl Try.func18 (by kernel_rfl) rfl #[.agg #[.int .i64 a0_0, .slice A0_1 l0_1.length c0_1]] rfl zqE ?_; (with_reducible refine (pianolalaw03_given.calls kj3 a0_0 _ _ l0_1 t229 t230 _ ?side1 ?side2 A16.out).mono ?_); (case side1 => exact zqK (Kd.C_below HR0_1.out HB.out)); (case side2 => exact HC0_1.out); rintro e w30 ⟨v231, rfl, ho0, hb⟩; refine ⟨_, rfl, ?_⟩; have n0_ := zA (Kd.R_lower ho0 (below_size (zqH HB.out GE224.out GE225.out))); have n1_ := zA (blk_below (g := gb224) (o := .cells #[.int .i64 a0_0, .slice A0_1 l0_1.length c0_1] 24 (0, 0)) (zqB BK224.out) hb); have n2_ := zA (blk_below (g := gb225) (o := .cells #[.int .i64 a2_0, .int .i64 a2_1] 47 (0, 0)) (zqB BK225.out) hb); have n3_ := zA (below_step (zqH HB.out GE224.out GE225.out) hb); clear BK224; clear BK225; clear HB; have HO232 := n0_; have BK224 := n1_; have BK225 := n2_; have HB := n3_; clear n0_ n1_ n2_ n3_; (try clear hb); (try clear hb2); (try clear hk); (try clear hi); (try clear ho0); obtain ⟨Ao31, co31, eo31⟩ := Kd.R_slice HO232.out; subst eo31) | ((with_reducible refine gate_callee (f := 27) rfl ?_); refine goesL_ (some 35) rfl rfl Try.func27 (by kernel_rfl) rfl #[.agg #[.int .i64 t229, .slice Ao31 t230.length co31], .slice A1 l1.length c1] rfl zqE ?_; (with_reducible refine (pianolaref03_Verify.calls kj3 t229 _ _ t230 _ _ l1 t233 t234 _ ?side1 ?side2 ?side3 ?side4 A17.out).mono ?_); (case side1 => exact zqK (Kd.R_reads' HO232.out).2.2); (case side2 => exact (Kd.R_reads' HO232.out).2.1); (case side3 => exact zqK (Kd.C_below HR1.out HB.out)); (case side4 => exact HC1.out); rintro e w32 ⟨rfl, hb⟩; refine ⟨_, rfl, ?_⟩; have n0_ := zA (Kd.R_below (zqC HO232.out) hb); have n1_ := zA (blk_below (g := gb224) (o := .cells #[.int .i64 a0_0, .slice A0_1 l0_1.length c0_1] 24 (0, 0)) (zqB BK224.out) hb); have n2_ := zA (blk_below (g := gb225) (o := .cells #[.int .i64 a2_0, .int .i64 a2_1] 47 (0, 0)) (zqB BK225.out) hb); have n3_ := zA (below_step (zqH HB.out GE224.out GE225.out) hb); clear HO232; clear BK224; clear BK225; clear HB; have HO232 := n0_; have BK224 := n1_; have BK225 := n2_; have HB := n3_; clear n0_ n1_ n2_ n3_; (try clear hb); (try clear hb2); (try clear hk); (try clear hi); have hcz33_0 : w32.cell? ⟨gb224, 0, none⟩ = some (.int .i64 a0_0) := (blk_cell BK224.out 0).trans rfl; have hcz33_1 : w32.cell? ⟨gb224, 1, none⟩ = some (.slice A0_1 l0_1.length c0_1) := (blk_cell BK224.out 1).trans rfl; have hfz33_0 := blk_frozen BK224.out 0; have hfz33_1 := blk_frozen BK224.out 1; have hcz34_0 : w32.cell? ⟨gb225, 0, none⟩ = some (.int .i64 a2_0) := (blk_cell BK225.out 0).trans rfl; have hcz34_1 : w32.cell? ⟨gb225, 1, none⟩ = some (.int .i64 a2_1) := (blk_cell BK225.out 1).trans rfl; have hfz34_0 := blk_frozen BK225.out 0; have hfz34_1 := blk_frozen BK225.out 1) | ((with_reducible refine gate_callee (f := 28) rfl ?_); refine goesL_ (some 42) rfl rfl Try.func28 (by kernel_rfl) rfl #[.agg #[.int .i64 a0_0, .slice A0_1 l0_1.length c0_1], .slice A1 l1.length c1, .agg #[.int .i64 a2_0, .int .i64 a2_1]] rfl zqE ?_; (with_reducible refine (punch_Add.calls a0_0 _ _ l0_1 _ _ l1 a2_0 a2_1 t235 t236 _ ?side1 ?side2 ?side3 ?side4 A18.out).mono ?_); (case side1 => exact zqK (Kd.C_below HR0_1.out HB.out)); (case side2 => exact HC0_1.out); (case side3 => exact zqK (Kd.C_below HR1.out HB.out)); (case side4 => exact HC1.out); rintro e w35 ⟨rfl, hb⟩; refine ⟨_, rfl, ?_⟩; have n0_ := zA (Kd.R_below (zqC HO232.out) hb); have n1_ := zA (blk_below (g := gb224) (o := .cells #[.int .i64 a0_0, .slice A0_1 l0_1.length c0_1] 24 (0, 0)) (zqB BK224.out) hb); have n2_ := zA (blk_below (g := gb225) (o := .cells #[.int .i64 a2_0, .int .i64 a2_1] 47 (0, 0)) (zqB BK225.out) hb); have n3_ := zA (below_step (zqH HB.out GE224.out GE225.out) hb); clear HO232; clear BK224; clear BK225; clear HB; have HO232 := n0_; have BK224 := n1_; have BK225 := n2_; have HB := n3_; clear n0_ n1_ n2_ n3_; (try clear hb); (try clear hb2); (try clear hk); (try clear hi)))
        have n0_ := zA (Kd.R_drew HO232.out); have n1_ := zA (blk_drew BK224.out); have n2_ := zA (blk_drew BK225.out); have n3_ := zA (below_drew1 HB.out); clear HO232 BK224 BK225 HB; have HO232 := n0_; have BK224 := n1_; have BK225 := n2_; have HB := n3_; clear n0_ n1_ n2_ n3_
        refine start_ (n := 10) (S := fun w' => w'.cell? ⟨gb224, 0, none⟩ = some (.int .i64 a0_0) ∧ w'.cell? ⟨gb224, 1, none⟩ = some (.slice A0_1 l0_1.length c0_1) ∧ w'.cell? ⟨gb225, 0, none⟩ = some (.int .i64 a2_0) ∧ w'.cell? ⟨gb225, 1, none⟩ = some (.int .i64 a2_1)) (ds := []) #[false, false, false, false, false, false, false, false, false, false] (by kernel_rfl) rfl rfl ⟨(blk_cell BK224.out 0).trans rfl, (blk_cell BK224.out 1).trans rfl, (blk_cell BK225.out 0).trans rfl, (blk_cell BK225.out 1).trans rfl⟩ (fun hHeld => ?_); refine with_tabW pianolalaw03_PunchVerifies.tab6 pianolalaw03_PunchVerifies.bits6 (fun HT_ HW_ => ?_)
        generalize w35.drew = w36 at HO232 BK224 BK225 HB hHeld ⊢
        refine pure_ (i := 2) (N := some 48) (v := ?_) (a' := ?_) #[false, false, true, false, false, false, false, false, false, false] rfl rfl (any_of HT_.out (by kernel_rfl)) (fun _ _ _ h => h) (Or.inl ⟨by rfl, ?_⟩) ?_ ?_
        rotate_left
        ·
         intro w'
         go_simp
         with_reducible rfl
        rotate_left
        · simp only [Act.put, setIfInBounds_toArray, set_cons_zero, set_cons_succ, i64_w, i32_w]; rfl
        refine take_ (i := 0) (N := some 46) (v := ?_) (a' := ?_) #[true, false, true, false, false, false, false, false, false, false] rfl rfl (take_ofW HT_.out HW_.out (by kernel_rfl)) (fun _ _ _ h => h) (Or.inl ⟨by rfl, ?_⟩) hHeld ?_ ?_
        rotate_left
        ·
         rintro w' ⟨s0, s1, s2, s3⟩
         go_simp
         with_reducible rfl
        rotate_left
        · simp only [Act.put, setIfInBounds_toArray, set_cons_zero, set_cons_succ, i64_w, i32_w]; rfl
        refine take_ (i := 3) (N := some 49) (v := ?_) (a' := ?_) #[true, false, true, true, false, false, false, false, false, false] rfl rfl (take_ofW HT_.out HW_.out (by kernel_rfl)) (fun _ _ _ h => h) (Or.inl ⟨by rfl, ?_⟩) hHeld ?_ ?_
        rotate_left
        ·
         rintro w' ⟨s0, s1, s2, s3⟩
         go_simp
         with_reducible rfl
        rotate_left
        · simp only [Act.put, setIfInBounds_toArray, set_cons_zero, set_cons_succ, i64_w, i32_w]; rfl
        refine one_ (i := 1) (N := some 47) #[true, true, true, true, false, false, false, false, false, false] rfl rfl (one_of HT_.out (by kernel_rfl)) (by decide) (fun K hK => ?_)
        refine goes_ Try.func18 (by kernel_rfl) rfl #[.agg #[.int .i64 a0_0, .slice A0_1 l0_1.length c0_1]] (by rfl) rfl rfl zqE ?_
        with_reducible refine (pianolalaw03_given.calls kj3 a0_0 _ _ l0_1 t237 t238 _ ?side1 ?side2 A19.out).mono ?_
        (case side1 => exact zqK (Kd.C_below HR0_1.out HB.out))
        (case side2 => exact HC0_1.out)
        rintro e w37 ⟨v239, rfl, ho0, hb⟩
        refine ⟨_, rfl, ?_⟩
        have n0_ := zA (Kd.R_elder' (zqC HO232.out) (Kd.R_base ho0) hb); have n1_ := zA (Kd.R_lower (Kd.R_new' ho0 (Kd.R_lt (zqC HO232.out))) (below_size (zqH HB.out GE224.out GE225.out))); have n2_ := zA (blk_below (g := gb224) (o := .cells #[.int .i64 a0_0, .slice A0_1 l0_1.length c0_1] 24 (0, 0)) (zqB BK224.out) hb); have n3_ := zA (blk_below (g := gb225) (o := .cells #[.int .i64 a2_0, .int .i64 a2_1] 47 (0, 0)) (zqB BK225.out) hb); have n4_ := zA (below_step (zqH HB.out GE224.out GE225.out) hb); clear HO232 BK224 BK225 HB; have HO232 := n0_; have HO240 := n1_; have BK224 := n2_; have BK225 := n3_; have HB := n4_; clear n0_ n1_ n2_ n3_ n4_
        (try clear hb); (try clear hb2); (try clear hk); (try clear hi); (try clear ho0)
        obtain ⟨Ao38, co38, eo38⟩ := Kd.R_slice HO240.out
        (first | subst eo38 | (injection eo38 with f1_ f2_ f3_; have f4_ := f1_.symm; have f5_ := f3_.symm; clear f1_ f2_ f3_; subst f4_; subst f5_))
        refine hK.out _ _ ⟨(blk_cell BK224.out 0).trans rfl, (blk_cell BK224.out 1).trans rfl, (blk_cell BK225.out 0).trans rfl, (blk_cell BK225.out 1).trans rfl⟩ (fun hHeld => ?_)
        clear hK K; refine norm_ (a' := ?_) ?_ ?_; rotate_left
        · show Act.put _ (some 47) _ = _; simp only [Act.put, setIfInBounds_toArray, set_cons_zero, set_cons_succ, i64_w, i32_w]; rfl
        refine one_ (i := 4) (N := some 50) #[true, true, true, true, true, false, false, false, false, false] rfl rfl (one_of HT_.out (by kernel_rfl)) (by decide) (fun K hK => ?_)
        refine goes_ Try.func29 (by kernel_rfl) rfl #[.agg #[.int .i64 t237, .slice Ao38 t238.length co38], .slice A1 l1.length c1, .agg #[.int .i64 a2_0, .int .i64 a2_1]] (by rfl) rfl rfl zqE ?_
        with_reducible refine (pianolaref03_Add.calls kj3 t237 _ _ t238 _ _ l1 a2_0 a2_1 t241 t242 _ ?side1 ?side2 ?side3 ?side4 A20.out).mono ?_
        (case side1 => exact zqK (Kd.R_reads' HO240.out).2.2)
        (case side2 => exact (Kd.R_reads' HO240.out).2.1)
        (case side3 => exact zqK (Kd.C_below HR1.out HB.out))
        (case side4 => exact HC1.out)
        rintro e w39 ⟨rfl, hb⟩
        refine ⟨_, rfl, ?_⟩
        have n0_ := zA (Kd.R_below (zqC HO232.out) hb); have n1_ := zA (Kd.R_below (zqC HO240.out) hb); have n2_ := zA (blk_below (g := gb224) (o := .cells #[.int .i64 a0_0, .slice A0_1 l0_1.length c0_1] 24 (0, 0)) (zqB BK224.out) hb); have n3_ := zA (blk_below (g := gb225) (o := .cells #[.int .i64 a2_0, .int .i64 a2_1] 47 (0, 0)) (zqB BK225.out) hb); have n4_ := zA (below_step (zqH HB.out GE224.out GE225.out) hb); clear HO232 HO240 BK224 BK225 HB; have HO232 := n0_; have HO240 := n1_; have BK224 := n2_; have BK225 := n3_; have HB := n4_; clear n0_ n1_ n2_ n3_ n4_
        (try clear hb); (try clear hb2); (try clear hk); (try clear hi)
        refine hK.out _ _ ⟨(blk_cell BK224.out 0).trans rfl, (blk_cell BK224.out 1).trans rfl, (blk_cell BK225.out 0).trans rfl, (blk_cell BK225.out 1).trans rfl⟩ (fun hHeld => ?_)
        clear hK K; refine norm_ (a' := ?_) ?_ ?_; rotate_left
        · show Act.put _ (some 50) _ = _; simp only [Act.put, setIfInBounds_toArray, set_cons_zero, set_cons_succ, i64_w, i32_w]; rfl
        refine pure_ (i := 5) (N := some 45) (v := ?_) (a' := ?_) #[true, true, true, true, true, true, false, false, false, false] rfl rfl (any_of HT_.out (by kernel_rfl)) (fun _ _ _ h => h) (Or.inl ⟨by rfl, ?_⟩) ?_ ?_
        rotate_left
        ·
         intro w'
         go_simp
         with_reducible rfl
        rotate_left
        · simp only [Act.put, setIfInBounds_toArray, set_cons_zero, set_cons_succ, i64_w, i32_w]; rfl
        refine pure_ (i := 6) (N := some 51) (v := ?_) (a' := ?_) #[true, true, true, true, true, true, true, false, false, false] rfl rfl (any_of HT_.out (by kernel_rfl)) (fun _ _ _ h => h) (Or.inl ⟨by rfl, ?_⟩) ?_ ?_
        rotate_left
        ·
         intro w'
         go_simp
         with_reducible rfl
        rotate_left
        · simp only [Act.put, setIfInBounds_toArray, set_cons_zero, set_cons_succ, i64_w, i32_w]; rfl
        refine pure_ (i := 7) (N := some 52) (v := ?_) (a' := ?_) #[true, true, true, true, true, true, true, true, false, false] rfl rfl (any_of HT_.out (by kernel_rfl)) (fun _ _ _ h => h) (Or.inl ⟨by rfl, ?_⟩) ?_ ?_
        rotate_left
        ·
         intro w'
         go_simp
         with_reducible rfl
        rotate_left
        · simp only [Act.put, setIfInBounds_toArray, set_cons_zero, set_cons_succ, i64_w, i32_w]; rfl
        refine pure_ (i := 8) (N := some 13) (v := ?_) (a' := ?_) #[true, true, true, true, true, true, true, true, true, false] rfl rfl (any_of HT_.out (by kernel_rfl)) (fun _ _ _ h => h) (Or.inl ⟨by rfl, ?_⟩) ?_ ?_
        rotate_left
        ·
         intro w'
         go_simp
         with_reducible rfl
        rotate_left
        · simp only [Act.put, setIfInBounds_toArray, set_cons_zero, set_cons_succ, i64_w, i32_w]; rfl
        refine pure_ (i := 9) (N := some 14) (v := ?_) (a' := ?_) #[true, true, true, true, true, true, true, true, true, true] rfl rfl (any_of HT_.out (by kernel_rfl)) (fun _ _ _ h => h) (Or.inl ⟨by rfl, ?_⟩) ?_ ?_
        rotate_left
        ·
         intro w'
         go_simp
         with_reducible rfl
        rotate_left
        · simp only [Act.put, setIfInBounds_toArray, set_cons_zero, set_cons_succ, i64_w, i32_w]; rfl
        refine done_ (done_of HT_.out (by kernel_rfl)) ?_
        try go_wp2_with (first | (go_at_call 15; (with_reducible refine (pianolalaw03_works.calls  t243 _ A25.out).mono ?_); rintro e w40 ⟨rfl, hb⟩; have n0_ := zA (Kd.R_below (zqC HO232.out) hb); have n1_ := zA (Kd.R_below (zqC HO240.out) hb); have n2_ := zA (blk_below (g := gb224) (o := .cells #[.int .i64 a0_0, .slice A0_1 l0_1.length c0_1] 24 (0, 0)) (zqB BK224.out) hb); have n3_ := zA (blk_below (g := gb225) (o := .cells #[.int .i64 a2_0, .int .i64 a2_1] 47 (0, 0)) (zqB BK225.out) hb); have n4_ := zA (below_step (zqH HB.out GE224.out GE225.out) hb); clear HO232; clear HO240; clear BK224; clear BK225; clear HB; have HO232 := n0_; have HO240 := n1_; have BK224 := n2_; have BK225 := n3_; have HB := n4_; clear n0_ n1_ n2_ n3_ n4_; (try clear hb); (try clear hb2); (try clear hk); (try clear hi)))
        go_ret
        exact ⟨zqR, zqH HB.out GE224.out GE225.out⟩
       ·
        rw [if_neg c24] at H
        have c24b0 : (t236 == t242) = false := beq_eq_false_iff_ne.mpr c24
        have c24b1 : (t236 != t242) = true := bne_iff_ne.mpr c24
        obtain rfl := Option.some.inj H
        have hnb41 := NB224_225.out
        have hnc41 := NB225_224.out
        have hcz42_0 : wc.cell? ⟨gb224, 0, none⟩ = some (.int .i64 a0_0) := (blk_cell BK224.out 0).trans rfl
        have hcz42_1 : wc.cell? ⟨gb224, 1, none⟩ = some (.slice A0_1 l0_1.length c0_1) := (blk_cell BK224.out 1).trans rfl
        have hfz42_0 := blk_frozen BK224.out 0
        have hfz42_1 := blk_frozen BK224.out 1
        try go_wp2_with (first | ((with_reducible refine gate_callee (f := 26) rfl ?_); refine goesL_ (some 28) rfl rfl Try.func26 (by kernel_rfl) rfl #[.agg #[.int .i64 a0_0, .slice A0_1 l0_1.length c0_1], .slice A1 l1.length c1] rfl zqE ?_; (with_reducible refine (punch_Verify.calls a0_0 _ _ l0_1 _ _ l1 t227 t228 _ ?side1 ?side2 ?side3 ?side4 A15.out).mono ?_); (case side1 => exact zqK (Kd.C_below HR0_1.out HB.out)); (case side2 => exact HC0_1.out); (case side3 => exact zqK (Kd.C_below HR1.out HB.out)); (case side4 => exact HC1.out); rintro e w43 ⟨rfl, hb⟩; refine ⟨_, rfl, ?_⟩; have n0_ := zA (blk_below (g := gb224) (o := .cells #[.int .i64 a0_0, .slice A0_1 l0_1.length c0_1] 24 (0, 0)) (zqB BK224.out) hb); have n1_ := zA (blk_below (g := gb225) (o := .cells #[.int .i64 a2_0, .int .i64 a2_1] 47 (0, 0)) (zqB BK225.out) hb); have n2_ := zA (below_step (zqH HB.out GE224.out GE225.out) hb); clear BK224; clear BK225; clear HB; have BK224 := n0_; have BK225 := n1_; have HB := n2_; clear n0_ n1_ n2_; (try clear hb); (try clear hb2); (try clear hk); (try clear hi); have hcz44_0 : w43.cell? ⟨gb224, 0, none⟩ = some (.int .i64 a0_0) := (blk_cell BK224.out 0).trans rfl; have hcz44_1 : w43.cell? ⟨gb224, 1, none⟩ = some (.slice A0_1 l0_1.length c0_1) := (blk_cell BK224.out 1).trans rfl; have hfz44_0 := blk_frozen BK224.out 0; have hfz44_1 := blk_frozen BK224.out 1) | ((with_reducible refine gate_callee (f := 18) rfl ?_); refine goesL_ (some 33) rfl rfl Try.func18 (by kernel_rfl) rfl #[.agg #[.int .i64 a0_0, .slice A0_1 l0_1.length c0_1]] rfl zqE ?_; (with_reducible refine (pianolalaw03_given.calls kj3 a0_0 _ _ l0_1 t229 t230 _ ?side1 ?side2 A16.out).mono ?_); (case side1 => exact zqK (Kd.C_below HR0_1.out HB.out)); (case side2 => exact HC0_1.out); rintro e w45 ⟨v231, rfl, ho0, hb⟩; refine ⟨_, rfl, ?_⟩; have n0_ := zA (Kd.R_lower ho0 (below_size (zqH HB.out GE224.out GE225.out))); have n1_ := zA (blk_below (g := gb224) (o := .cells #[.int .i64 a0_0, .slice A0_1 l0_1.length c0_1] 24 (0, 0)) (zqB BK224.out) hb); have n2_ := zA (blk_below (g := gb225) (o := .cells #[.int .i64 a2_0, .int .i64 a2_1] 47 (0, 0)) (zqB BK225.out) hb); have n3_ := zA (below_step (zqH HB.out GE224.out GE225.out) hb); clear BK224; clear BK225; clear HB; have HO232 := n0_; have BK224 := n1_; have BK225 := n2_; have HB := n3_; clear n0_ n1_ n2_ n3_; (try clear hb); (try clear hb2); (try clear hk); (try clear hi); (try clear ho0); obtain ⟨Ao46, co46, eo46⟩ := Kd.R_slice HO232.out; subst eo46) | ((with_reducible refine gate_callee (f := 27) rfl ?_); refine goesL_ (some 35) rfl rfl Try.func27 (by kernel_rfl) rfl #[.agg #[.int .i64 t229, .slice Ao46 t230.length co46], .slice A1 l1.length c1] rfl zqE ?_; (with_reducible refine (pianolaref03_Verify.calls kj3 t229 _ _ t230 _ _ l1 t233 t234 _ ?side1 ?side2 ?side3 ?side4 A17.out).mono ?_); (case side1 => exact zqK (Kd.R_reads' HO232.out).2.2); (case side2 => exact (Kd.R_reads' HO232.out).2.1); (case side3 => exact zqK (Kd.C_below HR1.out HB.out)); (case side4 => exact HC1.out); rintro e w47 ⟨rfl, hb⟩; refine ⟨_, rfl, ?_⟩; have n0_ := zA (Kd.R_below (zqC HO232.out) hb); have n1_ := zA (blk_below (g := gb224) (o := .cells #[.int .i64 a0_0, .slice A0_1 l0_1.length c0_1] 24 (0, 0)) (zqB BK224.out) hb); have n2_ := zA (blk_below (g := gb225) (o := .cells #[.int .i64 a2_0, .int .i64 a2_1] 47 (0, 0)) (zqB BK225.out) hb); have n3_ := zA (below_step (zqH HB.out GE224.out GE225.out) hb); clear HO232; clear BK224; clear BK225; clear HB; have HO232 := n0_; have BK224 := n1_; have BK225 := n2_; have HB := n3_; clear n0_ n1_ n2_ n3_; (try clear hb); (try clear hb2); (try clear hk); (try clear hi); have hcz48_0 : w47.cell? ⟨gb224, 0, none⟩ = some (.int .i64 a0_0) := (blk_cell BK224.out 0).trans rfl; have hcz48_1 : w47.cell? ⟨gb224, 1, none⟩ = some (.slice A0_1 l0_1.length c0_1) := (blk_cell BK224.out 1).trans rfl; have hfz48_0 := blk_frozen BK224.out 0; have hfz48_1 := blk_frozen BK224.out 1; have hcz49_0 : w47.cell? ⟨gb225, 0, none⟩ = some (.int .i64 a2_0) := (blk_cell BK225.out 0).trans rfl; have hcz49_1 : w47.cell? ⟨gb225, 1, none⟩ = some (.int .i64 a2_1) := (blk_cell BK225.out 1).trans rfl; have hfz49_0 := blk_frozen BK225.out 0; have hfz49_1 := blk_frozen BK225.out 1) | ((with_reducible refine gate_callee (f := 28) rfl ?_); refine goesL_ (some 42) rfl rfl Try.func28 (by kernel_rfl) rfl #[.agg #[.int .i64 a0_0, .slice A0_1 l0_1.length c0_1], .slice A1 l1.length c1, .agg #[.int .i64 a2_0, .int .i64 a2_1]] rfl zqE ?_; (with_reducible refine (punch_Add.calls a0_0 _ _ l0_1 _ _ l1 a2_0 a2_1 t235 t236 _ ?side1 ?side2 ?side3 ?side4 A18.out).mono ?_); (case side1 => exact zqK (Kd.C_below HR0_1.out HB.out)); (case side2 => exact HC0_1.out); (case side3 => exact zqK (Kd.C_below HR1.out HB.out)); (case side4 => exact HC1.out); rintro e w50 ⟨rfl, hb⟩; refine ⟨_, rfl, ?_⟩; have n0_ := zA (Kd.R_below (zqC HO232.out) hb); have n1_ := zA (blk_below (g := gb224) (o := .cells #[.int .i64 a0_0, .slice A0_1 l0_1.length c0_1] 24 (0, 0)) (zqB BK224.out) hb); have n2_ := zA (blk_below (g := gb225) (o := .cells #[.int .i64 a2_0, .int .i64 a2_1] 47 (0, 0)) (zqB BK225.out) hb); have n3_ := zA (below_step (zqH HB.out GE224.out GE225.out) hb); clear HO232; clear BK224; clear BK225; clear HB; have HO232 := n0_; have BK224 := n1_; have BK225 := n2_; have HB := n3_; clear n0_ n1_ n2_ n3_; (try clear hb); (try clear hb2); (try clear hk); (try clear hi)))
        have n0_ := zA (Kd.R_drew HO232.out); have n1_ := zA (blk_drew BK224.out); have n2_ := zA (blk_drew BK225.out); have n3_ := zA (below_drew1 HB.out); clear HO232 BK224 BK225 HB; have HO232 := n0_; have BK224 := n1_; have BK225 := n2_; have HB := n3_; clear n0_ n1_ n2_ n3_
        refine start_ (n := 10) (S := fun w' => w'.cell? ⟨gb224, 0, none⟩ = some (.int .i64 a0_0) ∧ w'.cell? ⟨gb224, 1, none⟩ = some (.slice A0_1 l0_1.length c0_1) ∧ w'.cell? ⟨gb225, 0, none⟩ = some (.int .i64 a2_0) ∧ w'.cell? ⟨gb225, 1, none⟩ = some (.int .i64 a2_1)) (ds := []) #[false, false, false, false, false, false, false, false, false, false] (by kernel_rfl) rfl rfl ⟨(blk_cell BK224.out 0).trans rfl, (blk_cell BK224.out 1).trans rfl, (blk_cell BK225.out 0).trans rfl, (blk_cell BK225.out 1).trans rfl⟩ (fun hHeld => ?_); refine with_tabW pianolalaw03_PunchVerifies.tab6 pianolalaw03_PunchVerifies.bits6 (fun HT_ HW_ => ?_)
        generalize w50.drew = w51 at HO232 BK224 BK225 HB hHeld ⊢
        refine pure_ (i := 2) (N := some 48) (v := ?_) (a' := ?_) #[false, false, true, false, false, false, false, false, false, false] rfl rfl (any_of HT_.out (by kernel_rfl)) (fun _ _ _ h => h) (Or.inl ⟨by rfl, ?_⟩) ?_ ?_
        rotate_left
        ·
         intro w'
         go_simp
         with_reducible rfl
        rotate_left
        · simp only [Act.put, setIfInBounds_toArray, set_cons_zero, set_cons_succ, i64_w, i32_w]; rfl
        refine take_ (i := 0) (N := some 46) (v := ?_) (a' := ?_) #[true, false, true, false, false, false, false, false, false, false] rfl rfl (take_ofW HT_.out HW_.out (by kernel_rfl)) (fun _ _ _ h => h) (Or.inl ⟨by rfl, ?_⟩) hHeld ?_ ?_
        rotate_left
        ·
         rintro w' ⟨s0, s1, s2, s3⟩
         go_simp
         with_reducible rfl
        rotate_left
        · simp only [Act.put, setIfInBounds_toArray, set_cons_zero, set_cons_succ, i64_w, i32_w]; rfl
        refine take_ (i := 3) (N := some 49) (v := ?_) (a' := ?_) #[true, false, true, true, false, false, false, false, false, false] rfl rfl (take_ofW HT_.out HW_.out (by kernel_rfl)) (fun _ _ _ h => h) (Or.inl ⟨by rfl, ?_⟩) hHeld ?_ ?_
        rotate_left
        ·
         rintro w' ⟨s0, s1, s2, s3⟩
         go_simp
         with_reducible rfl
        rotate_left
        · simp only [Act.put, setIfInBounds_toArray, set_cons_zero, set_cons_succ, i64_w, i32_w]; rfl
        refine one_ (i := 1) (N := some 47) #[true, true, true, true, false, false, false, false, false, false] rfl rfl (one_of HT_.out (by kernel_rfl)) (by decide) (fun K hK => ?_)
        refine goes_ Try.func18 (by kernel_rfl) rfl #[.agg #[.int .i64 a0_0, .slice A0_1 l0_1.length c0_1]] (by rfl) rfl rfl zqE ?_
        with_reducible refine (pianolalaw03_given.calls kj3 a0_0 _ _ l0_1 t237 t238 _ ?side1 ?side2 A19.out).mono ?_
        (case side1 => exact zqK (Kd.C_below HR0_1.out HB.out))
        (case side2 => exact HC0_1.out)
        rintro e w52 ⟨v239, rfl, ho0, hb⟩
        refine ⟨_, rfl, ?_⟩
        have n0_ := zA (Kd.R_elder' (zqC HO232.out) (Kd.R_base ho0) hb); have n1_ := zA (Kd.R_lower (Kd.R_new' ho0 (Kd.R_lt (zqC HO232.out))) (below_size (zqH HB.out GE224.out GE225.out))); have n2_ := zA (blk_below (g := gb224) (o := .cells #[.int .i64 a0_0, .slice A0_1 l0_1.length c0_1] 24 (0, 0)) (zqB BK224.out) hb); have n3_ := zA (blk_below (g := gb225) (o := .cells #[.int .i64 a2_0, .int .i64 a2_1] 47 (0, 0)) (zqB BK225.out) hb); have n4_ := zA (below_step (zqH HB.out GE224.out GE225.out) hb); clear HO232 BK224 BK225 HB; have HO232 := n0_; have HO240 := n1_; have BK224 := n2_; have BK225 := n3_; have HB := n4_; clear n0_ n1_ n2_ n3_ n4_
        (try clear hb); (try clear hb2); (try clear hk); (try clear hi); (try clear ho0)
        obtain ⟨Ao53, co53, eo53⟩ := Kd.R_slice HO240.out
        (first | subst eo53 | (injection eo53 with f1_ f2_ f3_; have f4_ := f1_.symm; have f5_ := f3_.symm; clear f1_ f2_ f3_; subst f4_; subst f5_))
        refine hK.out _ _ ⟨(blk_cell BK224.out 0).trans rfl, (blk_cell BK224.out 1).trans rfl, (blk_cell BK225.out 0).trans rfl, (blk_cell BK225.out 1).trans rfl⟩ (fun hHeld => ?_)
        clear hK K; refine norm_ (a' := ?_) ?_ ?_; rotate_left
        · show Act.put _ (some 47) _ = _; simp only [Act.put, setIfInBounds_toArray, set_cons_zero, set_cons_succ, i64_w, i32_w]; rfl
        refine one_ (i := 4) (N := some 50) #[true, true, true, true, true, false, false, false, false, false] rfl rfl (one_of HT_.out (by kernel_rfl)) (by decide) (fun K hK => ?_)
        refine goes_ Try.func29 (by kernel_rfl) rfl #[.agg #[.int .i64 t237, .slice Ao53 t238.length co53], .slice A1 l1.length c1, .agg #[.int .i64 a2_0, .int .i64 a2_1]] (by rfl) rfl rfl zqE ?_
        with_reducible refine (pianolaref03_Add.calls kj3 t237 _ _ t238 _ _ l1 a2_0 a2_1 t241 t242 _ ?side1 ?side2 ?side3 ?side4 A20.out).mono ?_
        (case side1 => exact zqK (Kd.R_reads' HO240.out).2.2)
        (case side2 => exact (Kd.R_reads' HO240.out).2.1)
        (case side3 => exact zqK (Kd.C_below HR1.out HB.out))
        (case side4 => exact HC1.out)
        rintro e w54 ⟨rfl, hb⟩
        refine ⟨_, rfl, ?_⟩
        have n0_ := zA (Kd.R_below (zqC HO232.out) hb); have n1_ := zA (Kd.R_below (zqC HO240.out) hb); have n2_ := zA (blk_below (g := gb224) (o := .cells #[.int .i64 a0_0, .slice A0_1 l0_1.length c0_1] 24 (0, 0)) (zqB BK224.out) hb); have n3_ := zA (blk_below (g := gb225) (o := .cells #[.int .i64 a2_0, .int .i64 a2_1] 47 (0, 0)) (zqB BK225.out) hb); have n4_ := zA (below_step (zqH HB.out GE224.out GE225.out) hb); clear HO232 HO240 BK224 BK225 HB; have HO232 := n0_; have HO240 := n1_; have BK224 := n2_; have BK225 := n3_; have HB := n4_; clear n0_ n1_ n2_ n3_ n4_
        (try clear hb); (try clear hb2); (try clear hk); (try clear hi)
        refine hK.out _ _ ⟨(blk_cell BK224.out 0).trans rfl, (blk_cell BK224.out 1).trans rfl, (blk_cell BK225.out 0).trans rfl, (blk_cell BK225.out 1).trans rfl⟩ (fun hHeld => ?_)
        clear hK K; refine norm_ (a' := ?_) ?_ ?_; rotate_left
        · show Act.put _ (some 50) _ = _; simp only [Act.put, setIfInBounds_toArray, set_cons_zero, set_cons_succ, i64_w, i32_w]; rfl
        refine pure_ (i := 5) (N := some 45) (v := ?_) (a' := ?_) #[true, true, true, true, true, true, false, false, false, false] rfl rfl (any_of HT_.out (by kernel_rfl)) (fun _ _ _ h => h) (Or.inl ⟨by rfl, ?_⟩) ?_ ?_
        rotate_left
        ·
         intro w'
         go_simp
         with_reducible rfl
        rotate_left
        · simp only [Act.put, setIfInBounds_toArray, set_cons_zero, set_cons_succ, i64_w, i32_w]; rfl
        refine pure_ (i := 6) (N := some 51) (v := ?_) (a' := ?_) #[true, true, true, true, true, true, true, false, false, false] rfl rfl (any_of HT_.out (by kernel_rfl)) (fun _ _ _ h => h) (Or.inl ⟨by rfl, ?_⟩) ?_ ?_
        rotate_left
        ·
         intro w'
         go_simp
         with_reducible rfl
        rotate_left
        · simp only [Act.put, setIfInBounds_toArray, set_cons_zero, set_cons_succ, i64_w, i32_w]; rfl
        refine pure_ (i := 7) (N := some 52) (v := ?_) (a' := ?_) #[true, true, true, true, true, true, true, true, false, false] rfl rfl (any_of HT_.out (by kernel_rfl)) (fun _ _ _ h => h) (Or.inl ⟨by rfl, ?_⟩) ?_ ?_
        rotate_left
        ·
         intro w'
         go_simp
         with_reducible rfl
        rotate_left
        · simp only [Act.put, setIfInBounds_toArray, set_cons_zero, set_cons_succ, i64_w, i32_w]; rfl
        refine pure_ (i := 8) (N := some 13) (v := ?_) (a' := ?_) #[true, true, true, true, true, true, true, true, true, false] rfl rfl (any_of HT_.out (by kernel_rfl)) (fun _ _ _ h => h) (Or.inl ⟨by rfl, ?_⟩) ?_ ?_
        rotate_left
        ·
         intro w'
         go_simp
         with_reducible rfl
        rotate_left
        · simp only [Act.put, setIfInBounds_toArray, set_cons_zero, set_cons_succ, i64_w, i32_w]; rfl
        refine pure_ (i := 9) (N := some 14) (v := ?_) (a' := ?_) #[true, true, true, true, true, true, true, true, true, true] rfl rfl (any_of HT_.out (by kernel_rfl)) (fun _ _ _ h => h) (Or.inl ⟨by rfl, ?_⟩) ?_ ?_
        rotate_left
        ·
         intro w'
         go_simp
         with_reducible rfl
        rotate_left
        · simp only [Act.put, setIfInBounds_toArray, set_cons_zero, set_cons_succ, i64_w, i32_w]; rfl
        refine done_ (done_of HT_.out (by kernel_rfl)) ?_
        try go_wp2
        go_ret
        exact ⟨zqR, zqH HB.out GE224.out GE225.out⟩
      ·
       rw [if_neg c23] at H
       have c23b0 : (t235 == t241) = false := beq_eq_false_iff_ne.mpr c23
       have c23b1 : (t235 != t241) = true := bne_iff_ne.mpr c23
       obtain rfl := Option.some.inj H
       have hnb55 := NB224_225.out
       have hnc55 := NB225_224.out
       have hcz56_0 : wc.cell? ⟨gb224, 0, none⟩ = some (.int .i64 a0_0) := (blk_cell BK224.out 0).trans rfl
       have hcz56_1 : wc.cell? ⟨gb224, 1, none⟩ = some (.slice A0_1 l0_1.length c0_1) := (blk_cell BK224.out 1).trans rfl
       have hfz56_0 := blk_frozen BK224.out 0
       have hfz56_1 := blk_frozen BK224.out 1
       try go_wp2_with (first | ((with_reducible refine gate_callee (f := 26) rfl ?_); refine goesL_ (some 28) rfl rfl Try.func26 (by kernel_rfl) rfl #[.agg #[.int .i64 a0_0, .slice A0_1 l0_1.length c0_1], .slice A1 l1.length c1] rfl zqE ?_; (with_reducible refine (punch_Verify.calls a0_0 _ _ l0_1 _ _ l1 t227 t228 _ ?side1 ?side2 ?side3 ?side4 A15.out).mono ?_); (case side1 => exact zqK (Kd.C_below HR0_1.out HB.out)); (case side2 => exact HC0_1.out); (case side3 => exact zqK (Kd.C_below HR1.out HB.out)); (case side4 => exact HC1.out); rintro e w57 ⟨rfl, hb⟩; refine ⟨_, rfl, ?_⟩; have n0_ := zA (blk_below (g := gb224) (o := .cells #[.int .i64 a0_0, .slice A0_1 l0_1.length c0_1] 24 (0, 0)) (zqB BK224.out) hb); have n1_ := zA (blk_below (g := gb225) (o := .cells #[.int .i64 a2_0, .int .i64 a2_1] 47 (0, 0)) (zqB BK225.out) hb); have n2_ := zA (below_step (zqH HB.out GE224.out GE225.out) hb); clear BK224; clear BK225; clear HB; have BK224 := n0_; have BK225 := n1_; have HB := n2_; clear n0_ n1_ n2_; (try clear hb); (try clear hb2); (try clear hk); (try clear hi); have hcz58_0 : w57.cell? ⟨gb224, 0, none⟩ = some (.int .i64 a0_0) := (blk_cell BK224.out 0).trans rfl; have hcz58_1 : w57.cell? ⟨gb224, 1, none⟩ = some (.slice A0_1 l0_1.length c0_1) := (blk_cell BK224.out 1).trans rfl; have hfz58_0 := blk_frozen BK224.out 0; have hfz58_1 := blk_frozen BK224.out 1) | ((with_reducible refine gate_callee (f := 18) rfl ?_); refine goesL_ (some 33) rfl rfl Try.func18 (by kernel_rfl) rfl #[.agg #[.int .i64 a0_0, .slice A0_1 l0_1.length c0_1]] rfl zqE ?_; (with_reducible refine (pianolalaw03_given.calls kj3 a0_0 _ _ l0_1 t229 t230 _ ?side1 ?side2 A16.out).mono ?_); (case side1 => exact zqK (Kd.C_below HR0_1.out HB.out)); (case side2 => exact HC0_1.out); rintro e w59 ⟨v231, rfl, ho0, hb⟩; refine ⟨_, rfl, ?_⟩; have n0_ := zA (Kd.R_lower ho0 (below_size (zqH HB.out GE224.out GE225.out))); have n1_ := zA (blk_below (g := gb224) (o := .cells #[.int .i64 a0_0, .slice A0_1 l0_1.length c0_1] 24 (0, 0)) (zqB BK224.out) hb); have n2_ := zA (blk_below (g := gb225) (o := .cells #[.int .i64 a2_0, .int .i64 a2_1] 47 (0, 0)) (zqB BK225.out) hb); have n3_ := zA (below_step (zqH HB.out GE224.out GE225.out) hb); clear BK224; clear BK225; clear HB; have HO232 := n0_; have BK224 := n1_; have BK225 := n2_; have HB := n3_; clear n0_ n1_ n2_ n3_; (try clear hb); (try clear hb2); (try clear hk); (try clear hi); (try clear ho0); obtain ⟨Ao60, co60, eo60⟩ := Kd.R_slice HO232.out; subst eo60) | ((with_reducible refine gate_callee (f := 27) rfl ?_); refine goesL_ (some 35) rfl rfl Try.func27 (by kernel_rfl) rfl #[.agg #[.int .i64 t229, .slice Ao60 t230.length co60], .slice A1 l1.length c1] rfl zqE ?_; (with_reducible refine (pianolaref03_Verify.calls kj3 t229 _ _ t230 _ _ l1 t233 t234 _ ?side1 ?side2 ?side3 ?side4 A17.out).mono ?_); (case side1 => exact zqK (Kd.R_reads' HO232.out).2.2); (case side2 => exact (Kd.R_reads' HO232.out).2.1); (case side3 => exact zqK (Kd.C_below HR1.out HB.out)); (case side4 => exact HC1.out); rintro e w61 ⟨rfl, hb⟩; refine ⟨_, rfl, ?_⟩; have n0_ := zA (Kd.R_below (zqC HO232.out) hb); have n1_ := zA (blk_below (g := gb224) (o := .cells #[.int .i64 a0_0, .slice A0_1 l0_1.length c0_1] 24 (0, 0)) (zqB BK224.out) hb); have n2_ := zA (blk_below (g := gb225) (o := .cells #[.int .i64 a2_0, .int .i64 a2_1] 47 (0, 0)) (zqB BK225.out) hb); have n3_ := zA (below_step (zqH HB.out GE224.out GE225.out) hb); clear HO232; clear BK224; clear BK225; clear HB; have HO232 := n0_; have BK224 := n1_; have BK225 := n2_; have HB := n3_; clear n0_ n1_ n2_ n3_; (try clear hb); (try clear hb2); (try clear hk); (try clear hi); have hcz62_0 : w61.cell? ⟨gb224, 0, none⟩ = some (.int .i64 a0_0) := (blk_cell BK224.out 0).trans rfl; have hcz62_1 : w61.cell? ⟨gb224, 1, none⟩ = some (.slice A0_1 l0_1.length c0_1) := (blk_cell BK224.out 1).trans rfl; have hfz62_0 := blk_frozen BK224.out 0; have hfz62_1 := blk_frozen BK224.out 1; have hcz63_0 : w61.cell? ⟨gb225, 0, none⟩ = some (.int .i64 a2_0) := (blk_cell BK225.out 0).trans rfl; have hcz63_1 : w61.cell? ⟨gb225, 1, none⟩ = some (.int .i64 a2_1) := (blk_cell BK225.out 1).trans rfl; have hfz63_0 := blk_frozen BK225.out 0; have hfz63_1 := blk_frozen BK225.out 1) | ((with_reducible refine gate_callee (f := 28) rfl ?_); refine goesL_ (some 42) rfl rfl Try.func28 (by kernel_rfl) rfl #[.agg #[.int .i64 a0_0, .slice A0_1 l0_1.length c0_1], .slice A1 l1.length c1, .agg #[.int .i64 a2_0, .int .i64 a2_1]] rfl zqE ?_; (with_reducible refine (punch_Add.calls a0_0 _ _ l0_1 _ _ l1 a2_0 a2_1 t235 t236 _ ?side1 ?side2 ?side3 ?side4 A18.out).mono ?_); (case side1 => exact zqK (Kd.C_below HR0_1.out HB.out)); (case side2 => exact HC0_1.out); (case side3 => exact zqK (Kd.C_below HR1.out HB.out)); (case side4 => exact HC1.out); rintro e w64 ⟨rfl, hb⟩; refine ⟨_, rfl, ?_⟩; have n0_ := zA (Kd.R_below (zqC HO232.out) hb); have n1_ := zA (blk_below (g := gb224) (o := .cells #[.int .i64 a0_0, .slice A0_1 l0_1.length c0_1] 24 (0, 0)) (zqB BK224.out) hb); have n2_ := zA (blk_below (g := gb225) (o := .cells #[.int .i64 a2_0, .int .i64 a2_1] 47 (0, 0)) (zqB BK225.out) hb); have n3_ := zA (below_step (zqH HB.out GE224.out GE225.out) hb); clear HO232; clear BK224; clear BK225; clear HB; have HO232 := n0_; have BK224 := n1_; have BK225 := n2_; have HB := n3_; clear n0_ n1_ n2_ n3_; (try clear hb); (try clear hb2); (try clear hk); (try clear hi)))
       have n0_ := zA (Kd.R_drew HO232.out); have n1_ := zA (blk_drew BK224.out); have n2_ := zA (blk_drew BK225.out); have n3_ := zA (below_drew1 HB.out); clear HO232 BK224 BK225 HB; have HO232 := n0_; have BK224 := n1_; have BK225 := n2_; have HB := n3_; clear n0_ n1_ n2_ n3_
       refine start_ (n := 10) (S := fun w' => w'.cell? ⟨gb224, 0, none⟩ = some (.int .i64 a0_0) ∧ w'.cell? ⟨gb224, 1, none⟩ = some (.slice A0_1 l0_1.length c0_1) ∧ w'.cell? ⟨gb225, 0, none⟩ = some (.int .i64 a2_0) ∧ w'.cell? ⟨gb225, 1, none⟩ = some (.int .i64 a2_1)) (ds := []) #[false, false, false, false, false, false, false, false, false, false] (by kernel_rfl) rfl rfl ⟨(blk_cell BK224.out 0).trans rfl, (blk_cell BK224.out 1).trans rfl, (blk_cell BK225.out 0).trans rfl, (blk_cell BK225.out 1).trans rfl⟩ (fun hHeld => ?_); refine with_tabW pianolalaw03_PunchVerifies.tab6 pianolalaw03_PunchVerifies.bits6 (fun HT_ HW_ => ?_)
       generalize w64.drew = w65 at HO232 BK224 BK225 HB hHeld ⊢
       refine pure_ (i := 2) (N := some 48) (v := ?_) (a' := ?_) #[false, false, true, false, false, false, false, false, false, false] rfl rfl (any_of HT_.out (by kernel_rfl)) (fun _ _ _ h => h) (Or.inl ⟨by rfl, ?_⟩) ?_ ?_
       rotate_left
       ·
        intro w'
        go_simp
        with_reducible rfl
       rotate_left
       · simp only [Act.put, setIfInBounds_toArray, set_cons_zero, set_cons_succ, i64_w, i32_w]; rfl
       refine take_ (i := 0) (N := some 46) (v := ?_) (a' := ?_) #[true, false, true, false, false, false, false, false, false, false] rfl rfl (take_ofW HT_.out HW_.out (by kernel_rfl)) (fun _ _ _ h => h) (Or.inl ⟨by rfl, ?_⟩) hHeld ?_ ?_
       rotate_left
       ·
        rintro w' ⟨s0, s1, s2, s3⟩
        go_simp
        with_reducible rfl
       rotate_left
       · simp only [Act.put, setIfInBounds_toArray, set_cons_zero, set_cons_succ, i64_w, i32_w]; rfl
       refine take_ (i := 3) (N := some 49) (v := ?_) (a' := ?_) #[true, false, true, true, false, false, false, false, false, false] rfl rfl (take_ofW HT_.out HW_.out (by kernel_rfl)) (fun _ _ _ h => h) (Or.inl ⟨by rfl, ?_⟩) hHeld ?_ ?_
       rotate_left
       ·
        rintro w' ⟨s0, s1, s2, s3⟩
        go_simp
        with_reducible rfl
       rotate_left
       · simp only [Act.put, setIfInBounds_toArray, set_cons_zero, set_cons_succ, i64_w, i32_w]; rfl
       refine one_ (i := 1) (N := some 47) #[true, true, true, true, false, false, false, false, false, false] rfl rfl (one_of HT_.out (by kernel_rfl)) (by decide) (fun K hK => ?_)
       refine goes_ Try.func18 (by kernel_rfl) rfl #[.agg #[.int .i64 a0_0, .slice A0_1 l0_1.length c0_1]] (by rfl) rfl rfl zqE ?_
       with_reducible refine (pianolalaw03_given.calls kj3 a0_0 _ _ l0_1 t237 t238 _ ?side1 ?side2 A19.out).mono ?_
       (case side1 => exact zqK (Kd.C_below HR0_1.out HB.out))
       (case side2 => exact HC0_1.out)
       rintro e w66 ⟨v239, rfl, ho0, hb⟩
       refine ⟨_, rfl, ?_⟩
       have n0_ := zA (Kd.R_elder' (zqC HO232.out) (Kd.R_base ho0) hb); have n1_ := zA (Kd.R_lower (Kd.R_new' ho0 (Kd.R_lt (zqC HO232.out))) (below_size (zqH HB.out GE224.out GE225.out))); have n2_ := zA (blk_below (g := gb224) (o := .cells #[.int .i64 a0_0, .slice A0_1 l0_1.length c0_1] 24 (0, 0)) (zqB BK224.out) hb); have n3_ := zA (blk_below (g := gb225) (o := .cells #[.int .i64 a2_0, .int .i64 a2_1] 47 (0, 0)) (zqB BK225.out) hb); have n4_ := zA (below_step (zqH HB.out GE224.out GE225.out) hb); clear HO232 BK224 BK225 HB; have HO232 := n0_; have HO240 := n1_; have BK224 := n2_; have BK225 := n3_; have HB := n4_; clear n0_ n1_ n2_ n3_ n4_
       (try clear hb); (try clear hb2); (try clear hk); (try clear hi); (try clear ho0)
       obtain ⟨Ao67, co67, eo67⟩ := Kd.R_slice HO240.out
       (first | subst eo67 | (injection eo67 with f1_ f2_ f3_; have f4_ := f1_.symm; have f5_ := f3_.symm; clear f1_ f2_ f3_; subst f4_; subst f5_))
       refine hK.out _ _ ⟨(blk_cell BK224.out 0).trans rfl, (blk_cell BK224.out 1).trans rfl, (blk_cell BK225.out 0).trans rfl, (blk_cell BK225.out 1).trans rfl⟩ (fun hHeld => ?_)
       clear hK K; refine norm_ (a' := ?_) ?_ ?_; rotate_left
       · show Act.put _ (some 47) _ = _; simp only [Act.put, setIfInBounds_toArray, set_cons_zero, set_cons_succ, i64_w, i32_w]; rfl
       refine one_ (i := 4) (N := some 50) #[true, true, true, true, true, false, false, false, false, false] rfl rfl (one_of HT_.out (by kernel_rfl)) (by decide) (fun K hK => ?_)
       refine goes_ Try.func29 (by kernel_rfl) rfl #[.agg #[.int .i64 t237, .slice Ao67 t238.length co67], .slice A1 l1.length c1, .agg #[.int .i64 a2_0, .int .i64 a2_1]] (by rfl) rfl rfl zqE ?_
       with_reducible refine (pianolaref03_Add.calls kj3 t237 _ _ t238 _ _ l1 a2_0 a2_1 t241 t242 _ ?side1 ?side2 ?side3 ?side4 A20.out).mono ?_
       (case side1 => exact zqK (Kd.R_reads' HO240.out).2.2)
       (case side2 => exact (Kd.R_reads' HO240.out).2.1)
       (case side3 => exact zqK (Kd.C_below HR1.out HB.out))
       (case side4 => exact HC1.out)
       rintro e w68 ⟨rfl, hb⟩
       refine ⟨_, rfl, ?_⟩
       have n0_ := zA (Kd.R_below (zqC HO232.out) hb); have n1_ := zA (Kd.R_below (zqC HO240.out) hb); have n2_ := zA (blk_below (g := gb224) (o := .cells #[.int .i64 a0_0, .slice A0_1 l0_1.length c0_1] 24 (0, 0)) (zqB BK224.out) hb); have n3_ := zA (blk_below (g := gb225) (o := .cells #[.int .i64 a2_0, .int .i64 a2_1] 47 (0, 0)) (zqB BK225.out) hb); have n4_ := zA (below_step (zqH HB.out GE224.out GE225.out) hb); clear HO232 HO240 BK224 BK225 HB; have HO232 := n0_; have HO240 := n1_; have BK224 := n2_; have BK225 := n3_; have HB := n4_; clear n0_ n1_ n2_ n3_ n4_
       (try clear hb); (try clear hb2); (try clear hk); (try clear hi)
       refine hK.out _ _ ⟨(blk_cell BK224.out 0).trans rfl, (blk_cell BK224.out 1).trans rfl, (blk_cell BK225.out 0).trans rfl, (blk_cell BK225.out 1).trans rfl⟩ (fun hHeld => ?_)
       clear hK K; refine norm_ (a' := ?_) ?_ ?_; rotate_left
       · show Act.put _ (some 50) _ = _; simp only [Act.put, setIfInBounds_toArray, set_cons_zero, set_cons_succ, i64_w, i32_w]; rfl
       refine pure_ (i := 5) (N := some 45) (v := ?_) (a' := ?_) #[true, true, true, true, true, true, false, false, false, false] rfl rfl (any_of HT_.out (by kernel_rfl)) (fun _ _ _ h => h) (Or.inl ⟨by rfl, ?_⟩) ?_ ?_
       rotate_left
       ·
        intro w'
        go_simp
        with_reducible rfl
       rotate_left
       · simp only [Act.put, setIfInBounds_toArray, set_cons_zero, set_cons_succ, i64_w, i32_w]; rfl
       refine pure_ (i := 6) (N := some 51) (v := ?_) (a' := ?_) #[true, true, true, true, true, true, true, false, false, false] rfl rfl (any_of HT_.out (by kernel_rfl)) (fun _ _ _ h => h) (Or.inl ⟨by rfl, ?_⟩) ?_ ?_
       rotate_left
       ·
        intro w'
        go_simp
        with_reducible rfl
       rotate_left
       · simp only [Act.put, setIfInBounds_toArray, set_cons_zero, set_cons_succ, i64_w, i32_w]; rfl
       refine pure_ (i := 7) (N := some 52) (v := ?_) (a' := ?_) #[true, true, true, true, true, true, true, true, false, false] rfl rfl (any_of HT_.out (by kernel_rfl)) (fun _ _ _ h => h) (Or.inl ⟨by rfl, ?_⟩) ?_ ?_
       rotate_left
       ·
        intro w'
        go_simp
        with_reducible rfl
       rotate_left
       · simp only [Act.put, setIfInBounds_toArray, set_cons_zero, set_cons_succ, i64_w, i32_w]; rfl
       refine pure_ (i := 8) (N := some 13) (v := ?_) (a' := ?_) #[true, true, true, true, true, true, true, true, true, false] rfl rfl (any_of HT_.out (by kernel_rfl)) (fun _ _ _ h => h) (Or.inl ⟨by rfl, ?_⟩) ?_ ?_
       rotate_left
       ·
        intro w'
        go_simp
        with_reducible rfl
       rotate_left
       · simp only [Act.put, setIfInBounds_toArray, set_cons_zero, set_cons_succ, i64_w, i32_w]; rfl
       refine pure_ (i := 9) (N := some 14) (v := ?_) (a' := ?_) #[true, true, true, true, true, true, true, true, true, true] rfl rfl (any_of HT_.out (by kernel_rfl)) (fun _ _ _ h => h) (Or.inl ⟨by rfl, ?_⟩) ?_ ?_
       rotate_left
       ·
        intro w'
        go_simp
        with_reducible rfl
       rotate_left
       · simp only [Act.put, setIfInBounds_toArray, set_cons_zero, set_cons_succ, i64_w, i32_w]; rfl
       refine done_ (done_of HT_.out (by kernel_rfl)) ?_
       try go_wp2
       go_ret
       exact ⟨zqR, zqH HB.out GE224.out GE225.out⟩
     ·
      rw [if_neg c22] at H
      have c22b0 : (t228 == t234) = false := beq_eq_false_iff_ne.mpr c22
      have c22b1 : (t228 != t234) = true := bne_iff_ne.mpr c22
      obtain rfl := Option.some.inj H
      have hnb69 := NB224_225.out
      have hnc69 := NB225_224.out
      have hcz70_0 : wc.cell? ⟨gb224, 0, none⟩ = some (.int .i64 a0_0) := (blk_cell BK224.out 0).trans rfl
      have hcz70_1 : wc.cell? ⟨gb224, 1, none⟩ = some (.slice A0_1 l0_1.length c0_1) := (blk_cell BK224.out 1).trans rfl
      have hfz70_0 := blk_frozen BK224.out 0
      have hfz70_1 := blk_frozen BK224.out 1
      try go_wp2_with (first | ((with_reducible refine gate_callee (f := 26) rfl ?_); refine goesL_ (some 28) rfl rfl Try.func26 (by kernel_rfl) rfl #[.agg #[.int .i64 a0_0, .slice A0_1 l0_1.length c0_1], .slice A1 l1.length c1] rfl zqE ?_; (with_reducible refine (punch_Verify.calls a0_0 _ _ l0_1 _ _ l1 t227 t228 _ ?side1 ?side2 ?side3 ?side4 A15.out).mono ?_); (case side1 => exact zqK (Kd.C_below HR0_1.out HB.out)); (case side2 => exact HC0_1.out); (case side3 => exact zqK (Kd.C_below HR1.out HB.out)); (case side4 => exact HC1.out); rintro e w71 ⟨rfl, hb⟩; refine ⟨_, rfl, ?_⟩; have n0_ := zA (blk_below (g := gb224) (o := .cells #[.int .i64 a0_0, .slice A0_1 l0_1.length c0_1] 24 (0, 0)) (zqB BK224.out) hb); have n1_ := zA (blk_below (g := gb225) (o := .cells #[.int .i64 a2_0, .int .i64 a2_1] 47 (0, 0)) (zqB BK225.out) hb); have n2_ := zA (below_step (zqH HB.out GE224.out GE225.out) hb); clear BK224; clear BK225; clear HB; have BK224 := n0_; have BK225 := n1_; have HB := n2_; clear n0_ n1_ n2_; (try clear hb); (try clear hb2); (try clear hk); (try clear hi); have hcz72_0 : w71.cell? ⟨gb224, 0, none⟩ = some (.int .i64 a0_0) := (blk_cell BK224.out 0).trans rfl; have hcz72_1 : w71.cell? ⟨gb224, 1, none⟩ = some (.slice A0_1 l0_1.length c0_1) := (blk_cell BK224.out 1).trans rfl; have hfz72_0 := blk_frozen BK224.out 0; have hfz72_1 := blk_frozen BK224.out 1) | ((with_reducible refine gate_callee (f := 18) rfl ?_); refine goesL_ (some 33) rfl rfl Try.func18 (by kernel_rfl) rfl #[.agg #[.int .i64 a0_0, .slice A0_1 l0_1.length c0_1]] rfl zqE ?_; (with_reducible refine (pianolalaw03_given.calls kj3 a0_0 _ _ l0_1 t229 t230 _ ?side1 ?side2 A16.out).mono ?_); (case side1 => exact zqK (Kd.C_below HR0_1.out HB.out)); (case side2 => exact HC0_1.out); rintro e w73 ⟨v231, rfl, ho0, hb⟩; refine ⟨_, rfl, ?_⟩; have n0_ := zA (Kd.R_lower ho0 (below_size (zqH HB.out GE224.out GE225.out))); have n1_ := zA (blk_below (g := gb224) (o := .cells #[.int .i64 a0_0, .slice A0_1 l0_1.length c0_1] 24 (0, 0)) (zqB BK224.out) hb); have n2_ := zA (blk_below (g := gb225) (o := .cells #[.int .i64 a2_0, .int .i64 a2_1] 47 (0, 0)) (zqB BK225.out) hb); have n3_ := zA (below_step (zqH HB.out GE224.out GE225.out) hb); clear BK224; clear BK225; clear HB; have HO232 := n0_; have BK224 := n1_; have BK225 := n2_; have HB := n3_; clear n0_ n1_ n2_ n3_; (try clear hb); (try clear hb2); (try clear hk); (try clear hi); (try clear ho0); obtain ⟨Ao74, co74, eo74⟩ := Kd.R_slice HO232.out; subst eo74) | ((with_reducible refine gate_callee (f := 27) rfl ?_); refine goesL_ (some 35) rfl rfl Try.func27 (by kernel_rfl) rfl #[.agg #[.int .i64 t229, .slice Ao74 t230.length co74], .slice A1 l1.length c1] rfl zqE ?_; (with_reducible refine (pianolaref03_Verify.calls kj3 t229 _ _ t230 _ _ l1 t233 t234 _ ?side1 ?side2 ?side3 ?side4 A17.out).mono ?_); (case side1 => exact zqK (Kd.R_reads' HO232.out).2.2); (case side2 => exact (Kd.R_reads' HO232.out).2.1); (case side3 => exact zqK (Kd.C_below HR1.out HB.out)); (case side4 => exact HC1.out); rintro e w75 ⟨rfl, hb⟩; refine ⟨_, rfl, ?_⟩; have n0_ := zA (Kd.R_below (zqC HO232.out) hb); have n1_ := zA (blk_below (g := gb224) (o := .cells #[.int .i64 a0_0, .slice A0_1 l0_1.length c0_1] 24 (0, 0)) (zqB BK224.out) hb); have n2_ := zA (blk_below (g := gb225) (o := .cells #[.int .i64 a2_0, .int .i64 a2_1] 47 (0, 0)) (zqB BK225.out) hb); have n3_ := zA (below_step (zqH HB.out GE224.out GE225.out) hb); clear HO232; clear BK224; clear BK225; clear HB; have HO232 := n0_; have BK224 := n1_; have BK225 := n2_; have HB := n3_; clear n0_ n1_ n2_ n3_; (try clear hb); (try clear hb2); (try clear hk); (try clear hi); have hcz76_0 : w75.cell? ⟨gb224, 0, none⟩ = some (.int .i64 a0_0) := (blk_cell BK224.out 0).trans rfl; have hcz76_1 : w75.cell? ⟨gb224, 1, none⟩ = some (.slice A0_1 l0_1.length c0_1) := (blk_cell BK224.out 1).trans rfl; have hfz76_0 := blk_frozen BK224.out 0; have hfz76_1 := blk_frozen BK224.out 1; have hcz77_0 : w75.cell? ⟨gb225, 0, none⟩ = some (.int .i64 a2_0) := (blk_cell BK225.out 0).trans rfl; have hcz77_1 : w75.cell? ⟨gb225, 1, none⟩ = some (.int .i64 a2_1) := (blk_cell BK225.out 1).trans rfl; have hfz77_0 := blk_frozen BK225.out 0; have hfz77_1 := blk_frozen BK225.out 1) | ((with_reducible refine gate_callee (f := 28) rfl ?_); refine goesL_ (some 42) rfl rfl Try.func28 (by kernel_rfl) rfl #[.agg #[.int .i64 a0_0, .slice A0_1 l0_1.length c0_1], .slice A1 l1.length c1, .agg #[.int .i64 a2_0, .int .i64 a2_1]] rfl zqE ?_; (with_reducible refine (punch_Add.calls a0_0 _ _ l0_1 _ _ l1 a2_0 a2_1 t235 t236 _ ?side1 ?side2 ?side3 ?side4 A18.out).mono ?_); (case side1 => exact zqK (Kd.C_below HR0_1.out HB.out)); (case side2 => exact HC0_1.out); (case side3 => exact zqK (Kd.C_below HR1.out HB.out)); (case side4 => exact HC1.out); rintro e w78 ⟨rfl, hb⟩; refine ⟨_, rfl, ?_⟩; have n0_ := zA (Kd.R_below (zqC HO232.out) hb); have n1_ := zA (blk_below (g := gb224) (o := .cells #[.int .i64 a0_0, .slice A0_1 l0_1.length c0_1] 24 (0, 0)) (zqB BK224.out) hb); have n2_ := zA (blk_below (g := gb225) (o := .cells #[.int .i64 a2_0, .int .i64 a2_1] 47 (0, 0)) (zqB BK225.out) hb); have n3_ := zA (below_step (zqH HB.out GE224.out GE225.out) hb); clear HO232; clear BK224; clear BK225; clear HB; have HO232 := n0_; have BK224 := n1_; have BK225 := n2_; have HB := n3_; clear n0_ n1_ n2_ n3_; (try clear hb); (try clear hb2); (try clear hk); (try clear hi)))
      have n0_ := zA (Kd.R_drew HO232.out); have n1_ := zA (blk_drew BK224.out); have n2_ := zA (blk_drew BK225.out); have n3_ := zA (below_drew1 HB.out); clear HO232 BK224 BK225 HB; have HO232 := n0_; have BK224 := n1_; have BK225 := n2_; have HB := n3_; clear n0_ n1_ n2_ n3_
      refine start_ (n := 10) (S := fun w' => w'.cell? ⟨gb224, 0, none⟩ = some (.int .i64 a0_0) ∧ w'.cell? ⟨gb224, 1, none⟩ = some (.slice A0_1 l0_1.length c0_1) ∧ w'.cell? ⟨gb225, 0, none⟩ = some (.int .i64 a2_0) ∧ w'.cell? ⟨gb225, 1, none⟩ = some (.int .i64 a2_1)) (ds := []) #[false, false, false, false, false, false, false, false, false, false] (by kernel_rfl) rfl rfl ⟨(blk_cell BK224.out 0).trans rfl, (blk_cell BK224.out 1).trans rfl, (blk_cell BK225.out 0).trans rfl, (blk_cell BK225.out 1).trans rfl⟩ (fun hHeld => ?_); refine with_tabW pianolalaw03_PunchVerifies.tab6 pianolalaw03_PunchVerifies.bits6 (fun HT_ HW_ => ?_)
      generalize w78.drew = w79 at HO232 BK224 BK225 HB hHeld ⊢
      refine pure_ (i := 2) (N := some 48) (v := ?_) (a' := ?_) #[false, false, true, false, false, false, false, false, false, false] rfl rfl (any_of HT_.out (by kernel_rfl)) (fun _ _ _ h => h) (Or.inl ⟨by rfl, ?_⟩) ?_ ?_
      rotate_left
      ·
       intro w'
       go_simp
       with_reducible rfl
      rotate_left
      · simp only [Act.put, setIfInBounds_toArray, set_cons_zero, set_cons_succ, i64_w, i32_w]; rfl
      refine take_ (i := 0) (N := some 46) (v := ?_) (a' := ?_) #[true, false, true, false, false, false, false, false, false, false] rfl rfl (take_ofW HT_.out HW_.out (by kernel_rfl)) (fun _ _ _ h => h) (Or.inl ⟨by rfl, ?_⟩) hHeld ?_ ?_
      rotate_left
      ·
       rintro w' ⟨s0, s1, s2, s3⟩
       go_simp
       with_reducible rfl
      rotate_left
      · simp only [Act.put, setIfInBounds_toArray, set_cons_zero, set_cons_succ, i64_w, i32_w]; rfl
      refine take_ (i := 3) (N := some 49) (v := ?_) (a' := ?_) #[true, false, true, true, false, false, false, false, false, false] rfl rfl (take_ofW HT_.out HW_.out (by kernel_rfl)) (fun _ _ _ h => h) (Or.inl ⟨by rfl, ?_⟩) hHeld ?_ ?_
      rotate_left
      ·
       rintro w' ⟨s0, s1, s2, s3⟩
       go_simp
       with_reducible rfl
      rotate_left
      · simp only [Act.put, setIfInBounds_toArray, set_cons_zero, set_cons_succ, i64_w, i32_w]; rfl
      refine one_ (i := 1) (N := some 47) #[true, true, true, true, false, false, false, false, false, false] rfl rfl (one_of HT_.out (by kernel_rfl)) (by decide) (fun K hK => ?_)
      refine goes_ Try.func18 (by kernel_rfl) rfl #[.agg #[.int .i64 a0_0, .slice A0_1 l0_1.length c0_1]] (by rfl) rfl rfl zqE ?_
      with_reducible refine (pianolalaw03_given.calls kj3 a0_0 _ _ l0_1 t237 t238 _ ?side1 ?side2 A19.out).mono ?_
      (case side1 => exact zqK (Kd.C_below HR0_1.out HB.out))
      (case side2 => exact HC0_1.out)
      rintro e w80 ⟨v239, rfl, ho0, hb⟩
      refine ⟨_, rfl, ?_⟩
      have n0_ := zA (Kd.R_elder' (zqC HO232.out) (Kd.R_base ho0) hb); have n1_ := zA (Kd.R_lower (Kd.R_new' ho0 (Kd.R_lt (zqC HO232.out))) (below_size (zqH HB.out GE224.out GE225.out))); have n2_ := zA (blk_below (g := gb224) (o := .cells #[.int .i64 a0_0, .slice A0_1 l0_1.length c0_1] 24 (0, 0)) (zqB BK224.out) hb); have n3_ := zA (blk_below (g := gb225) (o := .cells #[.int .i64 a2_0, .int .i64 a2_1] 47 (0, 0)) (zqB BK225.out) hb); have n4_ := zA (below_step (zqH HB.out GE224.out GE225.out) hb); clear HO232 BK224 BK225 HB; have HO232 := n0_; have HO240 := n1_; have BK224 := n2_; have BK225 := n3_; have HB := n4_; clear n0_ n1_ n2_ n3_ n4_
      (try clear hb); (try clear hb2); (try clear hk); (try clear hi); (try clear ho0)
      obtain ⟨Ao81, co81, eo81⟩ := Kd.R_slice HO240.out
      (first | subst eo81 | (injection eo81 with f1_ f2_ f3_; have f4_ := f1_.symm; have f5_ := f3_.symm; clear f1_ f2_ f3_; subst f4_; subst f5_))
      refine hK.out _ _ ⟨(blk_cell BK224.out 0).trans rfl, (blk_cell BK224.out 1).trans rfl, (blk_cell BK225.out 0).trans rfl, (blk_cell BK225.out 1).trans rfl⟩ (fun hHeld => ?_)
      clear hK K; refine norm_ (a' := ?_) ?_ ?_; rotate_left
      · show Act.put _ (some 47) _ = _; simp only [Act.put, setIfInBounds_toArray, set_cons_zero, set_cons_succ, i64_w, i32_w]; rfl
      refine one_ (i := 4) (N := some 50) #[true, true, true, true, true, false, false, false, false, false] rfl rfl (one_of HT_.out (by kernel_rfl)) (by decide) (fun K hK => ?_)
      refine goes_ Try.func29 (by kernel_rfl) rfl #[.agg #[.int .i64 t237, .slice Ao81 t238.length co81], .slice A1 l1.length c1, .agg #[.int .i64 a2_0, .int .i64 a2_1]] (by rfl) rfl rfl zqE ?_
      with_reducible refine (pianolaref03_Add.calls kj3 t237 _ _ t238 _ _ l1 a2_0 a2_1 t241 t242 _ ?side1 ?side2 ?side3 ?side4 A20.out).mono ?_
      (case side1 => exact zqK (Kd.R_reads' HO240.out).2.2)
      (case side2 => exact (Kd.R_reads' HO240.out).2.1)
      (case side3 => exact zqK (Kd.C_below HR1.out HB.out))
      (case side4 => exact HC1.out)
      rintro e w82 ⟨rfl, hb⟩
      refine ⟨_, rfl, ?_⟩
      have n0_ := zA (Kd.R_below (zqC HO232.out) hb); have n1_ := zA (Kd.R_below (zqC HO240.out) hb); have n2_ := zA (blk_below (g := gb224) (o := .cells #[.int .i64 a0_0, .slice A0_1 l0_1.length c0_1] 24 (0, 0)) (zqB BK224.out) hb); have n3_ := zA (blk_below (g := gb225) (o := .cells #[.int .i64 a2_0, .int .i64 a2_1] 47 (0, 0)) (zqB BK225.out) hb); have n4_ := zA (below_step (zqH HB.out GE224.out GE225.out) hb); clear HO232 HO240 BK224 BK225 HB; have HO232 := n0_; have HO240 := n1_; have BK224 := n2_; have BK225 := n3_; have HB := n4_; clear n0_ n1_ n2_ n3_ n4_
      (try clear hb); (try clear hb2); (try clear hk); (try clear hi)
      refine hK.out _ _ ⟨(blk_cell BK224.out 0).trans rfl, (blk_cell BK224.out 1).trans rfl, (blk_cell BK225.out 0).trans rfl, (blk_cell BK225.out 1).trans rfl⟩ (fun hHeld => ?_)
      clear hK K; refine norm_ (a' := ?_) ?_ ?_; rotate_left
      · show Act.put _ (some 50) _ = _; simp only [Act.put, setIfInBounds_toArray, set_cons_zero, set_cons_succ, i64_w, i32_w]; rfl
      refine pure_ (i := 5) (N := some 45) (v := ?_) (a' := ?_) #[true, true, true, true, true, true, false, false, false, false] rfl rfl (any_of HT_.out (by kernel_rfl)) (fun _ _ _ h => h) (Or.inl ⟨by rfl, ?_⟩) ?_ ?_
      rotate_left
      ·
       intro w'
       go_simp
       with_reducible rfl
      rotate_left
      · simp only [Act.put, setIfInBounds_toArray, set_cons_zero, set_cons_succ, i64_w, i32_w]; rfl
      refine pure_ (i := 6) (N := some 51) (v := ?_) (a' := ?_) #[true, true, true, true, true, true, true, false, false, false] rfl rfl (any_of HT_.out (by kernel_rfl)) (fun _ _ _ h => h) (Or.inl ⟨by rfl, ?_⟩) ?_ ?_
      rotate_left
      ·
       intro w'
       go_simp
       with_reducible rfl
      rotate_left
      · simp only [Act.put, setIfInBounds_toArray, set_cons_zero, set_cons_succ, i64_w, i32_w]; rfl
      refine pure_ (i := 7) (N := some 52) (v := ?_) (a' := ?_) #[true, true, true, true, true, true, true, true, false, false] rfl rfl (any_of HT_.out (by kernel_rfl)) (fun _ _ _ h => h) (Or.inl ⟨by rfl, ?_⟩) ?_ ?_
      rotate_left
      ·
       intro w'
       go_simp
       with_reducible rfl
      rotate_left
      · simp only [Act.put, setIfInBounds_toArray, set_cons_zero, set_cons_succ, i64_w, i32_w]; rfl
      refine pure_ (i := 8) (N := some 13) (v := ?_) (a' := ?_) #[true, true, true, true, true, true, true, true, true, false] rfl rfl (any_of HT_.out (by kernel_rfl)) (fun _ _ _ h => h) (Or.inl ⟨by rfl, ?_⟩) ?_ ?_
      rotate_left
      ·
       intro w'
       go_simp
       with_reducible rfl
      rotate_left
      · simp only [Act.put, setIfInBounds_toArray, set_cons_zero, set_cons_succ, i64_w, i32_w]; rfl
      refine pure_ (i := 9) (N := some 14) (v := ?_) (a' := ?_) #[true, true, true, true, true, true, true, true, true, true] rfl rfl (any_of HT_.out (by kernel_rfl)) (fun _ _ _ h => h) (Or.inl ⟨by rfl, ?_⟩) ?_ ?_
      rotate_left
      ·
       intro w'
       go_simp
       with_reducible rfl
      rotate_left
      · simp only [Act.put, setIfInBounds_toArray, set_cons_zero, set_cons_succ, i64_w, i32_w]; rfl
      refine done_ (done_of HT_.out (by kernel_rfl)) ?_
      try go_wp2
      go_ret
      exact ⟨zqR, zqH HB.out GE224.out GE225.out⟩
    ·
     rw [if_neg c21] at H
     have c21b0 : (t227 == t233) = false := beq_eq_false_iff_ne.mpr c21
     have c21b1 : (t227 != t233) = true := bne_iff_ne.mpr c21
     obtain rfl := Option.some.inj H
     have hnb83 := NB224_225.out
     have hnc83 := NB225_224.out
     have hcz84_0 : wc.cell? ⟨gb224, 0, none⟩ = some (.int .i64 a0_0) := (blk_cell BK224.out 0).trans rfl
     have hcz84_1 : wc.cell? ⟨gb224, 1, none⟩ = some (.slice A0_1 l0_1.length c0_1) := (blk_cell BK224.out 1).trans rfl
     have hfz84_0 := blk_frozen BK224.out 0
     have hfz84_1 := blk_frozen BK224.out 1
     try go_wp2_with (first | ((with_reducible refine gate_callee (f := 26) rfl ?_); refine goesL_ (some 28) rfl rfl Try.func26 (by kernel_rfl) rfl #[.agg #[.int .i64 a0_0, .slice A0_1 l0_1.length c0_1], .slice A1 l1.length c1] rfl zqE ?_; (with_reducible refine (punch_Verify.calls a0_0 _ _ l0_1 _ _ l1 t227 t228 _ ?side1 ?side2 ?side3 ?side4 A15.out).mono ?_); (case side1 => exact zqK (Kd.C_below HR0_1.out HB.out)); (case side2 => exact HC0_1.out); (case side3 => exact zqK (Kd.C_below HR1.out HB.out)); (case side4 => exact HC1.out); rintro e w85 ⟨rfl, hb⟩; refine ⟨_, rfl, ?_⟩; have n0_ := zA (blk_below (g := gb224) (o := .cells #[.int .i64 a0_0, .slice A0_1 l0_1.length c0_1] 24 (0, 0)) (zqB BK224.out) hb); have n1_ := zA (blk_below (g := gb225) (o := .cells #[.int .i64 a2_0, .int .i64 a2_1] 47 (0, 0)) (zqB BK225.out) hb); have n2_ := zA (below_step (zqH HB.out GE224.out GE225.out) hb); clear BK224; clear BK225; clear HB; have BK224 := n0_; have BK225 := n1_; have HB := n2_; clear n0_ n1_ n2_; (try clear hb); (try clear hb2); (try clear hk); (try clear hi); have hcz86_0 : w85.cell? ⟨gb224, 0, none⟩ = some (.int .i64 a0_0) := (blk_cell BK224.out 0).trans rfl; have hcz86_1 : w85.cell? ⟨gb224, 1, none⟩ = some (.slice A0_1 l0_1.length c0_1) := (blk_cell BK224.out 1).trans rfl; have hfz86_0 := blk_frozen BK224.out 0; have hfz86_1 := blk_frozen BK224.out 1) | ((with_reducible refine gate_callee (f := 18) rfl ?_); refine goesL_ (some 33) rfl rfl Try.func18 (by kernel_rfl) rfl #[.agg #[.int .i64 a0_0, .slice A0_1 l0_1.length c0_1]] rfl zqE ?_; (with_reducible refine (pianolalaw03_given.calls kj3 a0_0 _ _ l0_1 t229 t230 _ ?side1 ?side2 A16.out).mono ?_); (case side1 => exact zqK (Kd.C_below HR0_1.out HB.out)); (case side2 => exact HC0_1.out); rintro e w87 ⟨v231, rfl, ho0, hb⟩; refine ⟨_, rfl, ?_⟩; have n0_ := zA (Kd.R_lower ho0 (below_size (zqH HB.out GE224.out GE225.out))); have n1_ := zA (blk_below (g := gb224) (o := .cells #[.int .i64 a0_0, .slice A0_1 l0_1.length c0_1] 24 (0, 0)) (zqB BK224.out) hb); have n2_ := zA (blk_below (g := gb225) (o := .cells #[.int .i64 a2_0, .int .i64 a2_1] 47 (0, 0)) (zqB BK225.out) hb); have n3_ := zA (below_step (zqH HB.out GE224.out GE225.out) hb); clear BK224; clear BK225; clear HB; have HO232 := n0_; have BK224 := n1_; have BK225 := n2_; have HB := n3_; clear n0_ n1_ n2_ n3_; (try clear hb); (try clear hb2); (try clear hk); (try clear hi); (try clear ho0); obtain ⟨Ao88, co88, eo88⟩ := Kd.R_slice HO232.out; subst eo88) | ((with_reducible refine gate_callee (f := 27) rfl ?_); refine goesL_ (some 35) rfl rfl Try.func27 (by kernel_rfl) rfl #[.agg #[.int .i64 t229, .slice Ao88 t230.length co88], .slice A1 l1.length c1] rfl zqE ?_; (with_reducible refine (pianolaref03_Verify.calls kj3 t229 _ _ t230 _ _ l1 t233 t234 _ ?side1 ?side2 ?side3 ?side4 A17.out).mono ?_); (case side1 => exact zqK (Kd.R_reads' HO232.out).2.2); (case side2 => exact (Kd.R_reads' HO232.out).2.1); (case side3 => exact zqK (Kd.C_below HR1.out HB.out)); (case side4 => exact HC1.out); rintro e w89 ⟨rfl, hb⟩; refine ⟨_, rfl, ?_⟩; have n0_ := zA (Kd.R_below (zqC HO232.out) hb); have n1_ := zA (blk_below (g := gb224) (o := .cells #[.int .i64 a0_0, .slice A0_1 l0_1.length c0_1] 24 (0, 0)) (zqB BK224.out) hb); have n2_ := zA (blk_below (g := gb225) (o := .cells #[.int .i64 a2_0, .int .i64 a2_1] 47 (0, 0)) (zqB BK225.out) hb); have n3_ := zA (below_step (zqH HB.out GE224.out GE225.out) hb); clear HO232; clear BK224; clear BK225; clear HB; have HO232 := n0_; have BK224 := n1_; have BK225 := n2_; have HB := n3_; clear n0_ n1_ n2_ n3_; (try clear hb); (try clear hb2); (try clear hk); (try clear hi); have hcz90_0 : w89.cell? ⟨gb224, 0, none⟩ = some (.int .i64 a0_0) := (blk_cell BK224.out 0).trans rfl; have hcz90_1 : w89.cell? ⟨gb224, 1, none⟩ = some (.slice A0_1 l0_1.length c0_1) := (blk_cell BK224.out 1).trans rfl; have hfz90_0 := blk_frozen BK224.out 0; have hfz90_1 := blk_frozen BK224.out 1; have hcz91_0 : w89.cell? ⟨gb225, 0, none⟩ = some (.int .i64 a2_0) := (blk_cell BK225.out 0).trans rfl; have hcz91_1 : w89.cell? ⟨gb225, 1, none⟩ = some (.int .i64 a2_1) := (blk_cell BK225.out 1).trans rfl; have hfz91_0 := blk_frozen BK225.out 0; have hfz91_1 := blk_frozen BK225.out 1) | ((with_reducible refine gate_callee (f := 28) rfl ?_); refine goesL_ (some 42) rfl rfl Try.func28 (by kernel_rfl) rfl #[.agg #[.int .i64 a0_0, .slice A0_1 l0_1.length c0_1], .slice A1 l1.length c1, .agg #[.int .i64 a2_0, .int .i64 a2_1]] rfl zqE ?_; (with_reducible refine (punch_Add.calls a0_0 _ _ l0_1 _ _ l1 a2_0 a2_1 t235 t236 _ ?side1 ?side2 ?side3 ?side4 A18.out).mono ?_); (case side1 => exact zqK (Kd.C_below HR0_1.out HB.out)); (case side2 => exact HC0_1.out); (case side3 => exact zqK (Kd.C_below HR1.out HB.out)); (case side4 => exact HC1.out); rintro e w92 ⟨rfl, hb⟩; refine ⟨_, rfl, ?_⟩; have n0_ := zA (Kd.R_below (zqC HO232.out) hb); have n1_ := zA (blk_below (g := gb224) (o := .cells #[.int .i64 a0_0, .slice A0_1 l0_1.length c0_1] 24 (0, 0)) (zqB BK224.out) hb); have n2_ := zA (blk_below (g := gb225) (o := .cells #[.int .i64 a2_0, .int .i64 a2_1] 47 (0, 0)) (zqB BK225.out) hb); have n3_ := zA (below_step (zqH HB.out GE224.out GE225.out) hb); clear HO232; clear BK224; clear BK225; clear HB; have HO232 := n0_; have BK224 := n1_; have BK225 := n2_; have HB := n3_; clear n0_ n1_ n2_ n3_; (try clear hb); (try clear hb2); (try clear hk); (try clear hi)))
     have n0_ := zA (Kd.R_drew HO232.out); have n1_ := zA (blk_drew BK224.out); have n2_ := zA (blk_drew BK225.out); have n3_ := zA (below_drew1 HB.out); clear HO232 BK224 BK225 HB; have HO232 := n0_; have BK224 := n1_; have BK225 := n2_; have HB := n3_; clear n0_ n1_ n2_ n3_
     refine start_ (n := 10) (S := fun w' => w'.cell? ⟨gb224, 0, none⟩ = some (.int .i64 a0_0) ∧ w'.cell? ⟨gb224, 1, none⟩ = some (.slice A0_1 l0_1.length c0_1) ∧ w'.cell? ⟨gb225, 0, none⟩ = some (.int .i64 a2_0) ∧ w'.cell? ⟨gb225, 1, none⟩ = some (.int .i64 a2_1)) (ds := []) #[false, false, false, false, false, false, false, false, false, false] (by kernel_rfl) rfl rfl ⟨(blk_cell BK224.out 0).trans rfl, (blk_cell BK224.out 1).trans rfl, (blk_cell BK225.out 0).trans rfl, (blk_cell BK225.out 1).trans rfl⟩ (fun hHeld => ?_); refine with_tabW pianolalaw03_PunchVerifies.tab6 pianolalaw03_PunchVerifies.bits6 (fun HT_ HW_ => ?_)
     generalize w92.drew = w93 at HO232 BK224 BK225 HB hHeld ⊢
     refine pure_ (i := 2) (N := some 48) (v := ?_) (a' := ?_) #[false, false, true, false, false, false, false, false, false, false] rfl rfl (any_of HT_.out (by kernel_rfl)) (fun _ _ _ h => h) (Or.inl ⟨by rfl, ?_⟩) ?_ ?_
     rotate_left
     ·
      intro w'
      go_simp
      with_reducible rfl
     rotate_left
     · simp only [Act.put, setIfInBounds_toArray, set_cons_zero, set_cons_succ, i64_w, i32_w]; rfl
     refine take_ (i := 0) (N := some 46) (v := ?_) (a' := ?_) #[true, false, true, false, false, false, false, false, false, false] rfl rfl (take_ofW HT_.out HW_.out (by kernel_rfl)) (fun _ _ _ h => h) (Or.inl ⟨by rfl, ?_⟩) hHeld ?_ ?_
     rotate_left
     ·
      rintro w' ⟨s0, s1, s2, s3⟩
      go_simp
      with_reducible rfl
     rotate_left
     · simp only [Act.put, setIfInBounds_toArray, set_cons_zero, set_cons_succ, i64_w, i32_w]; rfl
     refine take_ (i := 3) (N := some 49) (v := ?_) (a' := ?_) #[true, false, true, true, false, false, false, false, false, false] rfl rfl (take_ofW HT_.out HW_.out (by kernel_rfl)) (fun _ _ _ h => h) (Or.inl ⟨by rfl, ?_⟩) hHeld ?_ ?_
     rotate_left
     ·
      rintro w' ⟨s0, s1, s2, s3⟩
      go_simp
      with_reducible rfl
     rotate_left
     · simp only [Act.put, setIfInBounds_toArray, set_cons_zero, set_cons_succ, i64_w, i32_w]; rfl
     refine one_ (i := 1) (N := some 47) #[true, true, true, true, false, false, false, false, false, false] rfl rfl (one_of HT_.out (by kernel_rfl)) (by decide) (fun K hK => ?_)
     refine goes_ Try.func18 (by kernel_rfl) rfl #[.agg #[.int .i64 a0_0, .slice A0_1 l0_1.length c0_1]] (by rfl) rfl rfl zqE ?_
     with_reducible refine (pianolalaw03_given.calls kj3 a0_0 _ _ l0_1 t237 t238 _ ?side1 ?side2 A19.out).mono ?_
     (case side1 => exact zqK (Kd.C_below HR0_1.out HB.out))
     (case side2 => exact HC0_1.out)
     rintro e w94 ⟨v239, rfl, ho0, hb⟩
     refine ⟨_, rfl, ?_⟩
     have n0_ := zA (Kd.R_elder' (zqC HO232.out) (Kd.R_base ho0) hb); have n1_ := zA (Kd.R_lower (Kd.R_new' ho0 (Kd.R_lt (zqC HO232.out))) (below_size (zqH HB.out GE224.out GE225.out))); have n2_ := zA (blk_below (g := gb224) (o := .cells #[.int .i64 a0_0, .slice A0_1 l0_1.length c0_1] 24 (0, 0)) (zqB BK224.out) hb); have n3_ := zA (blk_below (g := gb225) (o := .cells #[.int .i64 a2_0, .int .i64 a2_1] 47 (0, 0)) (zqB BK225.out) hb); have n4_ := zA (below_step (zqH HB.out GE224.out GE225.out) hb); clear HO232 BK224 BK225 HB; have HO232 := n0_; have HO240 := n1_; have BK224 := n2_; have BK225 := n3_; have HB := n4_; clear n0_ n1_ n2_ n3_ n4_
     (try clear hb); (try clear hb2); (try clear hk); (try clear hi); (try clear ho0)
     obtain ⟨Ao95, co95, eo95⟩ := Kd.R_slice HO240.out
     (first | subst eo95 | (injection eo95 with f1_ f2_ f3_; have f4_ := f1_.symm; have f5_ := f3_.symm; clear f1_ f2_ f3_; subst f4_; subst f5_))
     refine hK.out _ _ ⟨(blk_cell BK224.out 0).trans rfl, (blk_cell BK224.out 1).trans rfl, (blk_cell BK225.out 0).trans rfl, (blk_cell BK225.out 1).trans rfl⟩ (fun hHeld => ?_)
     clear hK K; refine norm_ (a' := ?_) ?_ ?_; rotate_left
     · show Act.put _ (some 47) _ = _; simp only [Act.put, setIfInBounds_toArray, set_cons_zero, set_cons_succ, i64_w, i32_w]; rfl
     refine one_ (i := 4) (N := some 50) #[true, true, true, true, true, false, false, false, false, false] rfl rfl (one_of HT_.out (by kernel_rfl)) (by decide) (fun K hK => ?_)
     refine goes_ Try.func29 (by kernel_rfl) rfl #[.agg #[.int .i64 t237, .slice Ao95 t238.length co95], .slice A1 l1.length c1, .agg #[.int .i64 a2_0, .int .i64 a2_1]] (by rfl) rfl rfl zqE ?_
     with_reducible refine (pianolaref03_Add.calls kj3 t237 _ _ t238 _ _ l1 a2_0 a2_1 t241 t242 _ ?side1 ?side2 ?side3 ?side4 A20.out).mono ?_
     (case side1 => exact zqK (Kd.R_reads' HO240.out).2.2)
     (case side2 => exact (Kd.R_reads' HO240.out).2.1)
     (case side3 => exact zqK (Kd.C_below HR1.out HB.out))
     (case side4 => exact HC1.out)
     rintro e w96 ⟨rfl, hb⟩
     refine ⟨_, rfl, ?_⟩
     have n0_ := zA (Kd.R_below (zqC HO232.out) hb); have n1_ := zA (Kd.R_below (zqC HO240.out) hb); have n2_ := zA (blk_below (g := gb224) (o := .cells #[.int .i64 a0_0, .slice A0_1 l0_1.length c0_1] 24 (0, 0)) (zqB BK224.out) hb); have n3_ := zA (blk_below (g := gb225) (o := .cells #[.int .i64 a2_0, .int .i64 a2_1] 47 (0, 0)) (zqB BK225.out) hb); have n4_ := zA (below_step (zqH HB.out GE224.out GE225.out) hb); clear HO232 HO240 BK224 BK225 HB; have HO232 := n0_; have HO240 := n1_; have BK224 := n2_; have BK225 := n3_; have HB := n4_; clear n0_ n1_ n2_ n3_ n4_
     (try clear hb); (try clear hb2); (try clear hk); (try clear hi)
     refine hK.out _ _ ⟨(blk_cell BK224.out 0).trans rfl, (blk_cell BK224.out 1).trans rfl, (blk_cell BK225.out 0).trans rfl, (blk_cell BK225.out 1).trans rfl⟩ (fun hHeld => ?_)
     clear hK K; refine norm_ (a' := ?_) ?_ ?_; rotate_left
     · show Act.put _ (some 50) _ = _; simp only [Act.put, setIfInBounds_toArray, set_cons_zero, set_cons_succ, i64_w, i32_w]; rfl
     refine pure_ (i := 5) (N := some 45) (v := ?_) (a' := ?_) #[true, true, true, true, true, true, false, false, false, false] rfl rfl (any_of HT_.out (by kernel_rfl)) (fun _ _ _ h => h) (Or.inl ⟨by rfl, ?_⟩) ?_ ?_
     rotate_left
     ·
      intro w'
      go_simp
      with_reducible rfl
     rotate_left
     · simp only [Act.put, setIfInBounds_toArray, set_cons_zero, set_cons_succ, i64_w, i32_w]; rfl
     refine pure_ (i := 6) (N := some 51) (v := ?_) (a' := ?_) #[true, true, true, true, true, true, true, false, false, false] rfl rfl (any_of HT_.out (by kernel_rfl)) (fun _ _ _ h => h) (Or.inl ⟨by rfl, ?_⟩) ?_ ?_
     rotate_left
     ·
      intro w'
      go_simp
      with_reducible rfl
     rotate_left
     · simp only [Act.put, setIfInBounds_toArray, set_cons_zero, set_cons_succ, i64_w, i32_w]; rfl
     refine pure_ (i := 7) (N := some 52) (v := ?_) (a' := ?_) #[true, true, true, true, true, true, true, true, false, false] rfl rfl (any_of HT_.out (by kernel_rfl)) (fun _ _ _ h => h) (Or.inl ⟨by rfl, ?_⟩) ?_ ?_
     rotate_left
     ·
      intro w'
      go_simp
      with_reducible rfl
     rotate_left
     · simp only [Act.put, setIfInBounds_toArray, set_cons_zero, set_cons_succ, i64_w, i32_w]; rfl
     refine pure_ (i := 8) (N := some 13) (v := ?_) (a' := ?_) #[true, true, true, true, true, true, true, true, true, false] rfl rfl (any_of HT_.out (by kernel_rfl)) (fun _ _ _ h => h) (Or.inl ⟨by rfl, ?_⟩) ?_ ?_
     rotate_left
     ·
      intro w'
      go_simp
      with_reducible rfl
     rotate_left
     · simp only [Act.put, setIfInBounds_toArray, set_cons_zero, set_cons_succ, i64_w, i32_w]; rfl
     refine pure_ (i := 9) (N := some 14) (v := ?_) (a' := ?_) #[true, true, true, true, true, true, true, true, true, true] rfl rfl (any_of HT_.out (by kernel_rfl)) (fun _ _ _ h => h) (Or.inl ⟨by rfl, ?_⟩) ?_ ?_
     rotate_left
     ·
      intro w'
      go_simp
      with_reducible rfl
     rotate_left
     · simp only [Act.put, setIfInBounds_toArray, set_cons_zero, set_cons_succ, i64_w, i32_w]; rfl
     refine done_ (done_of HT_.out (by kernel_rfl)) ?_
     try go_wp2
     go_ret
     exact ⟨zqR, zqH HB.out GE224.out GE225.out⟩
end Go.Proofs.Ytegffliopblajaa.P
end
end
section
namespace Go.Proofs.Ytegffliopblajaa.P
open Go.RowKit Go.Proofs.YtegffliopblajaaW.PrintWords Go.Proofs.YtegffliopblajaaW.PrintLast Go.Proofs.YtegffliopblajaaW.PrintMore
set_option linter.unusedVariables false
set_option linter.unusedSimpArgs false
def c52 (x : S47) : S52 := ⟨x.f0, x.f1⟩
def gS (l : List S47) : List S52 := l.map c52
theorem gS_len (l : List S47) : (gS l).length = l.length := by simp [gS]
theorem gS_get (l : List S47) (i : Int) : rd_T52 (gS l) i = ⟨(rd_T47 l i).f0, (rd_T47 l i).f1⟩ := by
  unfold rd_T52 rd_T47 gS
  rw [List.getD_eq_getElem?_getD, List.getD_eq_getElem?_getD, List.getElem?_map]
  cases h : l[i.toNat]? with
  | none => rfl
  | some x => rfl
theorem rd47_at {l : List S47} {i : Nat} (h : i < l.length) : rd_T47 l (i : Int) = l[i] := by
  unfold rd_T47
  rw [List.getD_eq_getElem?_getD, Int.toNat_natCast, List.getElem?_eq_getElem h]; rfl
theorem rdI_at {l : List Int} {i : Nat} (h : i < l.length) : rd l (i : Int) = l[i] := by
  unfold rd
  rw [List.getD_eq_getElem?_getD, Int.toNat_natCast, List.getElem?_eq_getElem h]; rfl
theorem w_succ (i : Nat) (h : i ≤ 1000000000) : wrap64 ((i : Int) + 1) = ((i + 1 : Nat) : Int) := by unfold wrap64; omega
theorem given_l0 (a b : Int) (l : List S47) (hl : l.length ≤ 1000000) : ∀ (m i : Nat), i + m = l.length → Ev (fun k => pianolalaw03_given.l0 k i b l a (gS (l.take i))) (a, gS l)
  | 0, i, h => by
    refine Ev.step (f := fun _ => some (a, gS l)) (fun k => ?_) (Ev.now _)
    rw [pianolalaw03_given.l0, if_neg (by omega), List.take_of_length_le (by omega)]
  | m + 1, i, h => by
    refine Ev.step (fun k => ?_) (given_l0 a b l hl m (i + 1) (by omega))
    rw [pianolalaw03_given.l0, if_pos (by omega), if_pos (by omega), if_pos (by rw [gS_len, List.length_take]; omega), w_succ i (by omega)]
    congr 1
    have hi : i < l.length := by omega
    rw [List.take_succ_eq_append_getElem hi, rd47_at hi]
    unfold gS
    rw [List.map_append]
    rfl
theorem given_f (a : Int) (l : List S47) (hl : l.length ≤ 1000000) : Ev (fun k => pianolalaw03_given.f k a l) (a, gS l) := by
  have := given_l0 a a l hl l.length 0 (by omega)
  simpa [pianolalaw03_given.f, gS] using this
theorem is_f (a b c : Int) : pianolaref03_is.f a b c = some (btw b a c) := by
  unfold pianolaref03_is.f pianolaref01_Is.f btw
  by_cases h : a ≥ b
  · rw [if_pos h, decide_eq_true (show b ≤ a from h)]; rfl
  · rw [if_neg h, decide_eq_false (show ¬ b ≤ a from h)]; rfl
theorem slot_f (a b : Int) : pianolaref03_slot.f a b = some (good ⟨a, b⟩) := by
  unfold pianolaref03_slot.f good
  by_cases h : 0 ≤ a
  · by_cases h2 : a < b <;> simp [h, h2]
  · simp [h]
def chk (rest : Int) (l : List S47) : Int := if btw 0 rest 1000 = true then (if l.length > 40 then 5 else if (l.any fun x => !good x) = true then 3 else 0) else 3
theorem check_f (rest : Int) (l : List S47) : punch_Check.f rest l = some (chk rest l) := by
  unfold punch_Check.f chk
  rw [btw_f]
  show (if btw 0 rest 1000 = true then _ else _) = _
  by_cases c : btw 0 rest 1000 = true
  · rw [if_pos c, if_pos c]
    by_cases c2 : l.length > 40
    · rw [if_pos (by omega), if_pos c2]
    · rw [if_neg (by omega), if_neg c2]
      unfold any_bad.f
      rw [if_pos (by omega)]
      show (if (l.any fun x => !good x) = true then _ else _) = _
      split <;> rfl
  · rw [if_neg c, if_neg c]
theorem rcheck_l0 (a : Int) (l : List S47) (hl : l.length ≤ 40) : ∀ (m i : Nat), i + m = l.length → Ev (fun k => pianolaref03_Check.l0 k i a (gS l)) (if ((l.drop i).any fun x => !good x) = true then 3 else 0)
  | 0, i, h => by
    refine Ev.step (f := fun _ => some 0) (fun k => ?_) (by rw [List.drop_eq_nil_of_le (by omega)]; exact Ev.now _)
    rw [pianolaref03_Check.l0, if_neg (by rw [gS_len]; omega)]
  | m + 1, i, h => by
    have hi : i < l.length := by omega
    rw [List.drop_eq_getElem_cons hi, List.any_cons]
    have e : ∀ k, pianolaref03_Check.l0 (k + 1) i a (gS l) = if good l[i] = true then pianolaref03_Check.l0 k ((i + 1 : Nat) : Int) a (gS l) else some 3 := fun k => by
      rw [pianolaref03_Check.l0, if_pos (by rw [gS_len]; omega), if_pos (by omega), gS_get, slot_f, w_succ i (by omega), rd47_at hi]
      rfl
    cases c : good l[i] with
    | true =>
      refine Ev.step (fun k => (e k).trans (by rw [c, if_pos rfl])) ?_
      have := rcheck_l0 a l hl m (i + 1) (by omega)
      simpa using this
    | false =>
      refine Ev.step (f := fun _ => some 3) (fun k => (e k).trans (by rw [c, if_neg (by decide)])) ?_
      simp only [Bool.not_false, Bool.true_or, if_true]
      exact Ev.now _
theorem rcheck_f (rest : Int) (l : List S47) : Ev (fun k => pianolaref03_Check.f k rest (gS l)) (chk rest l) := by
  unfold pianolaref03_Check.f chk
  simp only [is_f, Option.bind_some]
  by_cases c : btw 0 rest 1000 = true
  · rw [if_pos c]
    simp only [if_pos c, gS_len]
    by_cases c2 : l.length > 40
    · rw [if_pos c2]
      simp only [if_pos (show (l.length : Int) > 40 by omega)]
      exact Ev.now _
    · rw [if_neg c2]
      simp only [if_neg (show ¬ (l.length : Int) > 40 by omega)]
      have := rcheck_l0 rest l (by omega) l.length 0 (by omega)
      simpa using this
  · rw [if_neg c]
    simp only [if_neg c]
    exact Ev.now _
theorem chk_len {rest : Int} {l : List S47} (h : chk rest l = 0) : l.length ≤ 40 := by
  unfold chk at h
  split at h
  · split at h
    · cases h
    · omega
  · cases h
end Go.Proofs.Ytegffliopblajaa.P
end
section
namespace Go.Proofs.Ytegffliopblajaa.P
open Go.RowKit Go.Proofs.YtegffliopblajaaW.PrintWords Go.Proofs.YtegffliopblajaaW.PrintLast Go.Proofs.YtegffliopblajaaW.PrintMore
set_option linter.unusedVariables false
set_option linter.unusedSimpArgs false
def Cl (rest : Int) (x y : S47) : Bool := decide (x.f0 < wrap64 (y.f1 + rest)) && decide (y.f0 < wrap64 (x.f1 + rest))
theorem Cl_comm (rest : Int) (x y : S47) : Cl rest x y = Cl rest y x := by unfold Cl; rw [Bool.and_comm]
theorem clash_f (x y : S47) (rest : Int) : pianolaref03_clash.f x.f0 x.f1 y.f0 y.f1 rest = some (Cl rest x y) := by
  unfold pianolaref03_clash.f Cl
  by_cases c : x.f0 < wrap64 (y.f1 + rest)
  · rw [if_pos c, decide_eq_true c, Bool.true_and]
  · rw [if_neg c, decide_eq_false c, Bool.false_and]
theorem clB_eq (x : S47) (p rest a b : Int) : clB x p rest a b = (Cl rest x ⟨a, b⟩ && decide (0 ≤ p)) := rfl
theorem mem_clashL (l : List S47) (ps : List Int) (rest a b p : Int) : ∀ (r f : Nat), p ∈ clashL l ps rest a b r f ↔ ∃ i, f ≤ i ∧ i < f + r ∧ ps.getD i 0 = p ∧ clB (rd_T47 l (i : Int)) (ps.getD i 0) rest a b = true
  | 0, f => by
    constructor
    · intro h; cases h
    · rintro ⟨i, h1, h2, _⟩; omega
  | r + 1, f => by
    rw [clashL]
    have ih := mem_clashL l ps rest a b p r (f + 1)
    constructor
    · intro h
      split at h
      · rename_i hc
        rcases List.mem_cons.1 h with h | h
        · exact ⟨f, Nat.le_refl _, by omega, h.symm, hc⟩
        · obtain ⟨i, h1, h2, h3⟩ := ih.1 h
          exact ⟨i, by omega, by omega, h3⟩
      · obtain ⟨i, h1, h2, h3⟩ := ih.1 h
        exact ⟨i, by omega, by omega, h3⟩
    · rintro ⟨i, h1, h2, h3, h4⟩
      by_cases e : i = f
      · subst e
        rw [if_pos h4, h3]
        exact List.mem_cons_self
      · have := ih.2 ⟨i, by omega, by omega, h3, h4⟩
        split
        · exact List.mem_cons_of_mem _ this
        · exact this
theorem least_of {P : Nat → Prop} (h : ∃ m, P m) : ∃ m, P m ∧ ∀ j, j < m → ¬ P j := by
  obtain ⟨m, hm⟩ := h
  induction m using Nat.strongRecOn with
  | ind m ih =>
    by_cases c : ∃ j, j < m ∧ P j
    · obtain ⟨j, hj, hp⟩ := c
      exact ih j hj hp
    · exact ⟨m, hm, fun j hj hp => c ⟨j, hj, hp⟩⟩
theorem mex_exists (cs : List Int) : ∃ m, IsMex cs m := by
  have ex : ∃ m : Nat, (m : Int) ∉ cs := Classical.byContradiction fun h => by
    have := cover_len (n := cs.length + 1) (cs := cs) (fun j _ => Classical.byContradiction fun hj => h ⟨j, hj⟩)
    omega
  obtain ⟨m, hm, hl⟩ := least_of ex
  exact ⟨m, hm, fun j hj => Classical.byContradiction (hl j hj)⟩
theorem mexL_is (cs : List Int) : IsMex cs (mexL cs) := by
  obtain ⟨m, h⟩ := mex_exists cs
  rw [← mexL_eq h]
  exact h
theorem mexL_le (cs : List Int) : mexL cs ≤ cs.length := cover_len (mexL_is cs).2
def freeB (rest : Int) (l : List S47) (pl : List Int) (s : S47) (n : Int) (i : Nat) : Bool := (List.range i).all fun j => !(decide (rd pl (j : Int) = n) && Cl rest (rd_T47 l (j : Int)) s)
theorem freeB_succ (rest : Int) (l : List S47) (pl : List Int) (s : S47) (n : Int) (i : Nat) : freeB rest l pl s n (i + 1) = (freeB rest l pl s n i && !(decide (rd pl (i : Int) = n) && Cl rest (rd_T47 l (i : Int)) s)) := by
  unfold freeB
  rw [List.range_succ, List.all_append]
  simp
theorem small_l1 (rest : Int) (l : List S47) (pl : List Int) (s : S47) (n : Int) (hpl : pl.length ≤ l.length) (hl : l.length ≤ 1000) {r : Int}
    (hr : Ev (fun k => if freeB rest l pl s n pl.length = true then some n else pianolaref03_smallest.l0 k pl (wrap64 (n + 1)) rest (gS l) s.f0 s.f1) r) :
    ∀ (m i : Nat), i + m = pl.length → Ev (fun k => pianolaref03_smallest.l1 k pl n (freeB rest l pl s n i) i rest (gS l) s.f0 s.f1) r
  | 0, i, h => by
    obtain rfl : i = pl.length := by omega
    refine Ev.step (fun k => ?_) hr
    rw [pianolaref03_smallest.l1, if_neg (by omega)]
  | m + 1, i, h => by
    refine Ev.step (fun k => ?_) (small_l1 rest l pl s n hpl hl hr m (i + 1) (by omega))
    rw [pianolaref03_smallest.l1, if_pos (by omega), freeB_succ, w_succ i (by omega)]
    cases hf : freeB rest l pl s n i with
    | false => rw [if_neg (by decide), Bool.false_and]
    | true =>
      rw [if_pos rfl, if_pos (by omega), Bool.true_and]
      by_cases c : rd pl (i : Int) = n
      · rw [if_pos c, if_pos (by rw [gS_len]; omega), gS_get, clash_f, decide_eq_true c, Bool.true_and]
        rfl
      · rw [if_neg c, decide_eq_false c, Bool.false_and]
        rfl
theorem free_iff {rest : Int} {l : List S47} {pl : List Int} {s : S47} {n : Int} {i : Nat} : freeB rest l pl s n i = true ↔ ¬ ∃ j, j < i ∧ rd pl (j : Int) = n ∧ Cl rest (rd_T47 l (j : Int)) s = true := by
  unfold freeB
  rw [List.all_eq_true]
  constructor
  · rintro h ⟨j, hj, h1, h2⟩
    have := h j (List.mem_range.2 hj)
    simp [h1, h2] at this
  · intro h j hj
    rw [Bool.not_eq_true']
    by_cases c : rd pl (j : Int) = n ∧ Cl rest (rd_T47 l (j : Int)) s = true
    · exact absurd ⟨j, List.mem_range.1 hj, c⟩ h
    · rw [Bool.and_eq_false_iff]
      by_cases c1 : rd pl (j : Int) = n
      · exact .inr (by simpa using fun e => c ⟨c1, e⟩)
      · exact .inl (decide_eq_false c1)
theorem rsmallest_f (rest : Int) (l : List S47) (pl : List Int) (s : S47) (hpl : pl.length ≤ l.length) (hl : l.length ≤ 1000) (cs : List Int) (hcl : cs.length ≤ 1000)
    (hcs : ∀ n : Nat, (n : Int) ∈ cs ↔ ∃ j, j < pl.length ∧ rd pl (j : Int) = n ∧ Cl rest (rd_T47 l (j : Int)) s = true) : Ev (fun k => pianolaref03_smallest.f k rest (gS l) pl s.f0 s.f1) ((mexL cs : Nat) : Int) := by
  have hm := mexL_is cs
  have hle := mexL_le cs
  have go : ∀ (r n : Nat), n + r = mexL cs → Ev (fun k => pianolaref03_smallest.l0 k pl n rest (gS l) s.f0 s.f1) ((mexL cs : Nat) : Int) := by
    intro r
    induction r with
    | zero =>
      intro n hn
      refine Ev.step (fun k => by rw [pianolaref03_smallest.l0]; rfl) (small_l1 rest l pl s n hpl hl ?_ pl.length 0 (by omega))
      have : freeB rest l pl s n pl.length = true := free_iff.2 (fun h => hm.1 (by rw [← show n = mexL cs by omega]; exact (hcs n).2 h))
      simp only [if_pos this]
      rw [show n = mexL cs by omega]
      exact Ev.now _
    | succ r ih =>
      intro n hn
      refine Ev.step (fun k => by rw [pianolaref03_smallest.l0]; rfl) (small_l1 rest l pl s n hpl hl ?_ pl.length 0 (by omega))
      have : ¬ freeB rest l pl s n pl.length = true := fun h => free_iff.1 h ((hcs n).1 (hm.2 n (by omega)))
      simp only [if_neg this, w_succ n (by omega)]
      exact ih (n + 1) (by omega)
  have := go (mexL cs) 0 (by omega)
  simpa [pianolaref03_smallest.f] using this
def passN (p : List Int) : Int := p.foldl (fun n x => max n (x + 1)) 0
theorem mx_max (a b : Int) : mx a b = max a b := by unfold mx; omega
theorem rpasses_l0 (p : List Int) (hb : ∀ x ∈ p, -1 ≤ x ∧ x ≤ 1000) (hl : p.length ≤ 1000) : ∀ (m i : Nat) (n : Int), i + m = p.length → Ev (fun k => pianolaref03_passes.l0 k p n i) ((p.drop i).foldl (fun n x => max n (x + 1)) n)
  | 0, i, n, h => by
    refine Ev.step (f := fun _ => some n) (fun k => ?_) (by rw [List.drop_eq_nil_of_le (by omega)]; exact Ev.now _)
    rw [pianolaref03_passes.l0, if_neg (by omega)]
  | m + 1, i, n, h => by
    have hi : i < p.length := by omega
    have hx := hb p[i] (List.getElem_mem hi)
    have e : p.drop i = p[i] :: p.drop (i + 1) := List.drop_eq_getElem_cons hi
    rw [e, List.foldl_cons]
    refine Ev.step (fun k => ?_) (rpasses_l0 p hb hl m (i + 1) (max n (p[i] + 1)) (by omega))
    rw [pianolaref03_passes.l0, if_pos (by omega), if_pos (by omega), rdI_at hi, w_succ i (by omega), mx_max, show wrap64 (p[i] + 1) = p[i] + 1 by unfold wrap64; omega]
theorem rpasses_f (p : List Int) (hb : ∀ x ∈ p, -1 ≤ x ∧ x ≤ 1000) (hl : p.length ≤ 1000) : Ev (fun k => pianolaref03_passes.f k p) (passN p) := by
  have := rpasses_l0 p hb hl p.length 0 0 (by omega)
  simpa [pianolaref03_passes.f, passN] using this
theorem passes_l0 (p : List Int) (hb : ∀ x ∈ p, -1 ≤ x ∧ x ≤ 1000) (hl : p.length ≤ 1000) : ∀ (m i k : Nat) (n : Int), i + m = p.length → m < k → punch_passes.l0 k n p p.length i = some ((p.drop i).foldl (fun n x => max n (x + 1)) n)
  | 0, i, 0, n, h, hk => by omega
  | m + 1, i, 0, n, h, hk => by omega
  | 0, i, k + 1, n, h, hk => by
    rw [punch_passes.l0, if_neg (by omega), List.drop_eq_nil_of_le (by omega)]
    rfl
  | m + 1, i, k + 1, n, h, hk => by
    have hi : i < p.length := by omega
    have hx := hb p[i] (List.getElem_mem hi)
    have e : p.drop i = p[i] :: p.drop (i + 1) := List.drop_eq_getElem_cons hi
    rw [e, List.foldl_cons, punch_passes.l0, if_pos (by omega), if_pos (by omega), if_pos (by omega), rdI_at hi, w_succ i (by omega), mx_max, show wrap64 (p[i] + 1) = p[i] + 1 by unfold wrap64; omega]
    exact passes_l0 p hb hl m (i + 1) k (max n (p[i] + 1)) (by omega) (by omega)
theorem passes_f (p : List Int) (hb : ∀ x ∈ p, -1 ≤ x ∧ x ≤ 1000) (hl : p.length ≤ 1000) : punch_passes.f (p.length + 1) p = some (passN p) := by
  have := passes_l0 p hb hl p.length 0 (p.length + 1) 0 (by omega) (by omega)
  simpa [punch_passes.f, passN] using this
end Go.Proofs.Ytegffliopblajaa.P
end
section
namespace Go.Proofs.Ytegffliopblajaa.P
open Go.RowKit Go.Proofs.YtegffliopblajaaW.PrintWords Go.Proofs.YtegffliopblajaaW.PrintLast Go.Proofs.YtegffliopblajaaW.PrintMore
set_option linter.unusedVariables false
set_option linter.unusedSimpArgs false
theorem noPass_iff {p : Int} : noPass p = false ↔ 0 ≤ p ∧ p ≤ 39 := by
  unfold noPass
  rw [Bool.not_eq_false', btw_iff]
def apartB (rest : Int) (l : List S47) (pl : List Int) (i : Nat) : Bool := (List.range i).all fun k => !(decide (rd pl (i : Int) = rd pl (k : Int)) && Cl rest (rd_T47 l (i : Int)) (rd_T47 l (k : Int)))
def planB (rest : Int) (l : List S47) (pl : List Int) : Bool := (List.range l.length).all (apartB rest l pl)
theorem apartB_iff {rest : Int} {l : List S47} {pl : List Int} {i : Nat} : apartB rest l pl i = true ↔ ∀ k, k < i → rd pl (i : Int) = rd pl (k : Int) → Cl rest (rd_T47 l (i : Int)) (rd_T47 l (k : Int)) = false := by
  unfold apartB
  rw [List.all_eq_true]
  constructor
  · intro h k hk e
    have := h k (List.mem_range.2 hk)
    rw [e] at this
    simpa using this
  · intro h k hk
    rw [Bool.not_eq_true', Bool.and_eq_false_iff]
    by_cases c : rd pl (i : Int) = rd pl (k : Int)
    · exact .inr (h k (List.mem_range.1 hk) c)
    · exact .inl (decide_eq_false c)
theorem psT_lt {pl : List Int} {i j : Nat} (h : j < i) (hi : i ≤ pl.length) : (psT pl i).getD j 0 = rd pl (j : Int) := by
  unfold psT
  rw [List.getD_eq_getElem?_getD, List.getElem?_append_left (by rw [List.length_take]; omega), List.getElem?_take_of_lt h, rdI_at (by omega), List.getElem?_eq_getElem (by omega)]
  rfl
theorem psT_ge {pl : List Int} {i j : Nat} (h : i ≤ j) (hi : i ≤ pl.length) (hj : j < 40) : (psT pl i).getD j 0 = -1 := by
  unfold psT
  rw [List.getD_eq_getElem?_getD, List.getElem?_append_right (by rw [List.length_take]; omega), List.length_take, List.getElem?_replicate, if_pos (by omega)]
  rfl
theorem mem_clashT {rest : Int} {l : List S47} {pl : List Int} {i : Nat} {p a b : Int} (hp : 0 ≤ p) (hi : i ≤ pl.length) (hl : i ≤ l.length) (h40 : l.length ≤ 40) :
    p ∈ clashL l (psT pl i) rest a b l.length 0 ↔ ∃ j, j < i ∧ rd pl (j : Int) = p ∧ Cl rest (rd_T47 l (j : Int)) ⟨a, b⟩ = true := by
  rw [mem_clashL]
  constructor
  · rintro ⟨j, _, h2, h3, h4⟩
    by_cases c : j < i
    · rw [psT_lt c hi] at h3 h4
      rw [clB_eq, Bool.and_eq_true] at h4
      exact ⟨j, c, h3, h4.1⟩
    · rw [psT_ge (by omega) hi (by omega)] at h3
      omega
  · rintro ⟨j, h1, h2, h3⟩
    refine ⟨j, Nat.zero_le _, by omega, by rw [psT_lt h1 hi]; exact h2, ?_⟩
    rw [psT_lt h1 hi, clB_eq, h3, h2, decide_eq_true hp]
    rfl
theorem okAt_eq {rest : Int} {l : List S47} {pl : List Int} {i : Nat} (hi : i < l.length) (hl : pl.length = l.length) (h40 : l.length ≤ 40) (hp : 0 ≤ rd pl (i : Int)) : okAt rest l pl i = apartB rest l pl i := by
  rw [Bool.eq_iff_iff, apartB_iff]
  unfold okAt clashAt
  rw [Bool.not_eq_true', ← Bool.not_eq_true, List.contains_iff_mem, mem_clashT hp (by omega) (by omega) h40]
  constructor
  · intro h k hk e
    rw [← Bool.not_eq_true]
    intro hc
    exact h ⟨k, hk, e.symm, by rw [Cl_comm]; exact hc⟩
  · rintro h ⟨k, hk, e, hc⟩
    have := h k hk e.symm
    rw [Cl_comm] at this
    have hc' : Cl rest (rd_T47 l (k : Int)) (rd_T47 l (i : Int)) = true := hc
    rw [this] at hc'
    cases hc'
theorem all_range_congr {f g : Nat → Bool} : ∀ {n : Nat}, (∀ i, i < n → f i = g i) → (List.range n).all f = (List.range n).all g := by
  intro n h
  rw [Bool.eq_iff_iff, List.all_eq_true, List.all_eq_true]
  exact ⟨fun a i hi => by rw [← h i (List.mem_range.1 hi)]; exact a i hi, fun a i hi => by rw [h i (List.mem_range.1 hi)]; exact a i hi⟩
theorem planOk_eq {rest : Int} {l : List S47} {pl : List Int} (hl : pl.length = l.length) (h40 : l.length ≤ 40) (hp : pl.any noPass = false) : planOk rest l pl = planB rest l pl := by
  unfold planOk planB
  refine all_range_congr fun i hi => okAt_eq hi hl h40 ?_
  rw [List.any_eq_false] at hp
  have := hp (rd pl (i : Int)) (by rw [rdI_at (show i < pl.length by omega)]; exact List.getElem_mem _)
  exact (noPass_iff.1 (by simpa using this)).1
def perr (rest : Int) (l : List S47) (pl : List Int) : Int := if chk rest l = 0 then (if pl.length = l.length then (if pl.any noPass = true then 3 else if planB rest l pl = true then 0 else 14) else 6) else chk rest l
theorem planErr_f (rest : Int) (l : List S47) (pl : List Int) : planErr rest l pl = some (perr rest l pl) := by
  unfold planErr perr
  rw [check_f]
  show (if chk rest l = 0 then _ else _) = _
  by_cases c : chk rest l = 0
  · have h40 := chk_len c
    rw [if_pos c, if_pos c, if_pos h40]
    by_cases c2 : pl.length = l.length
    · rw [if_pos c2, if_pos c2]
      by_cases c3 : pl.any noPass = true
      · rw [if_pos c3, if_pos c3]
      · rw [if_neg c3, if_neg c3, planOk_eq c2 h40 (by simpa using c3)]
        split <;> rfl
    · rw [if_neg c2, if_neg c2]
  · rw [if_neg c, if_neg c]
theorem perr_ok {rest : Int} {l : List S47} {pl : List Int} (h : perr rest l pl = 0) : chk rest l = 0 ∧ l.length ≤ 40 ∧ pl.length = l.length ∧ (∀ x ∈ pl, 0 ≤ x ∧ x ≤ 39) ∧ planB rest l pl = true := by
  unfold perr at h
  split at h
  · rename_i c
    split at h
    · rename_i c2
      split at h
      · cases h
      · rename_i c3
        split at h
        · rename_i c4
          have c3' : pl.any noPass = false := by simpa using c3
          rw [List.any_eq_false] at c3'
          exact ⟨c, chk_len c, c2, fun x hx => noPass_iff.1 (by simpa using c3' x hx), c4⟩
        · cases h
    · cases h
  · exact absurd h (by assumption)
def verR (rest : Int) (l : List S47) (pl : List Int) : Int × Int := if perr rest l pl = 0 then (passN pl, 0) else (0, perr rest l pl)
theorem Verify_f (rest : Int) (l : List S47) (pl : List Int) : punch_Verify.f rest l pl = some (verR rest l pl) := by
  unfold punch_Verify.f verR
  rw [planErr_f]
  show (if perr rest l pl = 0 then _ else _) = _
  by_cases c : perr rest l pl = 0
  · obtain ⟨_, h2, h3, h4, _⟩ := perr_ok c
    rw [if_pos c, if_pos c, passes_f pl (fun x hx => by have := h4 x hx; omega) (by omega)]
    rfl
  · rw [if_neg c, if_neg c]
theorem rver_l2 (rest : Int) (l : List S47) (pl : List Int) (hl : pl.length = l.length) (h40 : l.length ≤ 40) {i : Nat} (hi : i < l.length) {r : Int × Int}
    (hr : Ev (fun k => pianolaref03_Verify.l1 k pl (wrap64 ((i : Int) + 1)) rest (gS l)) r) (ha : apartB rest l pl i = false → r = (0, 14)) :
    ∀ (m j : Nat), j + m = i → (∀ k, k < j → rd pl (i : Int) = rd pl (k : Int) → Cl rest (rd_T47 l (i : Int)) (rd_T47 l (k : Int)) = false) → Ev (fun k => pianolaref03_Verify.l2 k pl i j rest (gS l)) r
  | 0, j, h, _ => by
    refine Ev.step (fun k => ?_) hr
    rw [pianolaref03_Verify.l2, if_neg (by omega)]
  | m + 1, j, h, hj => by
    have e : ∀ k, pianolaref03_Verify.l2 (k + 1) pl i j rest (gS l) = if rd pl (i : Int) = rd pl (j : Int) ∧ Cl rest (rd_T47 l (i : Int)) (rd_T47 l (j : Int)) = true then some (0, 14) else pianolaref03_Verify.l2 k pl i ((j + 1 : Nat) : Int) rest (gS l) := fun k => by
      rw [pianolaref03_Verify.l2, if_pos (by omega), if_pos (by omega), if_pos (by omega), if_pos (by omega), if_pos (by omega), w_succ j (by omega)]
      by_cases c : rd pl (i : Int) = rd pl (j : Int)
      · rw [if_pos c, if_pos (by rw [gS_len]; omega), if_pos (by rw [gS_len]; omega), gS_get, gS_get, clash_f]
        show (if Cl rest (rd_T47 l (i : Int)) (rd_T47 l (j : Int)) = true then _ else _) = _
        by_cases c2 : Cl rest (rd_T47 l (i : Int)) (rd_T47 l (j : Int)) = true
        · rw [if_pos c2, if_pos ⟨c, c2⟩]
        · rw [if_neg c2, if_neg (fun h => c2 h.2)]
      · rw [if_neg c, if_neg (fun h => c h.1)]
    by_cases c : rd pl (i : Int) = rd pl (j : Int) ∧ Cl rest (rd_T47 l (i : Int)) (rd_T47 l (j : Int)) = true
    · refine Ev.step (f := fun _ => some (0, 14)) (fun k => (e k).trans (by rw [if_pos c])) ?_
      rw [ha (by rw [← Bool.not_eq_true, apartB_iff]; intro h; rw [h j (by omega) c.1] at c; cases c.2)]
      exact Ev.now _
    · refine Ev.step (fun k => (e k).trans (by rw [if_neg c])) (rver_l2 rest l pl hl h40 hi hr ha m (j + 1) (by omega) (fun k hk ee => ?_))
      rcases Nat.lt_or_ge k j with h | h
      · exact hj k h ee
      · obtain rfl : k = j := by omega
        rw [← Bool.not_eq_true]
        exact fun hc => c ⟨ee, hc⟩
theorem rver_l1 (rest : Int) (l : List S47) (pl : List Int) (hl : pl.length = l.length) (h40 : l.length ≤ 40) (hb : ∀ x ∈ pl, 0 ≤ x ∧ x ≤ 39) :
  ∀ (m i : Nat), i + m = l.length → (∀ k, k < i → apartB rest l pl k = true) → Ev (fun k => pianolaref03_Verify.l1 k pl i rest (gS l)) (if planB rest l pl = true then (passN pl, 0) else (0, 14))
 | 0, i, h, hi => by
  refine Ev.step (f := fun k => (pianolaref03_passes.f k pl).bind fun t => some (t, 0)) (fun k => ?_) ?_
  ·
   rw [pianolaref03_Verify.l1, if_neg (by omega)]
  ·
   have : planB rest l pl = true := by
    unfold planB
    rw [List.all_eq_true]
    exact fun k hk => hi k (by have := List.mem_range.1 hk; omega)
   rw [if_pos this]
   exact Ev.bind (rpasses_f pl (fun x hx => by have := hb x hx; omega) (by omega)) (Ev.now _)
 | m + 1, i, h, hi => by
  refine Ev.step (fun k => by rw [pianolaref03_Verify.l1, if_pos (by omega)]) ?_
  cases c : apartB rest l pl i with
  | true =>
   refine rver_l2 rest l pl hl h40 (by omega) ?_ (fun h => by rw [c] at h; cases h) i 0 (by omega) (fun k hk => by omega)
   simp only [w_succ i (by omega)]
   refine rver_l1 rest l pl hl h40 hb m (i + 1) (by omega) (fun k hk => ?_)
   rcases Nat.lt_or_ge k i with h | h
   ·
    exact hi k h
   ·
    obtain rfl : k = i := by omega
    exact c
  | false =>
   have hp : planB rest l pl = false := by
    unfold planB
    rw [← Bool.not_eq_true, List.all_eq_true]
    intro h2
    have := h2 i (List.mem_range.2 (by omega))
    rw [c] at this; cases this
   rw [hp, if_neg (by decide)]
   obtain ⟨j, hj, e, hc⟩ : ∃ j, j < i ∧ rd pl (i : Int) = rd pl (j : Int) ∧ Cl rest (rd_T47 l (i : Int)) (rd_T47 l (j : Int)) = true := Classical.byContradiction fun h => by
    have : apartB rest l pl i = true := apartB_iff.2 (fun k hk e => by rw [← Bool.not_eq_true]; exact fun hc => h ⟨k, hk, e, hc⟩)
    rw [c] at this; cases this
   obtain ⟨j, ⟨hj, e, hc⟩, hmin⟩ := least_of (P := fun j => j < i ∧ rd pl (i : Int) = rd pl (j : Int) ∧ Cl rest (rd_T47 l (i : Int)) (rd_T47 l (j : Int)) = true) ⟨j, hj, e, hc⟩
   have go : ∀ (m' j' : Nat), j' + m' = j → Ev (fun k => pianolaref03_Verify.l2 k pl i j' rest (gS l)) (0, 14) := by
    intro m'
    induction m' with
    | zero =>
     intro j' hj'
     obtain rfl : j' = j := by omega
     refine Ev.step (f := fun _ => some (0, 14)) (fun k => ?_) (Ev.now _)
     rw [pianolaref03_Verify.l2, if_pos (by omega), if_pos (by omega), if_pos (by omega), if_pos (by omega), if_pos (by omega), if_pos e, if_pos (by rw [gS_len]; omega), if_pos (by rw [gS_len]; omega), gS_get, gS_get, clash_f]
     show (if Cl rest (rd_T47 l (i : Int)) (rd_T47 l (j' : Int)) = true then _ else _) = _
     rw [if_pos hc]
    | succ m' ih =>
     intro j' hj'
     refine Ev.step (fun k => ?_) (ih (j' + 1) (by omega))
     rw [pianolaref03_Verify.l2, if_pos (by omega), if_pos (by omega), if_pos (by omega), if_pos (by omega), if_pos (by omega), w_succ j' (by omega)]
     by_cases c2 : rd pl (i : Int) = rd pl (j' : Int)
     ·
      rw [if_pos c2, if_pos (by rw [gS_len]; omega), if_pos (by rw [gS_len]; omega), gS_get, gS_get, clash_f]
      show (if Cl rest (rd_T47 l (i : Int)) (rd_T47 l (j' : Int)) = true then _ else _) = _
      rw [if_neg (fun h => hmin j' (by omega) ⟨by omega, c2, h⟩)]
     ·
      rw [if_neg c2]
   exact go j 0 (by omega)
theorem rver_l0 (rest : Int) (l : List S47) (pl : List Int) (hl : pl.length = l.length) (h40 : l.length ≤ 40) :
    ∀ (m i : Nat), i + m = l.length → (∀ x ∈ pl.take i, noPass x = false) → Ev (fun k => pianolaref03_Verify.l0 k pl i rest (gS l)) (if pl.any noPass = true then (0, 3) else if planB rest l pl = true then (passN pl, 0) else (0, 14))
  | 0, i, h, hi => by
    have hp : pl.any noPass = false := by
      rw [List.any_eq_false]
      intro x hx
      have := hi x (by rw [List.take_of_length_le (by omega)]; exact hx)
      rw [this]; decide
    rw [hp, if_neg (by decide)]
    refine Ev.step (fun k => by rw [pianolaref03_Verify.l0, if_neg (by omega)]; rfl) (rver_l1 rest l pl hl h40 (fun x hx => noPass_iff.1 (hi x (by rw [List.take_of_length_le (by omega)]; exact hx))) l.length 0 (by omega) (fun k hk => by omega))
  | m + 1, i, h, hi => by
    have hlt : i < pl.length := by omega
    have e : ∀ k, pianolaref03_Verify.l0 (k + 1) pl i rest (gS l) = if noPass pl[i] = false then pianolaref03_Verify.l0 k pl ((i + 1 : Nat) : Int) rest (gS l) else some (0, 3) := fun k => by
      rw [pianolaref03_Verify.l0, if_pos (by omega), if_pos (by omega), is_f, rdI_at hlt, w_succ i (by omega)]
      show (if btw 0 pl[i] 39 = true then _ else _) = _
      unfold noPass
      cases btw 0 pl[i] 39 <;> rfl
    by_cases c : noPass pl[i] = false
    · refine Ev.step (fun k => (e k).trans (by rw [if_pos c])) (rver_l0 rest l pl hl h40 m (i + 1) (by omega) (fun x hx => ?_))
      rw [List.take_succ_eq_append_getElem hlt, List.mem_append, List.mem_singleton] at hx
      rcases hx with hx | rfl
      · exact hi x hx
      · exact c
    · have hp : pl.any noPass = true := List.any_eq_true.2 ⟨pl[i], List.getElem_mem _, by simpa using c⟩
      rw [hp, if_pos rfl]
      exact Ev.step (f := fun _ => some (0, 3)) (fun k => (e k).trans (by rw [if_neg c])) (Ev.now _)
theorem rVerify_f (rest : Int) (l : List S47) (pl : List Int) : Ev (fun k => pianolaref03_Verify.f k rest (gS l) pl) (verR rest l pl) := by
  unfold pianolaref03_Verify.f
  refine Ev.bind (rcheck_f rest l) ?_
  unfold verR perr
  by_cases c : chk rest l = 0
  · have h40 := chk_len c
    simp only [if_pos c, gS_len]
    by_cases c2 : pl.length = l.length
    · simp only [if_pos c2, if_pos (show (pl.length : Int) = (l.length : Int) by omega)]
      have := rver_l0 rest l pl c2 h40 l.length 0 (by omega) (fun x hx => by simp at hx)
      by_cases c3 : pl.any noPass = true
      · rw [if_pos c3] at this
        simpa [c3] using this
      · rw [if_neg c3] at this
        by_cases c4 : planB rest l pl = true
        · rw [if_pos c4] at this
          simpa [c3, c4] using this
        · rw [if_neg c4] at this
          simpa [c3, c4] using this
    · simp only [if_neg c2, if_neg (show ¬ (pl.length : Int) = (l.length : Int) by omega)]
      exact Ev.now _
  · simp only [if_neg c]
    exact Ev.now _
def addR (rest : Int) (l : List S47) (pl : List Int) (s : S47) : Int × Int := if perr rest l pl = 0 then (if good s = true then (nextPass rest l pl s.f0 s.f1, 0) else (0, 3)) else (0, perr rest l pl)
theorem Add_f (rest : Int) (l : List S47) (pl : List Int) (a b : Int) : punch_Add.f rest l pl a b = some (addR rest l pl ⟨a, b⟩) := by
  unfold punch_Add.f addR
  rw [planErr_f]
  show (if perr rest l pl = 0 then _ else _) = _
  by_cases c : perr rest l pl = 0
  · rw [if_pos c, if_pos c]
    split <;> rfl
  · rw [if_neg c, if_neg c]
theorem rAdd_f (rest : Int) (l : List S47) (pl : List Int) (a b : Int) : Ev (fun k => pianolaref03_Add.f k rest (gS l) pl a b) (addR rest l pl ⟨a, b⟩) := by
  unfold pianolaref03_Add.f addR
  refine Ev.bind (rVerify_f rest l pl) ?_
  unfold verR
  by_cases c : perr rest l pl = 0
  · obtain ⟨_, h2, h3, h4, _⟩ := perr_ok c
    simp only [if_pos c, if_true, slot_f, Option.bind_some]
    by_cases cg : good ⟨a, b⟩ = true
    · simp only [if_pos cg]
      refine Ev.bind (rsmallest_f rest l pl ⟨a, b⟩ (by omega) (by omega) (clashL l (psT pl l.length) rest a b l.length 0) (Nat.le_trans (clashL_len _ _ _ _ _ _ _) (by omega)) (fun n => ?_)) (Ev.now _)
      rw [mem_clashT (by omega) (by omega) (Nat.le_refl _) h2, h3]
    · simp only [if_neg cg]
      exact Ev.now _
  · simp only [if_neg c]
    exact Ev.now _
end Go.Proofs.Ytegffliopblajaa.P
end
section
namespace Go.Proofs.Ytegffliopblajaa.P
open Go.RowKit Go.Proofs.YtegffliopblajaaW.PrintWords Go.Proofs.YtegffliopblajaaW.PrintLast Go.Proofs.YtegffliopblajaaW.PrintMore
set_option linter.unusedSimpArgs false
theorem verifiesLaw_ev (a : Int) (l : List S47) (pl : List Int) (x y : Int) : Ev (fun k => pianolalaw03_PunchVerifies.f k a l pl x y) true := by
  unfold pianolalaw03_PunchVerifies.f
  have works : ∀ k, pianolalaw03_PunchVerifies.j0 (k + 1) pl true a l x y = some true := fun k => by rw [pianolalaw03_PunchVerifies.j0, if_pos rfl]; rfl
  by_cases c : (l.length : Int) > 80
  · simp only [if_pos c]
    exact Ev.step works (Ev.now _)
  · simp only [if_neg c]
    by_cases c2 : (pl.length : Int) > 80
    · simp only [decide_eq_true c2]
      exact Ev.step works (Ev.now _)
    · simp only [decide_eq_false c2]
      refine Ev.step (fun k => by rw [pianolalaw03_PunchVerifies.j0, if_neg (by decide)]) ?_
      simp only [Verify_f, Add_f, Option.bind_some]
      refine Ev.bind (given_f a l (by omega)) ?_
      refine Ev.bind (rVerify_f a l pl) ?_
      refine Ev.bind (given_f a l (by omega)) ?_
      refine Ev.bind (rAdd_f a l pl x y) ?_
      simp only [if_true]
      exact Ev.now _
end Go.Proofs.Ytegffliopblajaa.P
namespace Go.Proofs.Ytegffliopblajaa.Pure
open P Go.Proofs.YtegffliopblajaaW.PrintWords
theorem PunchVerifies (a : Int) (l : List S47) (pl : List Int) (x y : Int) (_ : (Lit.int .i64 a).wf = true) (_ : ∀ s ∈ l, (Lit.int .i64 s.f0).wf = true ∧ (Lit.int .i64 s.f1).wf = true) (_ : pl.length ≤ maxLen) (_ : pl.length * 8 ≤ 140737488351232) (_ : ∀ n ∈ pl, (Lit.int .i64 n).wf = true) (_ : (Lit.int .i64 x).wf = true) (_ : (Lit.int .i64 y).wf = true) : ∃ k, pianolalaw03_PunchVerifies.f k a l pl x y = some true := (verifiesLaw_ev a l pl x y).rounds
end Go.Proofs.Ytegffliopblajaa.Pure
end
