/- Words and contracts for a claim. -/
import Derived.Test.YthoeindopljmkaaPumpWaits4
import Derived.Lib.SliceRun
section
namespace Go.Proofs.Ythoeindopljmkaa.P
open Go.RowKit Go.Proofs.YthoeindopljmkaaW.PrintWords Go.Proofs.YthoeindopljmkaaW.PrintLast Go.Proofs.YthoeindopljmkaaW.PrintMore
set_option linter.unusedVariables false
set_option linter.unusedSimpArgs false
theorem btw_iff {a b c : Int} : btw a b c = true ↔ a ≤ b ∧ b ≤ c := by simp [btw]
end Go.Proofs.Ythoeindopljmkaa.P
end
section
open Go Go.RowKit Go.Proofs.YthoeindopljmkaaW.PrintWords
theorem zrV4x1 {w : World} {g : Nat} {t : TypeId} {a b c d e f : Value} (h : w.heap[g]? = some (.cells #[a, b, c, d, e, f] t (0, 0))) : w.cell? ⟨g, 0, none⟩ = some a ∧ w.cell? ⟨g, 1, none⟩ = some b ∧ w.cell? ⟨g, 2, none⟩ = some c ∧ w.cell? ⟨g, 3, none⟩ = some d ∧ w.cell? ⟨g, 4, none⟩ = some e ∧ w.cell? ⟨g, 5, none⟩ = some f := ⟨(blk_cell h 0).trans rfl, (blk_cell h 1).trans rfl, (blk_cell h 2).trans rfl, (blk_cell h 3).trans rfl, (blk_cell h 4).trans rfl, (blk_cell h 5).trans rfl⟩
end
section
open List (setIfInBounds_toArray set_cons_zero set_cons_succ)
section
namespace Go.Proofs.Ythoeindopljmkaa.P
open Go.RowKit Go.Proofs.YthoeindopljmkaaW.PrintWords Go.Proofs.YthoeindopljmkaaW.PrintLast Go.Proofs.YthoeindopljmkaaW.PrintMore
attribute [local go_sem] max2_int min2_int max_two min_two max_three min_three max_four min_four
set_option linter.unusedVariables false
set_option linter.unusedSimpArgs false
def pianolalaw04_Engine_made.f (k : Nat) (l0_0 : List (S86)) (l0_1 : List (S86)) (l0_2 : List (S86)) (l0_3 : List (S86)) (a0_4 : Bool) (a0_5 : Bool) : Option ((List (List (S71))) × (List (List (S71)))) := (pianolalaw04_Set_made.f k l0_0).bind fun t515 => ((some (([t515] : List (List (S71))) : List (List (S71)))).bind fun y518 => ((pianolalaw04_Set_made.f k l0_2).bind fun t521 => ((some (([t521] : List (List (S71))) : List (List (S71)))).bind fun y524 => (if a0_4 = true then ((pianolalaw04_Set_made.f k l0_1).bind fun t528 => (if y518.length < 5864062014805 then ((some (y518 ++ [t528] : List (List (S71)))).bind fun y531 => (if a0_5 = true then ((pianolalaw04_Set_made.f k l0_3).bind fun t534 => (if y524.length < 5864062014805 then (some (y531, (y524 ++ [t534]))) else (none))) else (some (y531, y524)))) else (none))) else (if a0_5 = true then ((pianolalaw04_Set_made.f k l0_3).bind fun t540 => (if y524.length < 5864062014805 then (some (y518, (y524 ++ [t540]))) else (none))) else (some (y518, y524)))))))
def pianolalaw04_Engine_made.T1 : Bool × List (List Nat × List Nat) := (true, [([], []), ([0], [0]), ([1], [1]), ([2], [2]), ([3], [3]), ([], []), ([5], [5]), ([6], [6]), ([7, 3], [7]), ([8], [8]), ([4, 9], [4, 9]), ([], []), ([11, 10, 8, 0, 1, 2, 3, 4, 5, 6, 7, 8, 9, 10, 11], [10, 11])])
def pianolalaw04_Engine_made.B1 : List Nat := [0, 1, 3, 7, 15, 0, 32, 96, 239, 495, 1023, 0, 4095]
theorem pianolalaw04_Engine_made.tab1 : rtab .any (opsOf Try.f44 1) = pianolalaw04_Engine_made.T1 := by kernel_rfl
theorem pianolalaw04_Engine_made.bits1 : waitsOk pianolalaw04_Engine_made.T1.2 pianolalaw04_Engine_made.B1 = true := by kernel_rfl
def pianolalaw04_Engine_made.T3 : Bool × List (List Nat × List Nat) := (true, [([], []), ([0], [0]), ([], []), ([2], [2]), ([3], [3]), ([4], [4]), ([5], [5]), ([1, 6, 5], [1, 6]), ([0, 1, 2, 3, 4, 5, 6, 7], []), ([8, 7, 7, 0, 1, 2, 3, 4, 5, 6, 7], [7, 8])])
def pianolalaw04_Engine_made.B3 : List Nat := [0, 1, 0, 4, 12, 28, 60, 127, 255, 511]
theorem pianolalaw04_Engine_made.tab3 : rtab .any (opsOf Try.f44 3) = pianolalaw04_Engine_made.T3 := by kernel_rfl
theorem pianolalaw04_Engine_made.bits3 : waitsOk pianolalaw04_Engine_made.T3.2 pianolalaw04_Engine_made.B3 = true := by kernel_rfl
def pianolalaw04_Engine_made.T5 : Bool × List (List Nat × List Nat) := (true, [([], []), ([0], [0]), ([], []), ([2], [2]), ([3], [3]), ([4], [4]), ([5], [5]), ([1, 6, 5], [1, 6]), ([0, 1, 2, 3, 4, 5, 6, 7], []), ([8, 7, 7, 0, 1, 2, 3, 4, 5, 6, 7], [7, 8])])
def pianolalaw04_Engine_made.B5 : List Nat := [0, 1, 0, 4, 12, 28, 60, 127, 255, 511]
theorem pianolalaw04_Engine_made.tab5 : rtab .any (opsOf Try.f44 5) = pianolalaw04_Engine_made.T5 := by kernel_rfl
theorem pianolalaw04_Engine_made.bits5 : waitsOk pianolalaw04_Engine_made.T5.2 pianolalaw04_Engine_made.B5 = true := by kernel_rfl
set_option maxHeartbeats 8000000 in
set_option maxRecDepth 100000 in
theorem pianolalaw04_Engine_made.calls (k : Nat) (A0_0 : Option Addr) (c0_0 : Nat) (l0_0 : List (S86)) (A0_1 : Option Addr) (c0_1 : Nat) (l0_1 : List (S86)) (A0_2 : Option Addr) (c0_2 : Nat) (l0_2 : List (S86)) (A0_3 : Option Addr) (c0_3 : Nat) (l0_3 : List (S86)) (a0_4 : Bool) (a0_5 : Bool) (r1 : List (List (S71))) (r2 : List (List (S71))) (w : World) (hr0_0 : Kd.C k86 w A0_0 l0_0.length l0_0) (hc0_0 : l0_0.length ≤ c0_0) (hr0_1 : Kd.C k86 w A0_1 l0_1.length l0_1) (hc0_1 : l0_1.length ≤ c0_1) (hr0_2 : Kd.C k86 w A0_2 l0_2.length l0_2) (hc0_2 : l0_2.length ≤ c0_2) (hr0_3 : Kd.C k86 w A0_3 l0_3.length l0_3) (hc0_3 : l0_3.length ≤ c0_3) (h : pianolalaw04_Engine_made.f k l0_0 l0_1 l0_2 l0_3 a0_4 a0_5 = some (r1, r2)) :
  Calls Try.prog 44 #[.agg #[.slice A0_0 l0_0.length c0_0, .slice A0_1 l0_1.length c0_1, .slice A0_2 l0_2.length c0_2, .slice A0_3 l0_3.length c0_3, .bool a0_4, .bool a0_5]] w fun e w' => ∃ v0_ v1_ : Value, e = .returned (.agg #[v0_, v1_]) ∧ Kd.N (Kd.slice 71 k71) 22 w' w.heap.size (fun k_ => (w.heap.size ≤ k_) ∧ some k_ ≠ (v1_ : Value).ownBlock) v0_ r1 ∧ Kd.N (Kd.slice 71 k71) 22 w' w.heap.size (fun k_ => (w.heap.size ≤ k_) ∧ some k_ ≠ (v0_ : Value).ownBlock) v1_ r2 ∧ Below w.heap.size w w' := by
 have hu79 := Try.underlying79
 have hu40 := Try.underlying40
 have HR0_0 := zA hr0_0
 have HC0_0 := zA hc0_0
 clear hr0_0 hc0_0
 have HR0_1 := zA hr0_1
 have HC0_1 := zA hc0_1
 clear hr0_1 hc0_1
 have HR0_2 := zA hr0_2
 have HC0_2 := zA hc0_2
 clear hr0_2 hc0_2
 have HR0_3 := zA hr0_3
 have HC0_3 := zA hc0_3
 clear hr0_3 hc0_3
 have HB := zA (Below.refl w.heap.size w)
 have H : ((pianolalaw04_Set_made.f k l0_0).bind fun t515 => ((some (([t515] : List (List (S71))) : List (List (S71)))).bind fun y518 => ((pianolalaw04_Set_made.f k l0_2).bind fun t521 => ((some (([t521] : List (List (S71))) : List (List (S71)))).bind fun y524 => (if a0_4 = true then ((pianolalaw04_Set_made.f k l0_1).bind fun t528 => (if y518.length < 5864062014805 then ((some (y518 ++ [t528] : List (List (S71)))).bind fun y531 => (if a0_5 = true then ((pianolalaw04_Set_made.f k l0_3).bind fun t534 => (if y524.length < 5864062014805 then (some (y531, (y524 ++ [t534]))) else (none))) else (some (y531, y524)))) else (none))) else (if a0_5 = true then ((pianolalaw04_Set_made.f k l0_3).bind fun t540 => (if y524.length < 5864062014805 then (some (y518, (y524 ++ [t540]))) else (none))) else (some (y518, y524)))))))) = some (r1, r2) := h
 clear h
 replace H := Option.bind_eq_some_iff.mp H
 obtain ⟨t515, A20, H⟩ := H
 replace H : ((some (([t515] : List (List (S71))) : List (List (S71)))).bind fun y518 => ((pianolalaw04_Set_made.f k l0_2).bind fun t521 => ((some (([t521] : List (List (S71))) : List (List (S71)))).bind fun y524 => (if a0_4 = true then ((pianolalaw04_Set_made.f k l0_1).bind fun t528 => (if y518.length < 5864062014805 then ((some (y518 ++ [t528] : List (List (S71)))).bind fun y531 => (if a0_5 = true then ((pianolalaw04_Set_made.f k l0_3).bind fun t534 => (if y524.length < 5864062014805 then (some (y531, (y524 ++ [t534]))) else (none))) else (some (y531, y524)))) else (none))) else (if a0_5 = true then ((pianolalaw04_Set_made.f k l0_3).bind fun t540 => (if y524.length < 5864062014805 then (some (y518, (y524 ++ [t540]))) else (none))) else (some (y518, y524))))))) = some (r1, r2) := H
 have A2 := zA A20
 clear A20
 obtain ⟨y518, hy518⟩ : ∃ y_ : List (List (S71)), y_ = (([t515] : List (List (S71)))) := ⟨_, rfl⟩
 replace H : ((pianolalaw04_Set_made.f k l0_2).bind fun t521 => ((some (([t521] : List (List (S71))) : List (List (S71)))).bind fun y524 => (if a0_4 = true then ((pianolalaw04_Set_made.f k l0_1).bind fun t528 => (if y518.length < 5864062014805 then ((some (y518 ++ [t528] : List (List (S71)))).bind fun y531 => (if a0_5 = true then ((pianolalaw04_Set_made.f k l0_3).bind fun t534 => (if y524.length < 5864062014805 then (some (y531, (y524 ++ [t534]))) else (none))) else (some (y531, y524)))) else (none))) else (if a0_5 = true then ((pianolalaw04_Set_made.f k l0_3).bind fun t540 => (if y524.length < 5864062014805 then (some (y518, (y524 ++ [t540]))) else (none))) else (some (y518, y524)))))) = some (r1, r2) := zqF hy518 H
 have Ny518 := zA hy518
 clear hy518
 replace H := Option.bind_eq_some_iff.mp H
 obtain ⟨t521, A30, H⟩ := H
 replace H : ((some (([t521] : List (List (S71))) : List (List (S71)))).bind fun y524 => (if a0_4 = true then ((pianolalaw04_Set_made.f k l0_1).bind fun t528 => (if y518.length < 5864062014805 then ((some (y518 ++ [t528] : List (List (S71)))).bind fun y531 => (if a0_5 = true then ((pianolalaw04_Set_made.f k l0_3).bind fun t534 => (if y524.length < 5864062014805 then (some (y531, (y524 ++ [t534]))) else (none))) else (some (y531, y524)))) else (none))) else (if a0_5 = true then ((pianolalaw04_Set_made.f k l0_3).bind fun t540 => (if y524.length < 5864062014805 then (some (y518, (y524 ++ [t540]))) else (none))) else (some (y518, y524))))) = some (r1, r2) := H
 have A3 := zA A30
 clear A30
 obtain ⟨y524, hy524⟩ : ∃ y_ : List (List (S71)), y_ = (([t521] : List (List (S71)))) := ⟨_, rfl⟩
 replace H : (if a0_4 = true then ((pianolalaw04_Set_made.f k l0_1).bind fun t528 => (if y518.length < 5864062014805 then ((some (y518 ++ [t528] : List (List (S71)))).bind fun y531 => (if a0_5 = true then ((pianolalaw04_Set_made.f k l0_3).bind fun t534 => (if y524.length < 5864062014805 then (some (y531, (y524 ++ [t534]))) else (none))) else (some (y531, y524)))) else (none))) else (if a0_5 = true then ((pianolalaw04_Set_made.f k l0_3).bind fun t540 => (if y524.length < 5864062014805 then (some (y518, (y524 ++ [t540]))) else (none))) else (some (y518, y524)))) = some (r1, r2) := zqF hy524 H
 have Ny524 := zA hy524
 clear hy524
 have HX := zA H
 clear H
 go_enter Try.func44, Try.ntmps44
 try go_wp2_with (first | ((with_reducible refine gate_dst (N := 1) rfl ?_); refine box_event ?hg78 (N := 1) ?hd78 (cs := #[.slice A0_0 l0_0.length c0_0, .slice A0_1 l0_1.length c0_1, .slice A0_2 l0_2.length c0_2, .slice A0_3 l0_3.length c0_3, .bool a0_4, .bool a0_5]) (t := 79) ?hr78 ?_; (case hd78 => rfl); (case hg78 => rfl); (case hr78 => first | (go_simp; done) | (go_simp; rfl)); intro gb513 hg w10 hbox hb; have n0_ := zA (below_step (zqA HB.out) hb); have n1_ := zA (hbox); have n2_ := zA ((by rw [hg]; exact (below_size (zqA HB.out)) : w.heap.size ≤ gb513)); have n3_ := zA ((by rw [hg]; exact (below_size (zqA HB.out)) : w.heap.size ≤ gb513)); clear HB; have HB := n0_; have BK513 := n1_; have GW513 := n2_; have GE513 := n3_; clear n0_ n1_ n2_ n3_; clear hb hbox hg) | ((with_reducible refine gate_dst (N := 2) rfl ?_); refine box_event ?hg78 (N := 2) ?hd78 (cs := #[.slice none 0 0, .slice none 0 0]) (t := 40) ?hr78 ?_; (case hd78 => rfl); (case hg78 => rfl); (case hr78 => first | (go_simp; done) | (go_simp; rfl)); intro gb514 hg w11 hbox hb; have n0_ := zA (blk_below (g := gb513) (o := .cells #[.slice A0_0 l0_0.length c0_0, .slice A0_1 l0_1.length c0_1, .slice A0_2 l0_2.length c0_2, .slice A0_3 l0_3.length c0_3, .bool a0_4, .bool a0_5] 79 (0, 0)) (zqB BK513.out) hb); have n1_ := zA (below_step (zqG HB.out GE513.out) hb); have n2_ := zA (hbox); have n3_ := zA ((by rw [hg]; exact (below_size (zqG HB.out GE513.out)) : w.heap.size ≤ gb514)); have n4_ := zA ((by rw [hg]; exact (below_size (zqG HB.out GE513.out)) : w.heap.size ≤ gb514)); have n5_ := zA ((by rw [hg]; exact Nat.ne_of_lt (blk_lt (g := gb513) (o := .cells #[.slice A0_0 l0_0.length c0_0, .slice A0_1 l0_1.length c0_1, .slice A0_2 l0_2.length c0_2, .slice A0_3 l0_3.length c0_3, .bool a0_4, .bool a0_5] 79 (0, 0)) (zqB BK513.out)) : gb513 ≠ gb514)); have n6_ := zA ((by rw [hg]; exact Nat.ne_of_gt (blk_lt (g := gb513) (o := .cells #[.slice A0_0 l0_0.length c0_0, .slice A0_1 l0_1.length c0_1, .slice A0_2 l0_2.length c0_2, .slice A0_3 l0_3.length c0_3, .bool a0_4, .bool a0_5] 79 (0, 0)) (zqB BK513.out)) : gb514 ≠ gb513)); clear BK513; clear HB; have BK513 := n0_; have HB := n1_; have BK514 := n2_; have GW514 := n3_; have GE514 := n4_; have NB513_514 := n5_; have NB514_513 := n6_; clear n0_ n1_ n2_ n3_ n4_ n5_ n6_; clear hb hbox hg))
 have n0_ := zA (blk_drew BK513.out); have n1_ := zA (blk_drew BK514.out); have n2_ := zA (below_drew1 HB.out); clear BK513 BK514 HB; have BK513 := n0_; have BK514 := n1_; have HB := n2_; clear n0_ n1_ n2_
 refine start_ (n := 13) (S := fun w' => w'.cell? ⟨gb513, 0, none⟩ = some (.slice A0_0 l0_0.length c0_0) ∧ w'.cell? ⟨gb513, 1, none⟩ = some (.slice A0_1 l0_1.length c0_1) ∧ w'.cell? ⟨gb513, 2, none⟩ = some (.slice A0_2 l0_2.length c0_2) ∧ w'.cell? ⟨gb513, 3, none⟩ = some (.slice A0_3 l0_3.length c0_3) ∧ w'.cell? ⟨gb513, 4, none⟩ = some (.bool a0_4) ∧ w'.cell? ⟨gb513, 5, none⟩ = some (.bool a0_5)) (ds := []) #[false, false, false, false, false, false, false, false, false, false, false, false, false] (by kernel_rfl) rfl rfl (zrV4x1 BK513.out) (fun hHeld => ?_); refine with_tabW pianolalaw04_Engine_made.tab1 pianolalaw04_Engine_made.bits1 (fun HT_ HW_ => ?_)
 generalize w11.drew = w12 at BK513 BK514 HB hHeld ⊢
 refine pure_ (i := 0) (N := some 4) (v := ?_) (a' := ?_) #[true, false, false, false, false, false, false, false, false, false, false, false, false] rfl rfl (any_of HT_.out (by kernel_rfl)) (fun _ _ _ h => h) (Or.inl ⟨by rfl, ?_⟩) ?_ ?_
 rotate_left
 ·
  intro w'
  go_simp
  with_reducible rfl
 rotate_left
 · simp only [Act.put, setIfInBounds_toArray, set_cons_zero, set_cons_succ, i64_w, i32_w]; rfl
 refine pure_ (i := 1) (N := some 5) (v := ?_) (a' := ?_) #[true, true, false, false, false, false, false, false, false, false, false, false, false] rfl rfl (any_of HT_.out (by kernel_rfl)) (fun _ _ _ h => h) (Or.inl ⟨by rfl, ?_⟩) ?_ ?_
 rotate_left
 ·
  intro w'
  go_simp
  with_reducible rfl
 rotate_left
 · simp only [Act.put, setIfInBounds_toArray, set_cons_zero, set_cons_succ, i64_w, i32_w]; rfl
 refine pure_ (i := 5) (N := some 9) (v := ?_) (a' := ?_) #[true, true, false, false, false, true, false, false, false, false, false, false, false] rfl rfl (any_of HT_.out (by kernel_rfl)) (fun _ _ _ h => h) (Or.inl ⟨by rfl, ?_⟩) ?_ ?_
 rotate_left
 ·
  intro w'
  go_simp
  with_reducible rfl
 rotate_left
 · simp only [Act.put, setIfInBounds_toArray, set_cons_zero, set_cons_succ, i64_w, i32_w]; rfl
 refine pure_ (i := 6) (N := some 10) (v := ?_) (a' := ?_) #[true, true, false, false, false, true, true, false, false, false, false, false, false] rfl rfl (any_of HT_.out (by kernel_rfl)) (fun _ _ _ h => h) (Or.inl ⟨by rfl, ?_⟩) ?_ ?_
 rotate_left
 ·
  intro w'
  go_simp
  with_reducible rfl
 rotate_left
 · simp only [Act.put, setIfInBounds_toArray, set_cons_zero, set_cons_succ, i64_w, i32_w]; rfl
 refine take_ (i := 2) (N := some 6) (v := ?_) (a' := ?_) #[true, true, true, false, false, true, true, false, false, false, false, false, false] rfl rfl (take_ofW HT_.out HW_.out (by kernel_rfl)) (fun _ _ _ h => h) (Or.inl ⟨by rfl, ?_⟩) hHeld ?_ ?_
 rotate_left
 ·
  rintro w' ⟨s0, s1, s2, s3, s4, s5⟩
  go_simp
  with_reducible rfl
 rotate_left
 · simp only [Act.put, setIfInBounds_toArray, set_cons_zero, set_cons_succ, i64_w, i32_w]; rfl
 refine take_ (i := 7) (N := some 11) (v := ?_) (a' := ?_) #[true, true, true, false, false, true, true, true, false, false, false, false, false] rfl rfl (take_ofW HT_.out HW_.out (by kernel_rfl)) (fun _ _ _ h => h) (Or.inl ⟨by rfl, ?_⟩) hHeld ?_ ?_
 rotate_left
 ·
  rintro w' ⟨s0, s1, s2, s3, s4, s5⟩
  go_simp
  with_reducible rfl
 rotate_left
 · simp only [Act.put, setIfInBounds_toArray, set_cons_zero, set_cons_succ, i64_w, i32_w]; rfl
 refine join_ (σ := Value × Value × Value × Value × Nat) 1 #[true, true, true, true, true, true, true, true, true, true, true, true, false] (fun s_ => [(7, s_.1), (8, s_.2.1), (12, s_.2.2.1), (13, s_.2.2.2.1), (3, .pointer (some ⟨s_.2.2.2.2, 0, none⟩)), (14, .agg #[s_.2.1, s_.2.2.2.1])]) (fun s_ w' => (w'.cell? ⟨gb513, 0, none⟩ = some (.slice A0_0 l0_0.length c0_0) ∧ w'.cell? ⟨gb513, 1, none⟩ = some (.slice A0_1 l0_1.length c0_1) ∧ w'.cell? ⟨gb513, 2, none⟩ = some (.slice A0_2 l0_2.length c0_2) ∧ w'.cell? ⟨gb513, 3, none⟩ = some (.slice A0_3 l0_3.length c0_3) ∧ w'.cell? ⟨gb513, 4, none⟩ = some (.bool a0_4) ∧ w'.cell? ⟨gb513, 5, none⟩ = some (.bool a0_5)) ∧ (Kd.N (Kd.slice 71 k71) 22 w' w.heap.size (fun k_ => (w.heap.size ≤ k_) ∧ some k_ ≠ (s_.2.2.2.1 : Value).ownBlock ∧ k_ ≠ gb513 ∧ k_ ≠ gb514 ∧ k_ ≠ s_.2.2.2.2) s_.2.1 y518) ∧ (Kd.N (Kd.slice 71 k71) 22 w' w.heap.size (fun k_ => (w.heap.size ≤ k_) ∧ some k_ ≠ (s_.2.1 : Value).ownBlock ∧ k_ ≠ gb513 ∧ k_ ≠ gb514 ∧ k_ ≠ s_.2.2.2.2) s_.2.2.2.1 y524) ∧ (w'.heap[gb513]? = some (.cells #[.slice A0_0 l0_0.length c0_0, .slice A0_1 l0_1.length c0_1, .slice A0_2 l0_2.length c0_2, .slice A0_3 l0_3.length c0_3, .bool a0_4, .bool a0_5] 79 (0, 0))) ∧ (w'.heap[gb514]? = some (.cells #[.slice none 0 0, .slice none 0 0] 40 (0, 0))) ∧ (w'.heap[s_.2.2.2.2]? = some (.cells #[.slice none 0 0, .slice none 0 0] 40 (0, 0))) ∧ (w.heap.size ≤ s_.2.2.2.2) ∧ (w.heap.size ≤ s_.2.2.2.2) ∧ (gb513 ≠ s_.2.2.2.2) ∧ (s_.2.2.2.2 ≠ gb513) ∧ (gb514 ≠ s_.2.2.2.2) ∧ (s_.2.2.2.2 ≠ gb514) ∧ (Below w.heap.size w w')) ?_ ?_
 rotate_left
 ·
  intro hJ3_4_8_9_11
  refine join_ (σ := Value × Value × Value × Value) 2 #[true, true, true, true, true, true, true, true, true, true, true, false, false] (fun s_ => [(7, s_.1), (8, s_.2.1), (12, s_.2.2.1), (13, s_.2.2.2), (14, .agg #[s_.2.1, s_.2.2.2])]) (fun s_ w' => (w'.cell? ⟨gb513, 0, none⟩ = some (.slice A0_0 l0_0.length c0_0) ∧ w'.cell? ⟨gb513, 1, none⟩ = some (.slice A0_1 l0_1.length c0_1) ∧ w'.cell? ⟨gb513, 2, none⟩ = some (.slice A0_2 l0_2.length c0_2) ∧ w'.cell? ⟨gb513, 3, none⟩ = some (.slice A0_3 l0_3.length c0_3) ∧ w'.cell? ⟨gb513, 4, none⟩ = some (.bool a0_4) ∧ w'.cell? ⟨gb513, 5, none⟩ = some (.bool a0_5)) ∧ (Kd.N (Kd.slice 71 k71) 22 w' w.heap.size (fun k_ => (w.heap.size ≤ k_) ∧ some k_ ≠ (s_.2.2.2 : Value).ownBlock ∧ k_ ≠ gb513 ∧ k_ ≠ gb514) s_.2.1 y518) ∧ (Kd.N (Kd.slice 71 k71) 22 w' w.heap.size (fun k_ => (w.heap.size ≤ k_) ∧ some k_ ≠ (s_.2.1 : Value).ownBlock ∧ k_ ≠ gb513 ∧ k_ ≠ gb514) s_.2.2.2 y524) ∧ (w'.heap[gb513]? = some (.cells #[.slice A0_0 l0_0.length c0_0, .slice A0_1 l0_1.length c0_1, .slice A0_2 l0_2.length c0_2, .slice A0_3 l0_3.length c0_3, .bool a0_4, .bool a0_5] 79 (0, 0))) ∧ (w'.heap[gb514]? = some (.cells #[.slice none 0 0, .slice none 0 0] 40 (0, 0))) ∧ (Below w.heap.size w w')) ?_ ?_
  rotate_left
  ·
   intro hJ3_4_8_9
   refine join_ (σ := Value × Value × Value × Nat) 3 #[true, true, true, true, true, true, true, true, true, false, false, true, false] (fun s_ => [(7, s_.1), (8, s_.2.1), (12, s_.2.2.1), (3, .pointer (some ⟨s_.2.2.2, 0, none⟩))]) (fun s_ w' => (w'.cell? ⟨gb513, 0, none⟩ = some (.slice A0_0 l0_0.length c0_0) ∧ w'.cell? ⟨gb513, 1, none⟩ = some (.slice A0_1 l0_1.length c0_1) ∧ w'.cell? ⟨gb513, 2, none⟩ = some (.slice A0_2 l0_2.length c0_2) ∧ w'.cell? ⟨gb513, 3, none⟩ = some (.slice A0_3 l0_3.length c0_3) ∧ w'.cell? ⟨gb513, 4, none⟩ = some (.bool a0_4) ∧ w'.cell? ⟨gb513, 5, none⟩ = some (.bool a0_5)) ∧ (Kd.N (Kd.slice 71 k71) 22 w' w.heap.size (fun k_ => (w.heap.size ≤ k_) ∧ some k_ ≠ (s_.2.2.1 : Value).ownBlock ∧ k_ ≠ gb513 ∧ k_ ≠ gb514 ∧ k_ ≠ s_.2.2.2) s_.2.1 y518) ∧ (Kd.R k71 71 w' w.heap.size (fun k_ => (w.heap.size ≤ k_)) s_.2.2.1 t521) ∧ (w'.heap[gb513]? = some (.cells #[.slice A0_0 l0_0.length c0_0, .slice A0_1 l0_1.length c0_1, .slice A0_2 l0_2.length c0_2, .slice A0_3 l0_3.length c0_3, .bool a0_4, .bool a0_5] 79 (0, 0))) ∧ (w'.heap[gb514]? = some (.cells #[.slice none 0 0, .slice none 0 0] 40 (0, 0))) ∧ (w'.heap[s_.2.2.2]? = some (.cells #[.slice none 0 0, .slice none 0 0] 40 (0, 0))) ∧ (w.heap.size ≤ s_.2.2.2) ∧ (w.heap.size ≤ s_.2.2.2) ∧ (gb513 ≠ s_.2.2.2) ∧ (s_.2.2.2 ≠ gb513) ∧ (gb514 ≠ s_.2.2.2) ∧ (s_.2.2.2 ≠ gb514) ∧ (Below w.heap.size w w')) ?_ ?_
   rotate_left
   ·
    intro hJ3_4_8_11
    refine join_ (σ := Value × Value × Value × Nat) 3 #[true, true, true, true, false, true, true, true, true, true, false, true, false] (fun s_ => [(7, s_.1), (12, s_.2.1), (13, s_.2.2.1), (3, .pointer (some ⟨s_.2.2.2, 0, none⟩))]) (fun s_ w' => (w'.cell? ⟨gb513, 0, none⟩ = some (.slice A0_0 l0_0.length c0_0) ∧ w'.cell? ⟨gb513, 1, none⟩ = some (.slice A0_1 l0_1.length c0_1) ∧ w'.cell? ⟨gb513, 2, none⟩ = some (.slice A0_2 l0_2.length c0_2) ∧ w'.cell? ⟨gb513, 3, none⟩ = some (.slice A0_3 l0_3.length c0_3) ∧ w'.cell? ⟨gb513, 4, none⟩ = some (.bool a0_4) ∧ w'.cell? ⟨gb513, 5, none⟩ = some (.bool a0_5)) ∧ (Kd.R k71 71 w' w.heap.size (fun k_ => (w.heap.size ≤ k_)) s_.1 t515) ∧ (Kd.N (Kd.slice 71 k71) 22 w' w.heap.size (fun k_ => (w.heap.size ≤ k_) ∧ some k_ ≠ (s_.1 : Value).ownBlock ∧ k_ ≠ gb513 ∧ k_ ≠ gb514 ∧ k_ ≠ s_.2.2.2) s_.2.2.1 y524) ∧ (w'.heap[gb513]? = some (.cells #[.slice A0_0 l0_0.length c0_0, .slice A0_1 l0_1.length c0_1, .slice A0_2 l0_2.length c0_2, .slice A0_3 l0_3.length c0_3, .bool a0_4, .bool a0_5] 79 (0, 0))) ∧ (w'.heap[gb514]? = some (.cells #[.slice none 0 0, .slice none 0 0] 40 (0, 0))) ∧ (w'.heap[s_.2.2.2]? = some (.cells #[.slice none 0 0, .slice none 0 0] 40 (0, 0))) ∧ (w.heap.size ≤ s_.2.2.2) ∧ (w.heap.size ≤ s_.2.2.2) ∧ (gb513 ≠ s_.2.2.2) ∧ (s_.2.2.2 ≠ gb513) ∧ (gb514 ≠ s_.2.2.2) ∧ (s_.2.2.2 ≠ gb514) ∧ (Below w.heap.size w w')) ?_ ?_
    rotate_left
    ·
     intro hJ3_8_9_11
     refine join_ (σ := Value × Value × Value) 4 #[true, true, true, true, true, true, true, true, true, false, false, false, false] (fun s_ => [(7, s_.1), (8, s_.2.1), (12, s_.2.2)]) (fun s_ w' => (w'.cell? ⟨gb513, 0, none⟩ = some (.slice A0_0 l0_0.length c0_0) ∧ w'.cell? ⟨gb513, 1, none⟩ = some (.slice A0_1 l0_1.length c0_1) ∧ w'.cell? ⟨gb513, 2, none⟩ = some (.slice A0_2 l0_2.length c0_2) ∧ w'.cell? ⟨gb513, 3, none⟩ = some (.slice A0_3 l0_3.length c0_3) ∧ w'.cell? ⟨gb513, 4, none⟩ = some (.bool a0_4) ∧ w'.cell? ⟨gb513, 5, none⟩ = some (.bool a0_5)) ∧ (Kd.N (Kd.slice 71 k71) 22 w' w.heap.size (fun k_ => (w.heap.size ≤ k_) ∧ some k_ ≠ (s_.2.2 : Value).ownBlock ∧ k_ ≠ gb513 ∧ k_ ≠ gb514) s_.2.1 y518) ∧ (Kd.R k71 71 w' w.heap.size (fun k_ => (w.heap.size ≤ k_)) s_.2.2 t521) ∧ (w'.heap[gb513]? = some (.cells #[.slice A0_0 l0_0.length c0_0, .slice A0_1 l0_1.length c0_1, .slice A0_2 l0_2.length c0_2, .slice A0_3 l0_3.length c0_3, .bool a0_4, .bool a0_5] 79 (0, 0))) ∧ (w'.heap[gb514]? = some (.cells #[.slice none 0 0, .slice none 0 0] 40 (0, 0))) ∧ (Below w.heap.size w w')) ?_ ?_
     rotate_left
     ·
      intro hJ3_4_8
      refine join_ (σ := Value × Value × Nat) 4 #[true, true, true, true, true, true, true, true, false, false, false, true, false] (fun s_ => [(7, s_.1), (8, s_.2.1), (3, .pointer (some ⟨s_.2.2, 0, none⟩))]) (fun s_ w' => (w'.cell? ⟨gb513, 0, none⟩ = some (.slice A0_0 l0_0.length c0_0) ∧ w'.cell? ⟨gb513, 1, none⟩ = some (.slice A0_1 l0_1.length c0_1) ∧ w'.cell? ⟨gb513, 2, none⟩ = some (.slice A0_2 l0_2.length c0_2) ∧ w'.cell? ⟨gb513, 3, none⟩ = some (.slice A0_3 l0_3.length c0_3) ∧ w'.cell? ⟨gb513, 4, none⟩ = some (.bool a0_4) ∧ w'.cell? ⟨gb513, 5, none⟩ = some (.bool a0_5)) ∧ (Kd.N (Kd.slice 71 k71) 22 w' w.heap.size (fun k_ => (w.heap.size ≤ k_) ∧ k_ ≠ gb513 ∧ k_ ≠ gb514 ∧ k_ ≠ s_.2.2) s_.2.1 y518) ∧ (w'.heap[gb513]? = some (.cells #[.slice A0_0 l0_0.length c0_0, .slice A0_1 l0_1.length c0_1, .slice A0_2 l0_2.length c0_2, .slice A0_3 l0_3.length c0_3, .bool a0_4, .bool a0_5] 79 (0, 0))) ∧ (w'.heap[gb514]? = some (.cells #[.slice none 0 0, .slice none 0 0] 40 (0, 0))) ∧ (w'.heap[s_.2.2]? = some (.cells #[.slice none 0 0, .slice none 0 0] 40 (0, 0))) ∧ (w.heap.size ≤ s_.2.2) ∧ (w.heap.size ≤ s_.2.2) ∧ (gb513 ≠ s_.2.2) ∧ (s_.2.2 ≠ gb513) ∧ (gb514 ≠ s_.2.2) ∧ (s_.2.2 ≠ gb514) ∧ (Below w.heap.size w w')) ?_ ?_
      rotate_left
      ·
       intro hJ3_4_11
       refine join_ (σ := Value × Value × Value) 4 #[true, true, true, true, false, true, true, true, true, true, false, false, false] (fun s_ => [(7, s_.1), (12, s_.2.1), (13, s_.2.2)]) (fun s_ w' => (w'.cell? ⟨gb513, 0, none⟩ = some (.slice A0_0 l0_0.length c0_0) ∧ w'.cell? ⟨gb513, 1, none⟩ = some (.slice A0_1 l0_1.length c0_1) ∧ w'.cell? ⟨gb513, 2, none⟩ = some (.slice A0_2 l0_2.length c0_2) ∧ w'.cell? ⟨gb513, 3, none⟩ = some (.slice A0_3 l0_3.length c0_3) ∧ w'.cell? ⟨gb513, 4, none⟩ = some (.bool a0_4) ∧ w'.cell? ⟨gb513, 5, none⟩ = some (.bool a0_5)) ∧ (Kd.R k71 71 w' w.heap.size (fun k_ => (w.heap.size ≤ k_)) s_.1 t515) ∧ (Kd.N (Kd.slice 71 k71) 22 w' w.heap.size (fun k_ => (w.heap.size ≤ k_) ∧ some k_ ≠ (s_.1 : Value).ownBlock ∧ k_ ≠ gb513 ∧ k_ ≠ gb514) s_.2.2 y524) ∧ (w'.heap[gb513]? = some (.cells #[.slice A0_0 l0_0.length c0_0, .slice A0_1 l0_1.length c0_1, .slice A0_2 l0_2.length c0_2, .slice A0_3 l0_3.length c0_3, .bool a0_4, .bool a0_5] 79 (0, 0))) ∧ (w'.heap[gb514]? = some (.cells #[.slice none 0 0, .slice none 0 0] 40 (0, 0))) ∧ (Below w.heap.size w w')) ?_ ?_
       rotate_left
       ·
        intro hJ3_8_9
        refine join_ (σ := Value × Value × Nat) 4 #[true, true, true, true, false, true, true, true, true, false, false, true, false] (fun s_ => [(7, s_.1), (12, s_.2.1), (3, .pointer (some ⟨s_.2.2, 0, none⟩))]) (fun s_ w' => (w'.cell? ⟨gb513, 0, none⟩ = some (.slice A0_0 l0_0.length c0_0) ∧ w'.cell? ⟨gb513, 1, none⟩ = some (.slice A0_1 l0_1.length c0_1) ∧ w'.cell? ⟨gb513, 2, none⟩ = some (.slice A0_2 l0_2.length c0_2) ∧ w'.cell? ⟨gb513, 3, none⟩ = some (.slice A0_3 l0_3.length c0_3) ∧ w'.cell? ⟨gb513, 4, none⟩ = some (.bool a0_4) ∧ w'.cell? ⟨gb513, 5, none⟩ = some (.bool a0_5)) ∧ (Kd.R k71 71 w' w.heap.size (fun k_ => (w.heap.size ≤ k_) ∧ some k_ ≠ (s_.2.1 : Value).ownBlock) s_.1 t515) ∧ (Kd.R k71 71 w' w.heap.size (fun k_ => (w.heap.size ≤ k_) ∧ some k_ ≠ (s_.1 : Value).ownBlock) s_.2.1 t521) ∧ (w'.heap[gb513]? = some (.cells #[.slice A0_0 l0_0.length c0_0, .slice A0_1 l0_1.length c0_1, .slice A0_2 l0_2.length c0_2, .slice A0_3 l0_3.length c0_3, .bool a0_4, .bool a0_5] 79 (0, 0))) ∧ (w'.heap[gb514]? = some (.cells #[.slice none 0 0, .slice none 0 0] 40 (0, 0))) ∧ (w'.heap[s_.2.2]? = some (.cells #[.slice none 0 0, .slice none 0 0] 40 (0, 0))) ∧ (w.heap.size ≤ s_.2.2) ∧ (w.heap.size ≤ s_.2.2) ∧ (gb513 ≠ s_.2.2) ∧ (s_.2.2 ≠ gb513) ∧ (gb514 ≠ s_.2.2) ∧ (s_.2.2 ≠ gb514) ∧ (Below w.heap.size w w')) ?_ ?_
        rotate_left
        ·
         intro hJ3_8_11
         refine join_ (σ := Value × Value) 5 #[true, true, true, true, true, true, true, true, false, false, false, false, false] (fun s_ => [(7, s_.1), (8, s_.2)]) (fun s_ w' => (w'.cell? ⟨gb513, 0, none⟩ = some (.slice A0_0 l0_0.length c0_0) ∧ w'.cell? ⟨gb513, 1, none⟩ = some (.slice A0_1 l0_1.length c0_1) ∧ w'.cell? ⟨gb513, 2, none⟩ = some (.slice A0_2 l0_2.length c0_2) ∧ w'.cell? ⟨gb513, 3, none⟩ = some (.slice A0_3 l0_3.length c0_3) ∧ w'.cell? ⟨gb513, 4, none⟩ = some (.bool a0_4) ∧ w'.cell? ⟨gb513, 5, none⟩ = some (.bool a0_5)) ∧ (Kd.N (Kd.slice 71 k71) 22 w' w.heap.size (fun k_ => (w.heap.size ≤ k_) ∧ k_ ≠ gb513 ∧ k_ ≠ gb514) s_.2 y518) ∧ (w'.heap[gb513]? = some (.cells #[.slice A0_0 l0_0.length c0_0, .slice A0_1 l0_1.length c0_1, .slice A0_2 l0_2.length c0_2, .slice A0_3 l0_3.length c0_3, .bool a0_4, .bool a0_5] 79 (0, 0))) ∧ (w'.heap[gb514]? = some (.cells #[.slice none 0 0, .slice none 0 0] 40 (0, 0))) ∧ (Below w.heap.size w w')) ?_ ?_
         rotate_left
         ·
          intro hJ3_4
          refine join_ (σ := Value × Value) 5 #[true, true, true, true, false, true, true, true, true, false, false, false, false] (fun s_ => [(7, s_.1), (12, s_.2)]) (fun s_ w' => (w'.cell? ⟨gb513, 0, none⟩ = some (.slice A0_0 l0_0.length c0_0) ∧ w'.cell? ⟨gb513, 1, none⟩ = some (.slice A0_1 l0_1.length c0_1) ∧ w'.cell? ⟨gb513, 2, none⟩ = some (.slice A0_2 l0_2.length c0_2) ∧ w'.cell? ⟨gb513, 3, none⟩ = some (.slice A0_3 l0_3.length c0_3) ∧ w'.cell? ⟨gb513, 4, none⟩ = some (.bool a0_4) ∧ w'.cell? ⟨gb513, 5, none⟩ = some (.bool a0_5)) ∧ (Kd.R k71 71 w' w.heap.size (fun k_ => (w.heap.size ≤ k_) ∧ some k_ ≠ (s_.2 : Value).ownBlock) s_.1 t515) ∧ (Kd.R k71 71 w' w.heap.size (fun k_ => (w.heap.size ≤ k_) ∧ some k_ ≠ (s_.1 : Value).ownBlock) s_.2 t521) ∧ (w'.heap[gb513]? = some (.cells #[.slice A0_0 l0_0.length c0_0, .slice A0_1 l0_1.length c0_1, .slice A0_2 l0_2.length c0_2, .slice A0_3 l0_3.length c0_3, .bool a0_4, .bool a0_5] 79 (0, 0))) ∧ (w'.heap[gb514]? = some (.cells #[.slice none 0 0, .slice none 0 0] 40 (0, 0))) ∧ (Below w.heap.size w w')) ?_ ?_
          rotate_left
          ·
           intro hJ3_8
           refine join_ (σ := Value × Nat) 5 #[true, true, true, true, false, true, true, true, false, false, false, true, false] (fun s_ => [(7, s_.1), (3, .pointer (some ⟨s_.2, 0, none⟩))]) (fun s_ w' => (w'.cell? ⟨gb513, 0, none⟩ = some (.slice A0_0 l0_0.length c0_0) ∧ w'.cell? ⟨gb513, 1, none⟩ = some (.slice A0_1 l0_1.length c0_1) ∧ w'.cell? ⟨gb513, 2, none⟩ = some (.slice A0_2 l0_2.length c0_2) ∧ w'.cell? ⟨gb513, 3, none⟩ = some (.slice A0_3 l0_3.length c0_3) ∧ w'.cell? ⟨gb513, 4, none⟩ = some (.bool a0_4) ∧ w'.cell? ⟨gb513, 5, none⟩ = some (.bool a0_5)) ∧ (Kd.R k71 71 w' w.heap.size (fun k_ => (w.heap.size ≤ k_)) s_.1 t515) ∧ (w'.heap[gb513]? = some (.cells #[.slice A0_0 l0_0.length c0_0, .slice A0_1 l0_1.length c0_1, .slice A0_2 l0_2.length c0_2, .slice A0_3 l0_3.length c0_3, .bool a0_4, .bool a0_5] 79 (0, 0))) ∧ (w'.heap[gb514]? = some (.cells #[.slice none 0 0, .slice none 0 0] 40 (0, 0))) ∧ (w'.heap[s_.2]? = some (.cells #[.slice none 0 0, .slice none 0 0] 40 (0, 0))) ∧ (w.heap.size ≤ s_.2) ∧ (w.heap.size ≤ s_.2) ∧ (gb513 ≠ s_.2) ∧ (s_.2 ≠ gb513) ∧ (gb514 ≠ s_.2) ∧ (s_.2 ≠ gb514) ∧ (Below w.heap.size w w')) ?_ ?_
           rotate_left
           ·
            intro hJ3_11
            refine join_ (σ := Value) 6 #[true, true, true, true, false, true, true, true, false, false, false, false, false] (fun s_ => [(7, s_)]) (fun s_ w' => (w'.cell? ⟨gb513, 0, none⟩ = some (.slice A0_0 l0_0.length c0_0) ∧ w'.cell? ⟨gb513, 1, none⟩ = some (.slice A0_1 l0_1.length c0_1) ∧ w'.cell? ⟨gb513, 2, none⟩ = some (.slice A0_2 l0_2.length c0_2) ∧ w'.cell? ⟨gb513, 3, none⟩ = some (.slice A0_3 l0_3.length c0_3) ∧ w'.cell? ⟨gb513, 4, none⟩ = some (.bool a0_4) ∧ w'.cell? ⟨gb513, 5, none⟩ = some (.bool a0_5)) ∧ (Kd.R k71 71 w' w.heap.size (fun k_ => (w.heap.size ≤ k_)) s_ t515) ∧ (w'.heap[gb513]? = some (.cells #[.slice A0_0 l0_0.length c0_0, .slice A0_1 l0_1.length c0_1, .slice A0_2 l0_2.length c0_2, .slice A0_3 l0_3.length c0_3, .bool a0_4, .bool a0_5] 79 (0, 0))) ∧ (w'.heap[gb514]? = some (.cells #[.slice none 0 0, .slice none 0 0] 40 (0, 0))) ∧ (Below w.heap.size w w')) ?_ ?_
            rotate_left
            ·
             intro hJ3
             refine join_ (σ := Nat) 6 #[true, true, true, false, false, true, true, true, false, false, false, true, false] (fun s_ => [(3, .pointer (some ⟨s_, 0, none⟩))]) (fun s_ w' => (w'.cell? ⟨gb513, 0, none⟩ = some (.slice A0_0 l0_0.length c0_0) ∧ w'.cell? ⟨gb513, 1, none⟩ = some (.slice A0_1 l0_1.length c0_1) ∧ w'.cell? ⟨gb513, 2, none⟩ = some (.slice A0_2 l0_2.length c0_2) ∧ w'.cell? ⟨gb513, 3, none⟩ = some (.slice A0_3 l0_3.length c0_3) ∧ w'.cell? ⟨gb513, 4, none⟩ = some (.bool a0_4) ∧ w'.cell? ⟨gb513, 5, none⟩ = some (.bool a0_5)) ∧ (w'.heap[gb513]? = some (.cells #[.slice A0_0 l0_0.length c0_0, .slice A0_1 l0_1.length c0_1, .slice A0_2 l0_2.length c0_2, .slice A0_3 l0_3.length c0_3, .bool a0_4, .bool a0_5] 79 (0, 0))) ∧ (w'.heap[gb514]? = some (.cells #[.slice none 0 0, .slice none 0 0] 40 (0, 0))) ∧ (w'.heap[s_]? = some (.cells #[.slice none 0 0, .slice none 0 0] 40 (0, 0))) ∧ (w.heap.size ≤ s_) ∧ (w.heap.size ≤ s_) ∧ (gb513 ≠ s_) ∧ (s_ ≠ gb513) ∧ (gb514 ≠ s_) ∧ (s_ ≠ gb514) ∧ (Below w.heap.size w w')) ?_ ?_
             rotate_left
             ·
              intro hJ11
              refine two_ (i := 3) (j := 11) (Ni := some 7) (Nj := some 3) #[true, true, true, true, false, true, true, true, false, false, false, false, false] #[true, true, true, false, false, true, true, true, false, false, false, true, false] rfl rfl rfl rfl (two_of HT_.out (by kernel_rfl)) (by decide) (by decide) (fun K hK => ?_) (fun K hK => ?_)
              ·
               refine goes_ Try.func40 (by kernel_rfl) rfl #[.slice A0_0 l0_0.length c0_0] (by rfl) rfl rfl zqE ?_
               with_reducible refine (pianolalaw04_Set_made.calls k _ _ l0_0 t515 _ ?side1 ?side2 A2.out).mono ?_
               (case side1 => exact zqK (Kd.C_below HR0_0.out HB.out))
               (case side2 => exact HC0_0.out)
               rintro e w13 ⟨v516, rfl, ho0, hb⟩
               refine ⟨_, rfl, ?_⟩
               have n0_ := zA (Kd.R_lower (Kd.R_newM (M := fun k_ => (w.heap.size ≤ k_)) ho0 (below_size (zqH HB.out GE513.out GE514.out)) (fun k_ h_ => h_)) (below_size (zqH HB.out GE513.out GE514.out))); have n1_ := zA (blk_below (g := gb513) (zqB BK513.out) hb); have n2_ := zA (blk_below (g := gb514) (zqB BK514.out) hb); have n3_ := zA (below_step (zqH HB.out GE513.out GE514.out) hb); clear BK513 BK514 HB; have HO517 := n0_; have BK513 := n1_; have BK514 := n2_; have HB := n3_; clear n0_ n1_ n2_ n3_
               (try clear hb); (try clear hb2); (try clear hk); (try clear hi); (try clear ho0)
               refine hK.out _ _ (zrV4x1 BK513.out) (fun hHeld => ?_)
               clear hK K; refine norm_ (a' := ?_) ?_ ?_; rotate_left
               · show Act.put _ (some 7) _ = _; simp only [Act.put, setIfInBounds_toArray, set_cons_zero, set_cons_succ, i64_w, i32_w]; rfl
               exact norm_ (zqP) (hJ3 (v516) _ ⟨hHeld, (by (with_reducible repeat (first | apply Kd.R_alloc | apply Kd.R_drewN | apply Kd.R_drew)); exact Kd.R_mono HO517.out (fun _ hk => hk.1)), (zqB BK513.out), (zqB BK514.out), (zqH HB.out GE513.out GE514.out)⟩)
              ·
               refine box_step ?hg212 (N := 3) ?hd212 (cs := #[.slice none 0 0, .slice none 0 0]) (t := 40) ?hr212 ?_; (case hd212 => rfl); (case hg212 => rfl); (case hr212 => first | (go_simp; done) | (go_simp; rfl))
               intro gb527 hg w13 hbox hb
               have n0_ := zA (blk_below (g := gb513) (zqB BK513.out) hb); have n1_ := zA (blk_below (g := gb514) (zqB BK514.out) hb); have n2_ := zA (below_step (zqH HB.out GE513.out GE514.out) hb); have n3_ := zA (hbox)
               have n4_ := zA ((by rw [hg]; exact (below_size (zqH HB.out GE513.out GE514.out)) : w.heap.size ≤ gb527))
               have n5_ := zA ((by rw [hg]; exact (below_size (zqH HB.out GE513.out GE514.out)) : w.heap.size ≤ gb527))
               have n6_ := zA ((by rw [hg]; exact Nat.ne_of_lt (blk_lt (g := gb513) (zqB BK513.out)) : gb513 ≠ gb527))
               have n7_ := zA ((by rw [hg]; exact Nat.ne_of_gt (blk_lt (g := gb513) (zqB BK513.out)) : gb527 ≠ gb513))
               have n8_ := zA ((by rw [hg]; exact Nat.ne_of_lt (blk_lt (g := gb514) (zqB BK514.out)) : gb514 ≠ gb527))
               have n9_ := zA ((by rw [hg]; exact Nat.ne_of_gt (blk_lt (g := gb514) (zqB BK514.out)) : gb527 ≠ gb514))
               clear BK513 BK514 HB; have BK513 := n0_; have BK514 := n1_; have HB := n2_; have BK527 := n3_; have GW527 := n4_; have GE527 := n5_; have NB513_527 := n6_; have NB527_513 := n7_; have NB514_527 := n8_; have NB527_514 := n9_; clear n0_ n1_ n2_ n3_ n4_ n5_ n6_ n7_ n8_ n9_ hb hbox hg
               refine hK.out _ _ (zrV4x1 BK513.out) (fun hHeld => ?_)
               clear hK K; refine norm_ (a' := ?_) ?_ ?_; rotate_left
               · show Act.put _ (some 3) _ = _; simp only [Act.put, setIfInBounds_toArray, set_cons_zero, set_cons_succ, i64_w, i32_w]; rfl
               exact norm_ (zqP) (hJ11 (gb527) _ ⟨hHeld, (zqB BK513.out), (zqB BK514.out), (zqB BK527.out), GW527.out, GE527.out, NB513_527.out, NB527_513.out, NB514_527.out, NB527_514.out, (zqI HB.out GE513.out GE514.out GE527.out)⟩)
             ·
              rintro gb527 w14 ⟨hS_, h0_, h1_, h2_, h3_, h4_, h5_, h6_, h7_, h8_, h9_⟩
              have n0_ : Aside0 (w14.heap[gb513]? = some (.cells #[.slice A0_0 l0_0.length c0_0, .slice A0_1 l0_1.length c0_1, .slice A0_2 l0_2.length c0_2, .slice A0_3 l0_3.length c0_3, .bool a0_4, .bool a0_5] 79 (0, 0))) := ⟨h0_⟩
              have n1_ : Aside0 (w14.heap[gb514]? = some (.cells #[.slice none 0 0, .slice none 0 0] 40 (0, 0))) := ⟨h1_⟩
              have n2_ : Aside0 (w14.heap[gb527]? = some (.cells #[.slice none 0 0, .slice none 0 0] 40 (0, 0))) := ⟨h2_⟩
              have n3_ : Aside0 (w.heap.size ≤ gb527) := ⟨h3_⟩
              have n4_ : Aside0 (w.heap.size ≤ gb527) := ⟨h4_⟩
              have n5_ : Aside0 (gb513 ≠ gb527) := ⟨h5_⟩
              have n6_ : Aside0 (gb527 ≠ gb513) := ⟨h6_⟩
              have n7_ : Aside0 (gb514 ≠ gb527) := ⟨h7_⟩
              have n8_ : Aside0 (gb527 ≠ gb514) := ⟨h8_⟩
              have n9_ : Aside0 (Below w.heap.size w w14) := ⟨h9_⟩
              clear BK513 BK514 HB h0_ h1_ h2_ h3_ h4_ h5_ h6_ h7_ h8_ h9_; have BK513 := n0_; have BK514 := n1_; have BK527 := n2_; have GW527 := n3_; have GE527 := n4_; have NB513_527 := n5_; have NB527_513 := n6_; have NB514_527 := n7_; have NB527_514 := n8_; have HB := n9_; clear n0_ n1_ n2_ n3_ n4_ n5_ n6_ n7_ n8_ n9_
              have hHeld : w14.cell? ⟨gb513, 0, none⟩ = some (.slice A0_0 l0_0.length c0_0) ∧ w14.cell? ⟨gb513, 1, none⟩ = some (.slice A0_1 l0_1.length c0_1) ∧ w14.cell? ⟨gb513, 2, none⟩ = some (.slice A0_2 l0_2.length c0_2) ∧ w14.cell? ⟨gb513, 3, none⟩ = some (.slice A0_3 l0_3.length c0_3) ∧ w14.cell? ⟨gb513, 4, none⟩ = some (.bool a0_4) ∧ w14.cell? ⟨gb513, 5, none⟩ = some (.bool a0_5) := hS_
              refine norm_ (a' := ?_) ?_ ?_; rotate_left
              · simp only [putAll, Act.put, setIfInBounds_toArray, set_cons_zero, set_cons_succ]; rfl
              refine one_ (i := 3) (N := some 7) #[true, true, true, true, false, true, true, true, false, false, false, true, false] rfl rfl (one_of HT_.out (by kernel_rfl)) (by decide) (fun K hK => ?_)
              refine goes_ Try.func40 (by kernel_rfl) rfl #[.slice A0_0 l0_0.length c0_0] (by rfl) rfl rfl zqE ?_
              with_reducible refine (pianolalaw04_Set_made.calls k _ _ l0_0 t515 _ ?side1 ?side2 A2.out).mono ?_
              (case side1 => exact zqK (Kd.C_below HR0_0.out HB.out))
              (case side2 => exact HC0_0.out)
              rintro e w15 ⟨v516, rfl, ho0, hb⟩
              refine ⟨_, rfl, ?_⟩
              have n0_ := zA (Kd.R_lower (Kd.R_newM (M := fun k_ => (w.heap.size ≤ k_)) ho0 (below_size (zqI HB.out GE513.out GE514.out GE527.out)) (fun k_ h_ => h_)) (below_size (zqI HB.out GE513.out GE514.out GE527.out))); have n1_ := zA (blk_below (g := gb513) (zqB BK513.out) hb); have n2_ := zA (blk_below (g := gb514) (zqB BK514.out) hb); have n3_ := zA (blk_below (g := gb527) (zqB BK527.out) hb); have n4_ := zA (below_step (zqI HB.out GE513.out GE514.out GE527.out) hb); clear BK513 BK514 BK527 HB; have HO517 := n0_; have BK513 := n1_; have BK514 := n2_; have BK527 := n3_; have HB := n4_; clear n0_ n1_ n2_ n3_ n4_
              (try clear hb); (try clear hb2); (try clear hk); (try clear hi); (try clear ho0)
              refine hK.out _ _ (zrV4x1 BK513.out) (fun hHeld => ?_)
              clear hK K; refine norm_ (a' := ?_) ?_ ?_; rotate_left
              · show Act.put _ (some 7) _ = _; simp only [Act.put, setIfInBounds_toArray, set_cons_zero, set_cons_succ, i64_w, i32_w]; rfl
              exact norm_ (zqP) (hJ3_11 (v516, gb527) _ ⟨hHeld, (by (with_reducible repeat (first | apply Kd.R_alloc | apply Kd.R_drewN | apply Kd.R_drew)); exact Kd.R_mono HO517.out (fun _ hk => hk.1)), (zqB BK513.out), (zqB BK514.out), (zqB BK527.out), GW527.out, GE527.out, NB513_527.out, NB527_513.out, NB514_527.out, NB527_514.out, (zqI HB.out GE513.out GE514.out GE527.out)⟩)
            ·
             rintro v516 w14 ⟨hS_, h0_, h1_, h2_, h3_⟩
             have n0_ : Aside0 (Kd.R k71 71 w14 w.heap.size (fun k_ => (w.heap.size ≤ k_)) v516 t515) := ⟨h0_⟩
             have n1_ : Aside0 (w14.heap[gb513]? = some (.cells #[.slice A0_0 l0_0.length c0_0, .slice A0_1 l0_1.length c0_1, .slice A0_2 l0_2.length c0_2, .slice A0_3 l0_3.length c0_3, .bool a0_4, .bool a0_5] 79 (0, 0))) := ⟨h1_⟩
             have n2_ : Aside0 (w14.heap[gb514]? = some (.cells #[.slice none 0 0, .slice none 0 0] 40 (0, 0))) := ⟨h2_⟩
             have n3_ : Aside0 (Below w.heap.size w w14) := ⟨h3_⟩
             clear BK513 BK514 HB h0_ h1_ h2_ h3_; have HO517 := n0_; have BK513 := n1_; have BK514 := n2_; have HB := n3_; clear n0_ n1_ n2_ n3_
             have hHeld : w14.cell? ⟨gb513, 0, none⟩ = some (.slice A0_0 l0_0.length c0_0) ∧ w14.cell? ⟨gb513, 1, none⟩ = some (.slice A0_1 l0_1.length c0_1) ∧ w14.cell? ⟨gb513, 2, none⟩ = some (.slice A0_2 l0_2.length c0_2) ∧ w14.cell? ⟨gb513, 3, none⟩ = some (.slice A0_3 l0_3.length c0_3) ∧ w14.cell? ⟨gb513, 4, none⟩ = some (.bool a0_4) ∧ w14.cell? ⟨gb513, 5, none⟩ = some (.bool a0_5) := hS_
             obtain ⟨Ao15, co15, eo15⟩ := Kd.R_slice HO517.out
             (first | subst eo15 | (injection eo15 with f1_ f2_ f3_; have f4_ := f1_.symm; have f5_ := f3_.symm; clear f1_ f2_ f3_; subst f4_; subst f5_))
             refine norm_ (a' := ?_) ?_ ?_; rotate_left
             · simp only [putAll, Act.put, setIfInBounds_toArray, set_cons_zero, set_cons_succ]; rfl
             refine three_ (i := 4) (j := 8) (k := 11) (Ni := some 8) (Nj := some 12) (Nk := some 3) #[true, true, true, true, true, true, true, true, false, false, false, false, false] #[true, true, true, true, false, true, true, true, true, false, false, false, false] #[true, true, true, true, false, true, true, true, false, false, false, true, false] rfl rfl rfl rfl rfl rfl (three_of HT_.out (by kernel_rfl)) (by decide) (by decide) (by decide) (fun K hK => ?_) (fun K hK => ?_) (fun K hK => ?_)
             ·
              refine Kd.N_lit_step (Kd.slice 71 k71) _ 22 ?hg338 (N' := 8) ?hd338 (xs := ([t515] : List (List (S71)))) (inner := [.slice Ao15 t515.length co15]) (ok := (fun k_ => (w.heap.size ≤ k_) ∧ k_ ≠ gb513 ∧ k_ ≠ gb514)) (okp := (fun k_ => (w.heap.size ≤ k_) ∧ k_ ≠ gb513 ∧ k_ ≠ gb514)) ?hr338 ?hp (fun _ hk => hk) ((show ∀ k_, w14.heap.size ≤ k_ → (fun k_ => (w.heap.size ≤ k_) ∧ k_ ≠ gb513 ∧ k_ ≠ gb514) k_ from fun k_ hk => ⟨(Nat.le_trans (below_size (zqH HB.out GE513.out GE514.out)) hk), Kd.freshB (g := gb513) (o := .cells #[.slice A0_0 l0_0.length c0_0, .slice A0_1 l0_1.length c0_1, .slice A0_2 l0_2.length c0_2, .slice A0_3 l0_3.length c0_3, .bool a0_4, .bool a0_5] 79 (0, 0)) (zqB BK513.out) k_ hk, Kd.freshB (g := gb514) (o := .cells #[.slice none 0 0, .slice none 0 0] 40 (0, 0)) (zqB BK514.out) k_ hk⟩) _ (Nat.le_refl _)) (Below.refl _ _) (Nat.le_refl _) (by simp) ?_; (case hd338 => rfl); (case hg338 => rfl); (case hr338 => first | (go_simp; done) | (go_simp; rfl)); (case hp => exact (Reps.one (show Kd.FK (Kd.slice 71 k71) _ _ t515 [.slice Ao15 t515.length co15] from (Kd.FK_slice_mk (Kd.R_reads' (Kd.R_mono (ok' := (fun k_ => (w.heap.size ≤ k_) ∧ k_ ≠ gb513 ∧ k_ ≠ gb514)) (Kd.R_types (Kd.R_types (HO517.out) BK513.out (by decide)) BK514.out (by decide)) (fun k_ hk => ⟨hk.1.1, ⟨hk.1.2, hk.2⟩⟩))).2.1 (Kd.R_F (Kd.R_mono (ok' := (fun k_ => (w.heap.size ≤ k_) ∧ k_ ≠ gb513 ∧ k_ ≠ gb514)) (Kd.R_types (Kd.R_types (HO517.out) BK513.out (by decide)) BK514.out (by decide)) (fun k_ hk => ⟨hk.1.1, ⟨hk.1.2, hk.2⟩⟩))))) (Reps.none _ _)))
              intro v519 w16 ho17 hb hg_ hnew_
              clear hg_ hnew_
              (first | rw [← Ny518.out] at ho17 | (simp only [Int.reduceToNat] at ho17; rw [← Ny518.out] at ho17))
              have n0_ := zA (Kd.N_lower ho17 (below_size (zqH HB.out GE513.out GE514.out))); have n1_ := zA (blk_below (g := gb513) (zqB BK513.out) hb); have n2_ := zA (blk_below (g := gb514) (zqB BK514.out) hb); have n3_ := zA (below_step (zqH HB.out GE513.out GE514.out) hb); clear BK513 BK514 HB HO517; have HO520 := n0_; have BK513 := n1_; have BK514 := n2_; have HB := n3_; clear n0_ n1_ n2_ n3_ hb ho17
              refine hK.out _ _ (zrV4x1 BK513.out) (fun hHeld => ?_)
              clear hK K; refine norm_ (a' := ?_) ?_ ?_; rotate_left
              · show Act.put _ (some 8) _ = _; simp only [Act.put, setIfInBounds_toArray, set_cons_zero, set_cons_succ, i64_w, i32_w]; rfl
              exact norm_ (zqP) (hJ3_4 (.slice Ao15 t515.length co15, v519) _ ⟨hHeld, (zqN HO520.out), (zqB BK513.out), (zqB BK514.out), (zqH HB.out GE513.out GE514.out)⟩)
             ·
              refine goes_ Try.func40 (by kernel_rfl) rfl #[.slice A0_2 l0_2.length c0_2] (by rfl) rfl rfl zqE ?_
              with_reducible refine (pianolalaw04_Set_made.calls k _ _ l0_2 t521 _ ?side1 ?side2 A3.out).mono ?_
              (case side1 => exact zqK (Kd.C_below HR0_2.out HB.out))
              (case side2 => exact HC0_2.out)
              rintro e w15 ⟨v522, rfl, ho0, hb⟩
              refine ⟨_, rfl, ?_⟩
              have n0_ := zA (Kd.R_elder' (zqC HO517.out) (Kd.R_base ho0) hb); have n1_ := zA (Kd.R_lower (Kd.R_new' (Kd.R_newM (M := fun k_ => (w.heap.size ≤ k_)) ho0 (below_size (zqH HB.out GE513.out GE514.out)) (fun k_ h_ => h_)) (Kd.R_lt (zqC HO517.out))) (below_size (zqH HB.out GE513.out GE514.out))); have n2_ := zA (blk_below (g := gb513) (zqB BK513.out) hb); have n3_ := zA (blk_below (g := gb514) (zqB BK514.out) hb); have n4_ := zA (below_step (zqH HB.out GE513.out GE514.out) hb); clear HO517 BK513 BK514 HB; have HO517 := n0_; have HO523 := n1_; have BK513 := n2_; have BK514 := n3_; have HB := n4_; clear n0_ n1_ n2_ n3_ n4_
              (try clear hb); (try clear hb2); (try clear hk); (try clear hi); (try clear ho0)
              refine hK.out _ _ (zrV4x1 BK513.out) (fun hHeld => ?_)
              clear hK K; refine norm_ (a' := ?_) ?_ ?_; rotate_left
              · show Act.put _ (some 12) _ = _; simp only [Act.put, setIfInBounds_toArray, set_cons_zero, set_cons_succ, i64_w, i32_w]; rfl
              exact norm_ (zqP) (hJ3_8 (.slice Ao15 t515.length co15, v522) _ ⟨hHeld, (zqC HO517.out), (by (with_reducible repeat (first | apply Kd.R_alloc | apply Kd.R_drewN | apply Kd.R_drew)); exact Kd.R_mono HO523.out (fun _ hk => ⟨hk.1.1, hk.2⟩)), (zqB BK513.out), (zqB BK514.out), (zqH HB.out GE513.out GE514.out)⟩)
             ·
              refine box_step ?hg400 (N := 3) ?hd400 (cs := #[.slice none 0 0, .slice none 0 0]) (t := 40) ?hr400 ?_; (case hd400 => rfl); (case hg400 => rfl); (case hr400 => first | (go_simp; done) | (go_simp; rfl))
              intro gb527 hg w15 hbox hb
              have n0_ := zA (Kd.R_below (zqC HO517.out) hb); have n1_ := zA (blk_below (g := gb513) (zqB BK513.out) hb); have n2_ := zA (blk_below (g := gb514) (zqB BK514.out) hb); have n3_ := zA (below_step (zqH HB.out GE513.out GE514.out) hb); have n4_ := zA (hbox)
              have n5_ := zA ((by rw [hg]; exact (below_size (zqH HB.out GE513.out GE514.out)) : w.heap.size ≤ gb527))
              have n6_ := zA ((by rw [hg]; exact (below_size (zqH HB.out GE513.out GE514.out)) : w.heap.size ≤ gb527))
              have n7_ := zA ((by rw [hg]; exact Nat.ne_of_lt (blk_lt (g := gb513) (zqB BK513.out)) : gb513 ≠ gb527))
              have n8_ := zA ((by rw [hg]; exact Nat.ne_of_gt (blk_lt (g := gb513) (zqB BK513.out)) : gb527 ≠ gb513))
              have n9_ := zA ((by rw [hg]; exact Nat.ne_of_lt (blk_lt (g := gb514) (zqB BK514.out)) : gb514 ≠ gb527))
              have n10_ := zA ((by rw [hg]; exact Nat.ne_of_gt (blk_lt (g := gb514) (zqB BK514.out)) : gb527 ≠ gb514))
              clear HO517 BK513 BK514 HB; have HO517 := n0_; have BK513 := n1_; have BK514 := n2_; have HB := n3_; have BK527 := n4_; have GW527 := n5_; have GE527 := n6_; have NB513_527 := n7_; have NB527_513 := n8_; have NB514_527 := n9_; have NB527_514 := n10_; clear n0_ n1_ n2_ n3_ n4_ n5_ n6_ n7_ n8_ n9_ n10_ hb hbox hg
              refine hK.out _ _ (zrV4x1 BK513.out) (fun hHeld => ?_)
              clear hK K; refine norm_ (a' := ?_) ?_ ?_; rotate_left
              · show Act.put _ (some 3) _ = _; simp only [Act.put, setIfInBounds_toArray, set_cons_zero, set_cons_succ, i64_w, i32_w]; rfl
              exact norm_ (zqP) (hJ3_11 (.slice Ao15 t515.length co15, gb527) _ ⟨hHeld, (zqC HO517.out), (zqB BK513.out), (zqB BK514.out), (zqB BK527.out), GW527.out, GE527.out, NB513_527.out, NB527_513.out, NB514_527.out, NB527_514.out, (zqI HB.out GE513.out GE514.out GE527.out)⟩)
           ·
            rintro ⟨v516, gb527⟩ w15 ⟨hS_, h0_, h1_, h2_, h3_, h4_, h5_, h6_, h7_, h8_, h9_, h10_⟩
            have n0_ : Aside0 (Kd.R k71 71 w15 w.heap.size (fun k_ => (w.heap.size ≤ k_)) v516 t515) := ⟨h0_⟩
            have n1_ : Aside0 (w15.heap[gb513]? = some (.cells #[.slice A0_0 l0_0.length c0_0, .slice A0_1 l0_1.length c0_1, .slice A0_2 l0_2.length c0_2, .slice A0_3 l0_3.length c0_3, .bool a0_4, .bool a0_5] 79 (0, 0))) := ⟨h1_⟩
            have n2_ : Aside0 (w15.heap[gb514]? = some (.cells #[.slice none 0 0, .slice none 0 0] 40 (0, 0))) := ⟨h2_⟩
            have n3_ : Aside0 (w15.heap[gb527]? = some (.cells #[.slice none 0 0, .slice none 0 0] 40 (0, 0))) := ⟨h3_⟩
            have n4_ : Aside0 (w.heap.size ≤ gb527) := ⟨h4_⟩
            have n5_ : Aside0 (w.heap.size ≤ gb527) := ⟨h5_⟩
            have n6_ : Aside0 (gb513 ≠ gb527) := ⟨h6_⟩
            have n7_ : Aside0 (gb527 ≠ gb513) := ⟨h7_⟩
            have n8_ : Aside0 (gb514 ≠ gb527) := ⟨h8_⟩
            have n9_ : Aside0 (gb527 ≠ gb514) := ⟨h9_⟩
            have n10_ : Aside0 (Below w.heap.size w w15) := ⟨h10_⟩
            clear BK513 BK514 HB h0_ h1_ h2_ h3_ h4_ h5_ h6_ h7_ h8_ h9_ h10_; have HO517 := n0_; have BK513 := n1_; have BK514 := n2_; have BK527 := n3_; have GW527 := n4_; have GE527 := n5_; have NB513_527 := n6_; have NB527_513 := n7_; have NB514_527 := n8_; have NB527_514 := n9_; have HB := n10_; clear n0_ n1_ n2_ n3_ n4_ n5_ n6_ n7_ n8_ n9_ n10_
            have hHeld : w15.cell? ⟨gb513, 0, none⟩ = some (.slice A0_0 l0_0.length c0_0) ∧ w15.cell? ⟨gb513, 1, none⟩ = some (.slice A0_1 l0_1.length c0_1) ∧ w15.cell? ⟨gb513, 2, none⟩ = some (.slice A0_2 l0_2.length c0_2) ∧ w15.cell? ⟨gb513, 3, none⟩ = some (.slice A0_3 l0_3.length c0_3) ∧ w15.cell? ⟨gb513, 4, none⟩ = some (.bool a0_4) ∧ w15.cell? ⟨gb513, 5, none⟩ = some (.bool a0_5) := hS_
            obtain ⟨Ao16, co16, eo16⟩ := Kd.R_slice HO517.out
            (first | subst eo16 | (injection eo16 with f1_ f2_ f3_; have f4_ := f1_.symm; have f5_ := f3_.symm; clear f1_ f2_ f3_; subst f4_; subst f5_))
            refine norm_ (a' := ?_) ?_ ?_; rotate_left
            · simp only [putAll, Act.put, setIfInBounds_toArray, set_cons_zero, set_cons_succ]; rfl
            refine two_ (i := 4) (j := 8) (Ni := some 8) (Nj := some 12) #[true, true, true, true, true, true, true, true, false, false, false, true, false] #[true, true, true, true, false, true, true, true, true, false, false, true, false] rfl rfl rfl rfl (two_of HT_.out (by kernel_rfl)) (by decide) (by decide) (fun K hK => ?_) (fun K hK => ?_)
            ·
             refine Kd.N_lit_step (Kd.slice 71 k71) _ 22 ?hg476 (N' := 8) ?hd476 (xs := ([t515] : List (List (S71)))) (inner := [.slice Ao16 t515.length co16]) (ok := (fun k_ => (w.heap.size ≤ k_) ∧ k_ ≠ gb513 ∧ k_ ≠ gb514 ∧ k_ ≠ gb527)) (okp := (fun k_ => (w.heap.size ≤ k_) ∧ k_ ≠ gb513 ∧ k_ ≠ gb514 ∧ k_ ≠ gb527)) ?hr476 ?hp (fun _ hk => hk) ((show ∀ k_, w15.heap.size ≤ k_ → (fun k_ => (w.heap.size ≤ k_) ∧ k_ ≠ gb513 ∧ k_ ≠ gb514 ∧ k_ ≠ gb527) k_ from fun k_ hk => ⟨(Nat.le_trans (below_size (zqI HB.out GE513.out GE514.out GE527.out)) hk), Kd.freshB (g := gb513) (o := .cells #[.slice A0_0 l0_0.length c0_0, .slice A0_1 l0_1.length c0_1, .slice A0_2 l0_2.length c0_2, .slice A0_3 l0_3.length c0_3, .bool a0_4, .bool a0_5] 79 (0, 0)) (zqB BK513.out) k_ hk, Kd.freshB (g := gb514) (o := .cells #[.slice none 0 0, .slice none 0 0] 40 (0, 0)) (zqB BK514.out) k_ hk, Kd.freshB (g := gb527) (o := .cells #[.slice none 0 0, .slice none 0 0] 40 (0, 0)) (zqB BK527.out) k_ hk⟩) _ (Nat.le_refl _)) (Below.refl _ _) (Nat.le_refl _) (by simp) ?_; (case hd476 => rfl); (case hg476 => rfl); (case hr476 => first | (go_simp; done) | (go_simp; rfl)); (case hp => exact (Reps.one (show Kd.FK (Kd.slice 71 k71) _ _ t515 [.slice Ao16 t515.length co16] from (Kd.FK_slice_mk (Kd.R_reads' (Kd.R_mono (ok' := (fun k_ => (w.heap.size ≤ k_) ∧ k_ ≠ gb513 ∧ k_ ≠ gb514 ∧ k_ ≠ gb527)) (Kd.R_types (Kd.R_types (Kd.R_types (HO517.out) BK513.out (by decide)) BK514.out (by decide)) BK527.out (by decide)) (fun k_ hk => ⟨hk.1.1.1, ⟨hk.1.1.2, ⟨hk.1.2, hk.2⟩⟩⟩))).2.1 (Kd.R_F (Kd.R_mono (ok' := (fun k_ => (w.heap.size ≤ k_) ∧ k_ ≠ gb513 ∧ k_ ≠ gb514 ∧ k_ ≠ gb527)) (Kd.R_types (Kd.R_types (Kd.R_types (HO517.out) BK513.out (by decide)) BK514.out (by decide)) BK527.out (by decide)) (fun k_ hk => ⟨hk.1.1.1, ⟨hk.1.1.2, ⟨hk.1.2, hk.2⟩⟩⟩))))) (Reps.none _ _)))
             intro v519 w17 ho18 hb hg_ hnew_
             clear hg_ hnew_
             (first | rw [← Ny518.out] at ho18 | (simp only [Int.reduceToNat] at ho18; rw [← Ny518.out] at ho18))
             have n0_ := zA (Kd.N_lower ho18 (below_size (zqI HB.out GE513.out GE514.out GE527.out))); have n1_ := zA (blk_below (g := gb513) (zqB BK513.out) hb); have n2_ := zA (blk_below (g := gb514) (zqB BK514.out) hb); have n3_ := zA (blk_below (g := gb527) (zqB BK527.out) hb); have n4_ := zA (below_step (zqI HB.out GE513.out GE514.out GE527.out) hb); clear BK513 BK514 BK527 HB HO517; have HO520 := n0_; have BK513 := n1_; have BK514 := n2_; have BK527 := n3_; have HB := n4_; clear n0_ n1_ n2_ n3_ n4_ hb ho18
             refine hK.out _ _ (zrV4x1 BK513.out) (fun hHeld => ?_)
             clear hK K; refine norm_ (a' := ?_) ?_ ?_; rotate_left
             · show Act.put _ (some 8) _ = _; simp only [Act.put, setIfInBounds_toArray, set_cons_zero, set_cons_succ, i64_w, i32_w]; rfl
             exact norm_ (zqP) (hJ3_4_11 (.slice Ao16 t515.length co16, v519, gb527) _ ⟨hHeld, (zqN HO520.out), (zqB BK513.out), (zqB BK514.out), (zqB BK527.out), GW527.out, GE527.out, NB513_527.out, NB527_513.out, NB514_527.out, NB527_514.out, (zqI HB.out GE513.out GE514.out GE527.out)⟩)
            ·
             refine goes_ Try.func40 (by kernel_rfl) rfl #[.slice A0_2 l0_2.length c0_2] (by rfl) rfl rfl zqE ?_
             with_reducible refine (pianolalaw04_Set_made.calls k _ _ l0_2 t521 _ ?side1 ?side2 A3.out).mono ?_
             (case side1 => exact zqK (Kd.C_below HR0_2.out HB.out))
             (case side2 => exact HC0_2.out)
             rintro e w16 ⟨v522, rfl, ho0, hb⟩
             refine ⟨_, rfl, ?_⟩
             have n0_ := zA (Kd.R_elder' (zqC HO517.out) (Kd.R_base ho0) hb); have n1_ := zA (Kd.R_lower (Kd.R_new' (Kd.R_newM (M := fun k_ => (w.heap.size ≤ k_)) ho0 (below_size (zqI HB.out GE513.out GE514.out GE527.out)) (fun k_ h_ => h_)) (Kd.R_lt (zqC HO517.out))) (below_size (zqI HB.out GE513.out GE514.out GE527.out))); have n2_ := zA (blk_below (g := gb513) (zqB BK513.out) hb); have n3_ := zA (blk_below (g := gb514) (zqB BK514.out) hb); have n4_ := zA (blk_below (g := gb527) (zqB BK527.out) hb); have n5_ := zA (below_step (zqI HB.out GE513.out GE514.out GE527.out) hb); clear HO517 BK513 BK514 BK527 HB; have HO517 := n0_; have HO523 := n1_; have BK513 := n2_; have BK514 := n3_; have BK527 := n4_; have HB := n5_; clear n0_ n1_ n2_ n3_ n4_ n5_
             (try clear hb); (try clear hb2); (try clear hk); (try clear hi); (try clear ho0)
             refine hK.out _ _ (zrV4x1 BK513.out) (fun hHeld => ?_)
             clear hK K; refine norm_ (a' := ?_) ?_ ?_; rotate_left
             · show Act.put _ (some 12) _ = _; simp only [Act.put, setIfInBounds_toArray, set_cons_zero, set_cons_succ, i64_w, i32_w]; rfl
             exact norm_ (zqP) (hJ3_8_11 (.slice Ao16 t515.length co16, v522, gb527) _ ⟨hHeld, (zqC HO517.out), (by (with_reducible repeat (first | apply Kd.R_alloc | apply Kd.R_drewN | apply Kd.R_drew)); exact Kd.R_mono HO523.out (fun _ hk => ⟨hk.1.1, hk.2⟩)), (zqB BK513.out), (zqB BK514.out), (zqB BK527.out), GW527.out, GE527.out, NB513_527.out, NB527_513.out, NB514_527.out, NB527_514.out, (zqI HB.out GE513.out GE514.out GE527.out)⟩)
          ·
           rintro ⟨v516, v522⟩ w15 ⟨hS_, h0_, h1_, h2_, h3_, h4_⟩
           have n0_ : Aside0 (Kd.R k71 71 w15 w.heap.size (fun k_ => (w.heap.size ≤ k_) ∧ some k_ ≠ (v522 : Value).ownBlock) v516 t515) := ⟨h0_⟩
           have n1_ : Aside0 (Kd.R k71 71 w15 w.heap.size (fun k_ => (w.heap.size ≤ k_) ∧ some k_ ≠ (v516 : Value).ownBlock) v522 t521) := ⟨h1_⟩
           have n2_ : Aside0 (w15.heap[gb513]? = some (.cells #[.slice A0_0 l0_0.length c0_0, .slice A0_1 l0_1.length c0_1, .slice A0_2 l0_2.length c0_2, .slice A0_3 l0_3.length c0_3, .bool a0_4, .bool a0_5] 79 (0, 0))) := ⟨h2_⟩
           have n3_ : Aside0 (w15.heap[gb514]? = some (.cells #[.slice none 0 0, .slice none 0 0] 40 (0, 0))) := ⟨h3_⟩
           have n4_ : Aside0 (Below w.heap.size w w15) := ⟨h4_⟩
           clear BK513 BK514 HB h0_ h1_ h2_ h3_ h4_; have HO517 := n0_; have HO523 := n1_; have BK513 := n2_; have BK514 := n3_; have HB := n4_; clear n0_ n1_ n2_ n3_ n4_
           have hHeld : w15.cell? ⟨gb513, 0, none⟩ = some (.slice A0_0 l0_0.length c0_0) ∧ w15.cell? ⟨gb513, 1, none⟩ = some (.slice A0_1 l0_1.length c0_1) ∧ w15.cell? ⟨gb513, 2, none⟩ = some (.slice A0_2 l0_2.length c0_2) ∧ w15.cell? ⟨gb513, 3, none⟩ = some (.slice A0_3 l0_3.length c0_3) ∧ w15.cell? ⟨gb513, 4, none⟩ = some (.bool a0_4) ∧ w15.cell? ⟨gb513, 5, none⟩ = some (.bool a0_5) := hS_
           obtain ⟨Ao16, co16, eo16⟩ := Kd.R_slice HO517.out
           (first | subst eo16 | (injection eo16 with f1_ f2_ f3_; have f4_ := f1_.symm; have f5_ := f3_.symm; clear f1_ f2_ f3_; subst f4_; subst f5_))
           refine norm_ (a' := ?_) ?_ ?_; rotate_left
           · simp only [putAll, Act.put, setIfInBounds_toArray, set_cons_zero, set_cons_succ]; rfl
           refine three_ (i := 4) (j := 9) (k := 11) (Ni := some 8) (Nj := some 13) (Nk := some 3) #[true, true, true, true, true, true, true, true, true, false, false, false, false] #[true, true, true, true, false, true, true, true, true, true, false, false, false] #[true, true, true, true, false, true, true, true, true, false, false, true, false] rfl rfl rfl rfl rfl rfl (three_of HT_.out (by kernel_rfl)) (by decide) (by decide) (by decide) (fun K hK => ?_) (fun K hK => ?_) (fun K hK => ?_)
           ·
            refine Kd.N_lit_step (Kd.slice 71 k71) _ 22 ?hg569 (N' := 8) ?hd569 (xs := ([t515] : List (List (S71)))) (inner := [.slice Ao16 t515.length co16]) (ok := (fun k_ => (w.heap.size ≤ k_) ∧ some k_ ≠ (v522 : Value).ownBlock ∧ k_ ≠ gb513 ∧ k_ ≠ gb514)) (okp := (fun k_ => (w.heap.size ≤ k_) ∧ some k_ ≠ (v522 : Value).ownBlock ∧ k_ ≠ gb513 ∧ k_ ≠ gb514)) ?hr569 ?hp (fun _ hk => hk) ((show ∀ k_, w15.heap.size ≤ k_ → (fun k_ => (w.heap.size ≤ k_) ∧ some k_ ≠ (v522 : Value).ownBlock ∧ k_ ≠ gb513 ∧ k_ ≠ gb514) k_ from fun k_ hk => ⟨(Nat.le_trans (below_size (zqH HB.out GE513.out GE514.out)) hk), Kd.fresh' (Kd.R_lt (zqC HO523.out)) k_ hk, Kd.freshB (g := gb513) (o := .cells #[.slice A0_0 l0_0.length c0_0, .slice A0_1 l0_1.length c0_1, .slice A0_2 l0_2.length c0_2, .slice A0_3 l0_3.length c0_3, .bool a0_4, .bool a0_5] 79 (0, 0)) (zqB BK513.out) k_ hk, Kd.freshB (g := gb514) (o := .cells #[.slice none 0 0, .slice none 0 0] 40 (0, 0)) (zqB BK514.out) k_ hk⟩) _ (Nat.le_refl _)) (Below.refl _ _) (Nat.le_refl _) (by simp) ?_; (case hd569 => rfl); (case hg569 => rfl); (case hr569 => first | (go_simp; done) | (go_simp; rfl)); (case hp => exact (Reps.one (show Kd.FK (Kd.slice 71 k71) _ _ t515 [.slice Ao16 t515.length co16] from (Kd.FK_slice_mk (Kd.R_reads' (Kd.R_mono (ok' := (fun k_ => (w.heap.size ≤ k_) ∧ some k_ ≠ (v522 : Value).ownBlock ∧ k_ ≠ gb513 ∧ k_ ≠ gb514)) (Kd.R_types (Kd.R_types (HO517.out) BK513.out (by decide)) BK514.out (by decide)) (fun k_ hk => ⟨hk.1.1.1, ⟨hk.1.1.2, ⟨hk.1.2, hk.2⟩⟩⟩))).2.1 (Kd.R_F (Kd.R_mono (ok' := (fun k_ => (w.heap.size ≤ k_) ∧ some k_ ≠ (v522 : Value).ownBlock ∧ k_ ≠ gb513 ∧ k_ ≠ gb514)) (Kd.R_types (Kd.R_types (HO517.out) BK513.out (by decide)) BK514.out (by decide)) (fun k_ hk => ⟨hk.1.1.1, ⟨hk.1.1.2, ⟨hk.1.2, hk.2⟩⟩⟩))))) (Reps.none _ _)))
            intro v519 w17 ho18 hb hg_ hnew_
            clear hg_ hnew_
            (first | rw [← Ny518.out] at ho18 | (simp only [Int.reduceToNat] at ho18; rw [← Ny518.out] at ho18))
            have n0_ := zA (Kd.R_below (zqC HO523.out) hb); have n1_ := zA (Kd.N_lower ho18 (below_size (zqH HB.out GE513.out GE514.out))); have n2_ := zA (blk_below (g := gb513) (zqB BK513.out) hb); have n3_ := zA (blk_below (g := gb514) (zqB BK514.out) hb); have n4_ := zA (below_step (zqH HB.out GE513.out GE514.out) hb); clear HO523 BK513 BK514 HB HO517; have HO523 := n0_; have HO520 := n1_; have BK513 := n2_; have BK514 := n3_; have HB := n4_; clear n0_ n1_ n2_ n3_ n4_ hb ho18
            refine hK.out _ _ (zrV4x1 BK513.out) (fun hHeld => ?_)
            clear hK K; refine norm_ (a' := ?_) ?_ ?_; rotate_left
            · show Act.put _ (some 8) _ = _; simp only [Act.put, setIfInBounds_toArray, set_cons_zero, set_cons_succ, i64_w, i32_w]; rfl
            exact norm_ (zqP) (hJ3_4_8 (.slice Ao16 t515.length co16, v519, v522) _ ⟨hHeld, (zqN HO520.out), (by (with_reducible repeat (first | apply Kd.R_alloc | apply Kd.R_drewN | apply Kd.R_drew)); exact Kd.R_mono HO523.out (fun _ hk => hk.1)), (zqB BK513.out), (zqB BK514.out), (zqH HB.out GE513.out GE514.out)⟩)
           ·
            obtain ⟨Ao16b, co16b, eo16b⟩ := Kd.R_slice HO523.out
            subst eo16b
            refine Kd.N_lit_step (Kd.slice 71 k71) _ 22 ?hg599 (N' := 13) ?hd599 (xs := ([t521] : List (List (S71)))) (inner := [.slice Ao16b t521.length co16b]) (ok := (fun k_ => (w.heap.size ≤ k_) ∧ some k_ ≠ (.slice Ao16 t515.length co16 : Value).ownBlock ∧ k_ ≠ gb513 ∧ k_ ≠ gb514)) (okp := (fun k_ => (w.heap.size ≤ k_) ∧ some k_ ≠ (.slice Ao16 t515.length co16 : Value).ownBlock ∧ k_ ≠ gb513 ∧ k_ ≠ gb514)) ?hr599 ?hp (fun _ hk => hk) ((show ∀ k_, w15.heap.size ≤ k_ → (fun k_ => (w.heap.size ≤ k_) ∧ some k_ ≠ (.slice Ao16 t515.length co16 : Value).ownBlock ∧ k_ ≠ gb513 ∧ k_ ≠ gb514) k_ from fun k_ hk => ⟨(Nat.le_trans (below_size (zqH HB.out GE513.out GE514.out)) hk), Kd.fresh' (Kd.R_lt (zqC HO517.out)) k_ hk, Kd.freshB (g := gb513) (o := .cells #[.slice A0_0 l0_0.length c0_0, .slice A0_1 l0_1.length c0_1, .slice A0_2 l0_2.length c0_2, .slice A0_3 l0_3.length c0_3, .bool a0_4, .bool a0_5] 79 (0, 0)) (zqB BK513.out) k_ hk, Kd.freshB (g := gb514) (o := .cells #[.slice none 0 0, .slice none 0 0] 40 (0, 0)) (zqB BK514.out) k_ hk⟩) _ (Nat.le_refl _)) (Below.refl _ _) (Nat.le_refl _) (by simp) ?_; (case hd599 => rfl); (case hg599 => rfl); (case hr599 => first | (go_simp; done) | (go_simp; rfl)); (case hp => exact (Reps.one (show Kd.FK (Kd.slice 71 k71) _ _ t521 [.slice Ao16b t521.length co16b] from (Kd.FK_slice_mk (Kd.R_reads' (Kd.R_mono (ok' := (fun k_ => (w.heap.size ≤ k_) ∧ some k_ ≠ (.slice Ao16 t515.length co16 : Value).ownBlock ∧ k_ ≠ gb513 ∧ k_ ≠ gb514)) (Kd.R_types (Kd.R_types (HO523.out) BK513.out (by decide)) BK514.out (by decide)) (fun k_ hk => ⟨hk.1.1.1, ⟨hk.1.1.2, ⟨hk.1.2, hk.2⟩⟩⟩))).2.1 (Kd.R_F (Kd.R_mono (ok' := (fun k_ => (w.heap.size ≤ k_) ∧ some k_ ≠ (.slice Ao16 t515.length co16 : Value).ownBlock ∧ k_ ≠ gb513 ∧ k_ ≠ gb514)) (Kd.R_types (Kd.R_types (HO523.out) BK513.out (by decide)) BK514.out (by decide)) (fun k_ hk => ⟨hk.1.1.1, ⟨hk.1.1.2, ⟨hk.1.2, hk.2⟩⟩⟩))))) (Reps.none _ _)))
            intro v525 w17 ho18 hb hg_ hnew_
            clear hg_ hnew_
            (first | rw [← Ny524.out] at ho18 | (simp only [Int.reduceToNat] at ho18; rw [← Ny524.out] at ho18))
            have n0_ := zA (Kd.R_below (zqC HO517.out) hb); have n1_ := zA (Kd.N_lower ho18 (below_size (zqH HB.out GE513.out GE514.out))); have n2_ := zA (blk_below (g := gb513) (zqB BK513.out) hb); have n3_ := zA (blk_below (g := gb514) (zqB BK514.out) hb); have n4_ := zA (below_step (zqH HB.out GE513.out GE514.out) hb); clear HO517 BK513 BK514 HB HO523; have HO517 := n0_; have HO526 := n1_; have BK513 := n2_; have BK514 := n3_; have HB := n4_; clear n0_ n1_ n2_ n3_ n4_ hb ho18
            refine hK.out _ _ (zrV4x1 BK513.out) (fun hHeld => ?_)
            clear hK K; refine norm_ (a' := ?_) ?_ ?_; rotate_left
            · show Act.put _ (some 13) _ = _; simp only [Act.put, setIfInBounds_toArray, set_cons_zero, set_cons_succ, i64_w, i32_w]; rfl
            exact norm_ (zqP) (hJ3_8_9 (.slice Ao16 t515.length co16, .slice Ao16b t521.length co16b, v525) _ ⟨hHeld, (by (with_reducible repeat (first | apply Kd.R_alloc | apply Kd.R_drewN | apply Kd.R_drew)); exact Kd.R_mono HO517.out (fun _ hk => hk.1)), (zqN HO526.out), (zqB BK513.out), (zqB BK514.out), (zqH HB.out GE513.out GE514.out)⟩)
           ·
            refine box_step ?hg629 (N := 3) ?hd629 (cs := #[.slice none 0 0, .slice none 0 0]) (t := 40) ?hr629 ?_; (case hd629 => rfl); (case hg629 => rfl); (case hr629 => first | (go_simp; done) | (go_simp; rfl))
            intro gb527 hg w16 hbox hb
            have n0_ := zA (Kd.R_below (zqC HO517.out) hb); have n1_ := zA (Kd.R_below (zqC HO523.out) hb); have n2_ := zA (blk_below (g := gb513) (zqB BK513.out) hb); have n3_ := zA (blk_below (g := gb514) (zqB BK514.out) hb); have n4_ := zA (below_step (zqH HB.out GE513.out GE514.out) hb); have n5_ := zA (hbox)
            have n6_ := zA ((by rw [hg]; exact (below_size (zqH HB.out GE513.out GE514.out)) : w.heap.size ≤ gb527))
            have n7_ := zA ((by rw [hg]; exact (below_size (zqH HB.out GE513.out GE514.out)) : w.heap.size ≤ gb527))
            have n8_ := zA ((by rw [hg]; exact Nat.ne_of_lt (blk_lt (g := gb513) (zqB BK513.out)) : gb513 ≠ gb527))
            have n9_ := zA ((by rw [hg]; exact Nat.ne_of_gt (blk_lt (g := gb513) (zqB BK513.out)) : gb527 ≠ gb513))
            have n10_ := zA ((by rw [hg]; exact Nat.ne_of_lt (blk_lt (g := gb514) (zqB BK514.out)) : gb514 ≠ gb527))
            have n11_ := zA ((by rw [hg]; exact Nat.ne_of_gt (blk_lt (g := gb514) (zqB BK514.out)) : gb527 ≠ gb514))
            clear HO517 HO523 BK513 BK514 HB; have HO517 := n0_; have HO523 := n1_; have BK513 := n2_; have BK514 := n3_; have HB := n4_; have BK527 := n5_; have GW527 := n6_; have GE527 := n7_; have NB513_527 := n8_; have NB527_513 := n9_; have NB514_527 := n10_; have NB527_514 := n11_; clear n0_ n1_ n2_ n3_ n4_ n5_ n6_ n7_ n8_ n9_ n10_ n11_ hb hbox hg
            refine hK.out _ _ (zrV4x1 BK513.out) (fun hHeld => ?_)
            clear hK K; refine norm_ (a' := ?_) ?_ ?_; rotate_left
            · show Act.put _ (some 3) _ = _; simp only [Act.put, setIfInBounds_toArray, set_cons_zero, set_cons_succ, i64_w, i32_w]; rfl
            exact norm_ (zqP) (hJ3_8_11 (.slice Ao16 t515.length co16, v522, gb527) _ ⟨hHeld, (zqC HO517.out), (zqC HO523.out), (zqB BK513.out), (zqB BK514.out), (zqB BK527.out), GW527.out, GE527.out, NB513_527.out, NB527_513.out, NB514_527.out, NB527_514.out, (zqI HB.out GE513.out GE514.out GE527.out)⟩)
         ·
          rintro ⟨v516, v519⟩ w17 ⟨hS_, h0_, h1_, h2_, h3_⟩
          have n0_ : Aside0 (Kd.N (Kd.slice 71 k71) 22 w17 w.heap.size (fun k_ => (w.heap.size ≤ k_) ∧ k_ ≠ gb513 ∧ k_ ≠ gb514) v519 y518) := ⟨h0_⟩
          have n1_ : Aside0 (w17.heap[gb513]? = some (.cells #[.slice A0_0 l0_0.length c0_0, .slice A0_1 l0_1.length c0_1, .slice A0_2 l0_2.length c0_2, .slice A0_3 l0_3.length c0_3, .bool a0_4, .bool a0_5] 79 (0, 0))) := ⟨h1_⟩
          have n2_ : Aside0 (w17.heap[gb514]? = some (.cells #[.slice none 0 0, .slice none 0 0] 40 (0, 0))) := ⟨h2_⟩
          have n3_ : Aside0 (Below w.heap.size w w17) := ⟨h3_⟩
          clear BK513 BK514 HB h0_ h1_ h2_ h3_; have HO520 := n0_; have BK513 := n1_; have BK514 := n2_; have HB := n3_; clear n0_ n1_ n2_ n3_
          have hHeld : w17.cell? ⟨gb513, 0, none⟩ = some (.slice A0_0 l0_0.length c0_0) ∧ w17.cell? ⟨gb513, 1, none⟩ = some (.slice A0_1 l0_1.length c0_1) ∧ w17.cell? ⟨gb513, 2, none⟩ = some (.slice A0_2 l0_2.length c0_2) ∧ w17.cell? ⟨gb513, 3, none⟩ = some (.slice A0_3 l0_3.length c0_3) ∧ w17.cell? ⟨gb513, 4, none⟩ = some (.bool a0_4) ∧ w17.cell? ⟨gb513, 5, none⟩ = some (.bool a0_5) := hS_
          refine norm_ (a' := ?_) ?_ ?_; rotate_left
          · simp only [putAll, Act.put, setIfInBounds_toArray, set_cons_zero, set_cons_succ]; rfl
          refine two_ (i := 8) (j := 11) (Ni := some 12) (Nj := some 3) #[true, true, true, true, true, true, true, true, true, false, false, false, false] #[true, true, true, true, true, true, true, true, false, false, false, true, false] rfl rfl rfl rfl (two_of HT_.out (by kernel_rfl)) (by decide) (by decide) (fun K hK => ?_) (fun K hK => ?_)
          ·
           refine goes_ Try.func40 (by kernel_rfl) rfl #[.slice A0_2 l0_2.length c0_2] (by rfl) rfl rfl zqE ?_
           with_reducible refine (pianolalaw04_Set_made.calls k _ _ l0_2 t521 _ ?side1 ?side2 A3.out).mono ?_
           (case side1 => exact zqK (Kd.C_below HR0_2.out HB.out))
           (case side2 => exact HC0_2.out)
           rintro e w18 ⟨v522, rfl, ho0, hb⟩
           refine ⟨_, rfl, ?_⟩
           have n0_ := zA (Kd.N_elder' (zqN HO520.out) (Kd.R_base ho0) hb); have n1_ := zA (Kd.R_lower (Kd.R_newM (M := fun k_ => (w.heap.size ≤ k_)) ho0 (below_size (zqH HB.out GE513.out GE514.out)) (fun k_ h_ => h_)) (below_size (zqH HB.out GE513.out GE514.out))); have n2_ := zA (blk_below (g := gb513) (zqB BK513.out) hb); have n3_ := zA (blk_below (g := gb514) (zqB BK514.out) hb); have n4_ := zA (below_step (zqH HB.out GE513.out GE514.out) hb); clear HO520 BK513 BK514 HB; have HO520 := n0_; have HO523 := n1_; have BK513 := n2_; have BK514 := n3_; have HB := n4_; clear n0_ n1_ n2_ n3_ n4_
           (try clear hb); (try clear hb2); (try clear hk); (try clear hi); (try clear ho0)
           refine hK.out _ _ (zrV4x1 BK513.out) (fun hHeld => ?_)
           clear hK K; refine norm_ (a' := ?_) ?_ ?_; rotate_left
           · show Act.put _ (some 12) _ = _; simp only [Act.put, setIfInBounds_toArray, set_cons_zero, set_cons_succ, i64_w, i32_w]; rfl
           exact norm_ (zqP) (hJ3_4_8 (v516, v519, v522) _ ⟨hHeld, (by (with_reducible repeat (first | apply Kd.N_alloc | apply Kd.N_drewN | apply Kd.N_drew)); exact Kd.N_mono HO520.out (fun _ hk => ⟨hk.1.1, ⟨hk.2, ⟨hk.1.2.1, hk.1.2.2⟩⟩⟩)), (by (with_reducible repeat (first | apply Kd.R_alloc | apply Kd.R_drewN | apply Kd.R_drew)); exact Kd.R_mono HO523.out (fun _ hk => hk.1)), (zqB BK513.out), (zqB BK514.out), (zqH HB.out GE513.out GE514.out)⟩)
          ·
           refine box_step ?hg727 (N := 3) ?hd727 (cs := #[.slice none 0 0, .slice none 0 0]) (t := 40) ?hr727 ?_; (case hd727 => rfl); (case hg727 => rfl); (case hr727 => first | (go_simp; done) | (go_simp; rfl))
           intro gb527 hg w18 hbox hb
           have n0_ := zA (Kd.N_below (Kd.N_elderB (zqN HO520.out) gb527 (Nat.le_of_eq hg.symm)) hb); have n1_ := zA (blk_below (g := gb513) (zqB BK513.out) hb); have n2_ := zA (blk_below (g := gb514) (zqB BK514.out) hb); have n3_ := zA (below_step (zqH HB.out GE513.out GE514.out) hb); have n4_ := zA (hbox)
           have n5_ := zA ((by rw [hg]; exact (below_size (zqH HB.out GE513.out GE514.out)) : w.heap.size ≤ gb527))
           have n6_ := zA ((by rw [hg]; exact (below_size (zqH HB.out GE513.out GE514.out)) : w.heap.size ≤ gb527))
           have n7_ := zA ((by rw [hg]; exact Nat.ne_of_lt (blk_lt (g := gb513) (zqB BK513.out)) : gb513 ≠ gb527))
           have n8_ := zA ((by rw [hg]; exact Nat.ne_of_gt (blk_lt (g := gb513) (zqB BK513.out)) : gb527 ≠ gb513))
           have n9_ := zA ((by rw [hg]; exact Nat.ne_of_lt (blk_lt (g := gb514) (zqB BK514.out)) : gb514 ≠ gb527))
           have n10_ := zA ((by rw [hg]; exact Nat.ne_of_gt (blk_lt (g := gb514) (zqB BK514.out)) : gb527 ≠ gb514))
           clear HO520 BK513 BK514 HB; have HO520 := n0_; have BK513 := n1_; have BK514 := n2_; have HB := n3_; have BK527 := n4_; have GW527 := n5_; have GE527 := n6_; have NB513_527 := n7_; have NB527_513 := n8_; have NB514_527 := n9_; have NB527_514 := n10_; clear n0_ n1_ n2_ n3_ n4_ n5_ n6_ n7_ n8_ n9_ n10_ hb hbox hg
           refine hK.out _ _ (zrV4x1 BK513.out) (fun hHeld => ?_)
           clear hK K; refine norm_ (a' := ?_) ?_ ?_; rotate_left
           · show Act.put _ (some 3) _ = _; simp only [Act.put, setIfInBounds_toArray, set_cons_zero, set_cons_succ, i64_w, i32_w]; rfl
           exact norm_ (zqP) (hJ3_4_11 (v516, v519, gb527) _ ⟨hHeld, (by (with_reducible repeat (first | apply Kd.N_alloc | apply Kd.N_drewN | apply Kd.N_drew)); exact Kd.N_mono HO520.out (fun _ hk => ⟨hk.1.1, ⟨hk.1.2.1, ⟨hk.1.2.2, hk.2⟩⟩⟩)), (zqB BK513.out), (zqB BK514.out), (zqB BK527.out), GW527.out, GE527.out, NB513_527.out, NB527_513.out, NB514_527.out, NB527_514.out, (zqI HB.out GE513.out GE514.out GE527.out)⟩)
        ·
         rintro ⟨v516, v522, gb527⟩ w16 ⟨hS_, h0_, h1_, h2_, h3_, h4_, h5_, h6_, h7_, h8_, h9_, h10_, h11_⟩
         have n0_ : Aside0 (Kd.R k71 71 w16 w.heap.size (fun k_ => (w.heap.size ≤ k_) ∧ some k_ ≠ (v522 : Value).ownBlock) v516 t515) := ⟨h0_⟩
         have n1_ : Aside0 (Kd.R k71 71 w16 w.heap.size (fun k_ => (w.heap.size ≤ k_) ∧ some k_ ≠ (v516 : Value).ownBlock) v522 t521) := ⟨h1_⟩
         have n2_ : Aside0 (w16.heap[gb513]? = some (.cells #[.slice A0_0 l0_0.length c0_0, .slice A0_1 l0_1.length c0_1, .slice A0_2 l0_2.length c0_2, .slice A0_3 l0_3.length c0_3, .bool a0_4, .bool a0_5] 79 (0, 0))) := ⟨h2_⟩
         have n3_ : Aside0 (w16.heap[gb514]? = some (.cells #[.slice none 0 0, .slice none 0 0] 40 (0, 0))) := ⟨h3_⟩
         have n4_ : Aside0 (w16.heap[gb527]? = some (.cells #[.slice none 0 0, .slice none 0 0] 40 (0, 0))) := ⟨h4_⟩
         have n5_ : Aside0 (w.heap.size ≤ gb527) := ⟨h5_⟩
         have n6_ : Aside0 (w.heap.size ≤ gb527) := ⟨h6_⟩
         have n7_ : Aside0 (gb513 ≠ gb527) := ⟨h7_⟩
         have n8_ : Aside0 (gb527 ≠ gb513) := ⟨h8_⟩
         have n9_ : Aside0 (gb514 ≠ gb527) := ⟨h9_⟩
         have n10_ : Aside0 (gb527 ≠ gb514) := ⟨h10_⟩
         have n11_ : Aside0 (Below w.heap.size w w16) := ⟨h11_⟩
         clear BK513 BK514 HB h0_ h1_ h2_ h3_ h4_ h5_ h6_ h7_ h8_ h9_ h10_ h11_; have HO517 := n0_; have HO523 := n1_; have BK513 := n2_; have BK514 := n3_; have BK527 := n4_; have GW527 := n5_; have GE527 := n6_; have NB513_527 := n7_; have NB527_513 := n8_; have NB514_527 := n9_; have NB527_514 := n10_; have HB := n11_; clear n0_ n1_ n2_ n3_ n4_ n5_ n6_ n7_ n8_ n9_ n10_ n11_
         have hHeld : w16.cell? ⟨gb513, 0, none⟩ = some (.slice A0_0 l0_0.length c0_0) ∧ w16.cell? ⟨gb513, 1, none⟩ = some (.slice A0_1 l0_1.length c0_1) ∧ w16.cell? ⟨gb513, 2, none⟩ = some (.slice A0_2 l0_2.length c0_2) ∧ w16.cell? ⟨gb513, 3, none⟩ = some (.slice A0_3 l0_3.length c0_3) ∧ w16.cell? ⟨gb513, 4, none⟩ = some (.bool a0_4) ∧ w16.cell? ⟨gb513, 5, none⟩ = some (.bool a0_5) := hS_
         obtain ⟨Ao17, co17, eo17⟩ := Kd.R_slice HO517.out
         (first | subst eo17 | (injection eo17 with f1_ f2_ f3_; have f4_ := f1_.symm; have f5_ := f3_.symm; clear f1_ f2_ f3_; subst f4_; subst f5_))
         refine norm_ (a' := ?_) ?_ ?_; rotate_left
         · simp only [putAll, Act.put, setIfInBounds_toArray, set_cons_zero, set_cons_succ]; rfl
         refine two_ (i := 4) (j := 9) (Ni := some 8) (Nj := some 13) #[true, true, true, true, true, true, true, true, true, false, false, true, false] #[true, true, true, true, false, true, true, true, true, true, false, true, false] rfl rfl rfl rfl (two_of HT_.out (by kernel_rfl)) (by decide) (by decide) (fun K hK => ?_) (fun K hK => ?_)
         ·
          refine Kd.N_lit_step (Kd.slice 71 k71) _ 22 ?hg805 (N' := 8) ?hd805 (xs := ([t515] : List (List (S71)))) (inner := [.slice Ao17 t515.length co17]) (ok := (fun k_ => (w.heap.size ≤ k_) ∧ some k_ ≠ (v522 : Value).ownBlock ∧ k_ ≠ gb513 ∧ k_ ≠ gb514 ∧ k_ ≠ gb527)) (okp := (fun k_ => (w.heap.size ≤ k_) ∧ some k_ ≠ (v522 : Value).ownBlock ∧ k_ ≠ gb513 ∧ k_ ≠ gb514 ∧ k_ ≠ gb527)) ?hr805 ?hp (fun _ hk => hk) ((show ∀ k_, w16.heap.size ≤ k_ → (fun k_ => (w.heap.size ≤ k_) ∧ some k_ ≠ (v522 : Value).ownBlock ∧ k_ ≠ gb513 ∧ k_ ≠ gb514 ∧ k_ ≠ gb527) k_ from fun k_ hk => ⟨(Nat.le_trans (below_size (zqI HB.out GE513.out GE514.out GE527.out)) hk), Kd.fresh' (Kd.R_lt (zqC HO523.out)) k_ hk, Kd.freshB (g := gb513) (o := .cells #[.slice A0_0 l0_0.length c0_0, .slice A0_1 l0_1.length c0_1, .slice A0_2 l0_2.length c0_2, .slice A0_3 l0_3.length c0_3, .bool a0_4, .bool a0_5] 79 (0, 0)) (zqB BK513.out) k_ hk, Kd.freshB (g := gb514) (o := .cells #[.slice none 0 0, .slice none 0 0] 40 (0, 0)) (zqB BK514.out) k_ hk, Kd.freshB (g := gb527) (o := .cells #[.slice none 0 0, .slice none 0 0] 40 (0, 0)) (zqB BK527.out) k_ hk⟩) _ (Nat.le_refl _)) (Below.refl _ _) (Nat.le_refl _) (by simp) ?_; (case hd805 => rfl); (case hg805 => rfl); (case hr805 => first | (go_simp; done) | (go_simp; rfl)); (case hp => exact (Reps.one (show Kd.FK (Kd.slice 71 k71) _ _ t515 [.slice Ao17 t515.length co17] from (Kd.FK_slice_mk (Kd.R_reads' (Kd.R_mono (ok' := (fun k_ => (w.heap.size ≤ k_) ∧ some k_ ≠ (v522 : Value).ownBlock ∧ k_ ≠ gb513 ∧ k_ ≠ gb514 ∧ k_ ≠ gb527)) (Kd.R_types (Kd.R_types (Kd.R_types (HO517.out) BK513.out (by decide)) BK514.out (by decide)) BK527.out (by decide)) (fun k_ hk => ⟨hk.1.1.1.1, ⟨hk.1.1.1.2, ⟨hk.1.1.2, ⟨hk.1.2, hk.2⟩⟩⟩⟩))).2.1 (Kd.R_F (Kd.R_mono (ok' := (fun k_ => (w.heap.size ≤ k_) ∧ some k_ ≠ (v522 : Value).ownBlock ∧ k_ ≠ gb513 ∧ k_ ≠ gb514 ∧ k_ ≠ gb527)) (Kd.R_types (Kd.R_types (Kd.R_types (HO517.out) BK513.out (by decide)) BK514.out (by decide)) BK527.out (by decide)) (fun k_ hk => ⟨hk.1.1.1.1, ⟨hk.1.1.1.2, ⟨hk.1.1.2, ⟨hk.1.2, hk.2⟩⟩⟩⟩))))) (Reps.none _ _)))
          intro v519 w18 ho19 hb hg_ hnew_
          clear hg_ hnew_
          (first | rw [← Ny518.out] at ho19 | (simp only [Int.reduceToNat] at ho19; rw [← Ny518.out] at ho19))
          have n0_ := zA (Kd.R_below (zqC HO523.out) hb); have n1_ := zA (Kd.N_lower ho19 (below_size (zqI HB.out GE513.out GE514.out GE527.out))); have n2_ := zA (blk_below (g := gb513) (zqB BK513.out) hb); have n3_ := zA (blk_below (g := gb514) (zqB BK514.out) hb); have n4_ := zA (blk_below (g := gb527) (zqB BK527.out) hb); have n5_ := zA (below_step (zqI HB.out GE513.out GE514.out GE527.out) hb); clear HO523 BK513 BK514 BK527 HB HO517; have HO523 := n0_; have HO520 := n1_; have BK513 := n2_; have BK514 := n3_; have BK527 := n4_; have HB := n5_; clear n0_ n1_ n2_ n3_ n4_ n5_ hb ho19
          refine hK.out _ _ (zrV4x1 BK513.out) (fun hHeld => ?_)
          clear hK K; refine norm_ (a' := ?_) ?_ ?_; rotate_left
          · show Act.put _ (some 8) _ = _; simp only [Act.put, setIfInBounds_toArray, set_cons_zero, set_cons_succ, i64_w, i32_w]; rfl
          exact norm_ (zqP) (hJ3_4_8_11 (.slice Ao17 t515.length co17, v519, v522, gb527) _ ⟨hHeld, (zqN HO520.out), (by (with_reducible repeat (first | apply Kd.R_alloc | apply Kd.R_drewN | apply Kd.R_drew)); exact Kd.R_mono HO523.out (fun _ hk => hk.1)), (zqB BK513.out), (zqB BK514.out), (zqB BK527.out), GW527.out, GE527.out, NB513_527.out, NB527_513.out, NB514_527.out, NB527_514.out, (zqI HB.out GE513.out GE514.out GE527.out)⟩)
         ·
          obtain ⟨Ao17b, co17b, eo17b⟩ := Kd.R_slice HO523.out
          subst eo17b
          refine Kd.N_lit_step (Kd.slice 71 k71) _ 22 ?hg838 (N' := 13) ?hd838 (xs := ([t521] : List (List (S71)))) (inner := [.slice Ao17b t521.length co17b]) (ok := (fun k_ => (w.heap.size ≤ k_) ∧ some k_ ≠ (.slice Ao17 t515.length co17 : Value).ownBlock ∧ k_ ≠ gb513 ∧ k_ ≠ gb514 ∧ k_ ≠ gb527)) (okp := (fun k_ => (w.heap.size ≤ k_) ∧ some k_ ≠ (.slice Ao17 t515.length co17 : Value).ownBlock ∧ k_ ≠ gb513 ∧ k_ ≠ gb514 ∧ k_ ≠ gb527)) ?hr838 ?hp (fun _ hk => hk) ((show ∀ k_, w16.heap.size ≤ k_ → (fun k_ => (w.heap.size ≤ k_) ∧ some k_ ≠ (.slice Ao17 t515.length co17 : Value).ownBlock ∧ k_ ≠ gb513 ∧ k_ ≠ gb514 ∧ k_ ≠ gb527) k_ from fun k_ hk => ⟨(Nat.le_trans (below_size (zqI HB.out GE513.out GE514.out GE527.out)) hk), Kd.fresh' (Kd.R_lt (zqC HO517.out)) k_ hk, Kd.freshB (g := gb513) (o := .cells #[.slice A0_0 l0_0.length c0_0, .slice A0_1 l0_1.length c0_1, .slice A0_2 l0_2.length c0_2, .slice A0_3 l0_3.length c0_3, .bool a0_4, .bool a0_5] 79 (0, 0)) (zqB BK513.out) k_ hk, Kd.freshB (g := gb514) (o := .cells #[.slice none 0 0, .slice none 0 0] 40 (0, 0)) (zqB BK514.out) k_ hk, Kd.freshB (g := gb527) (o := .cells #[.slice none 0 0, .slice none 0 0] 40 (0, 0)) (zqB BK527.out) k_ hk⟩) _ (Nat.le_refl _)) (Below.refl _ _) (Nat.le_refl _) (by simp) ?_; (case hd838 => rfl); (case hg838 => rfl); (case hr838 => first | (go_simp; done) | (go_simp; rfl)); (case hp => exact (Reps.one (show Kd.FK (Kd.slice 71 k71) _ _ t521 [.slice Ao17b t521.length co17b] from (Kd.FK_slice_mk (Kd.R_reads' (Kd.R_mono (ok' := (fun k_ => (w.heap.size ≤ k_) ∧ some k_ ≠ (.slice Ao17 t515.length co17 : Value).ownBlock ∧ k_ ≠ gb513 ∧ k_ ≠ gb514 ∧ k_ ≠ gb527)) (Kd.R_types (Kd.R_types (Kd.R_types (HO523.out) BK513.out (by decide)) BK514.out (by decide)) BK527.out (by decide)) (fun k_ hk => ⟨hk.1.1.1.1, ⟨hk.1.1.1.2, ⟨hk.1.1.2, ⟨hk.1.2, hk.2⟩⟩⟩⟩))).2.1 (Kd.R_F (Kd.R_mono (ok' := (fun k_ => (w.heap.size ≤ k_) ∧ some k_ ≠ (.slice Ao17 t515.length co17 : Value).ownBlock ∧ k_ ≠ gb513 ∧ k_ ≠ gb514 ∧ k_ ≠ gb527)) (Kd.R_types (Kd.R_types (Kd.R_types (HO523.out) BK513.out (by decide)) BK514.out (by decide)) BK527.out (by decide)) (fun k_ hk => ⟨hk.1.1.1.1, ⟨hk.1.1.1.2, ⟨hk.1.1.2, ⟨hk.1.2, hk.2⟩⟩⟩⟩))))) (Reps.none _ _)))
          intro v525 w18 ho19 hb hg_ hnew_
          clear hg_ hnew_
          (first | rw [← Ny524.out] at ho19 | (simp only [Int.reduceToNat] at ho19; rw [← Ny524.out] at ho19))
          have n0_ := zA (Kd.R_below (zqC HO517.out) hb); have n1_ := zA (Kd.N_lower ho19 (below_size (zqI HB.out GE513.out GE514.out GE527.out))); have n2_ := zA (blk_below (g := gb513) (zqB BK513.out) hb); have n3_ := zA (blk_below (g := gb514) (zqB BK514.out) hb); have n4_ := zA (blk_below (g := gb527) (zqB BK527.out) hb); have n5_ := zA (below_step (zqI HB.out GE513.out GE514.out GE527.out) hb); clear HO517 BK513 BK514 BK527 HB HO523; have HO517 := n0_; have HO526 := n1_; have BK513 := n2_; have BK514 := n3_; have BK527 := n4_; have HB := n5_; clear n0_ n1_ n2_ n3_ n4_ n5_ hb ho19
          refine hK.out _ _ (zrV4x1 BK513.out) (fun hHeld => ?_)
          clear hK K; refine norm_ (a' := ?_) ?_ ?_; rotate_left
          · show Act.put _ (some 13) _ = _; simp only [Act.put, setIfInBounds_toArray, set_cons_zero, set_cons_succ, i64_w, i32_w]; rfl
          exact norm_ (zqP) (hJ3_8_9_11 (.slice Ao17 t515.length co17, .slice Ao17b t521.length co17b, v525, gb527) _ ⟨hHeld, (by (with_reducible repeat (first | apply Kd.R_alloc | apply Kd.R_drewN | apply Kd.R_drew)); exact Kd.R_mono HO517.out (fun _ hk => hk.1)), (zqN HO526.out), (zqB BK513.out), (zqB BK514.out), (zqB BK527.out), GW527.out, GE527.out, NB513_527.out, NB527_513.out, NB514_527.out, NB527_514.out, (zqI HB.out GE513.out GE514.out GE527.out)⟩)
       ·
        rintro ⟨v516, v522, v525⟩ w18 ⟨hS_, h0_, h1_, h2_, h3_, h4_⟩
        have n0_ : Aside0 (Kd.R k71 71 w18 w.heap.size (fun k_ => (w.heap.size ≤ k_)) v516 t515) := ⟨h0_⟩
        have n1_ : Aside0 (Kd.N (Kd.slice 71 k71) 22 w18 w.heap.size (fun k_ => (w.heap.size ≤ k_) ∧ some k_ ≠ (v516 : Value).ownBlock ∧ k_ ≠ gb513 ∧ k_ ≠ gb514) v525 y524) := ⟨h1_⟩
        have n2_ : Aside0 (w18.heap[gb513]? = some (.cells #[.slice A0_0 l0_0.length c0_0, .slice A0_1 l0_1.length c0_1, .slice A0_2 l0_2.length c0_2, .slice A0_3 l0_3.length c0_3, .bool a0_4, .bool a0_5] 79 (0, 0))) := ⟨h2_⟩
        have n3_ : Aside0 (w18.heap[gb514]? = some (.cells #[.slice none 0 0, .slice none 0 0] 40 (0, 0))) := ⟨h3_⟩
        have n4_ : Aside0 (Below w.heap.size w w18) := ⟨h4_⟩
        clear BK513 BK514 HB h0_ h1_ h2_ h3_ h4_; have HO517 := n0_; have HO526 := n1_; have BK513 := n2_; have BK514 := n3_; have HB := n4_; clear n0_ n1_ n2_ n3_ n4_
        have hHeld : w18.cell? ⟨gb513, 0, none⟩ = some (.slice A0_0 l0_0.length c0_0) ∧ w18.cell? ⟨gb513, 1, none⟩ = some (.slice A0_1 l0_1.length c0_1) ∧ w18.cell? ⟨gb513, 2, none⟩ = some (.slice A0_2 l0_2.length c0_2) ∧ w18.cell? ⟨gb513, 3, none⟩ = some (.slice A0_3 l0_3.length c0_3) ∧ w18.cell? ⟨gb513, 4, none⟩ = some (.bool a0_4) ∧ w18.cell? ⟨gb513, 5, none⟩ = some (.bool a0_5) := hS_
        obtain ⟨Ao19, co19, eo19⟩ := Kd.R_slice HO517.out
        (first | subst eo19 | (injection eo19 with f1_ f2_ f3_; have f4_ := f1_.symm; have f5_ := f3_.symm; clear f1_ f2_ f3_; subst f4_; subst f5_))
        refine norm_ (a' := ?_) ?_ ?_; rotate_left
        · simp only [putAll, Act.put, setIfInBounds_toArray, set_cons_zero, set_cons_succ]; rfl
        refine two_ (i := 4) (j := 11) (Ni := some 8) (Nj := some 3) #[true, true, true, true, true, true, true, true, true, true, false, false, false] #[true, true, true, true, false, true, true, true, true, true, false, true, false] rfl rfl rfl rfl (two_of HT_.out (by kernel_rfl)) (by decide) (by decide) (fun K hK => ?_) (fun K hK => ?_)
        ·
         refine Kd.N_lit_step (Kd.slice 71 k71) _ 22 ?hg896 (N' := 8) ?hd896 (xs := ([t515] : List (List (S71)))) (inner := [.slice Ao19 t515.length co19]) (ok := (fun k_ => (w.heap.size ≤ k_) ∧ some k_ ≠ (v525 : Value).ownBlock ∧ k_ ≠ gb513 ∧ k_ ≠ gb514)) (okp := (fun k_ => (w.heap.size ≤ k_) ∧ some k_ ≠ (v525 : Value).ownBlock ∧ k_ ≠ gb513 ∧ k_ ≠ gb514)) ?hr896 ?hp (fun _ hk => hk) ((show ∀ k_, w18.heap.size ≤ k_ → (fun k_ => (w.heap.size ≤ k_) ∧ some k_ ≠ (v525 : Value).ownBlock ∧ k_ ≠ gb513 ∧ k_ ≠ gb514) k_ from fun k_ hk => ⟨(Nat.le_trans (below_size (zqH HB.out GE513.out GE514.out)) hk), Kd.fresh' (Kd.N_lt (zqN HO526.out)) k_ hk, Kd.freshB (g := gb513) (o := .cells #[.slice A0_0 l0_0.length c0_0, .slice A0_1 l0_1.length c0_1, .slice A0_2 l0_2.length c0_2, .slice A0_3 l0_3.length c0_3, .bool a0_4, .bool a0_5] 79 (0, 0)) (zqB BK513.out) k_ hk, Kd.freshB (g := gb514) (o := .cells #[.slice none 0 0, .slice none 0 0] 40 (0, 0)) (zqB BK514.out) k_ hk⟩) _ (Nat.le_refl _)) (Below.refl _ _) (Nat.le_refl _) (by simp) ?_; (case hd896 => rfl); (case hg896 => rfl); (case hr896 => first | (go_simp; done) | (go_simp; rfl)); (case hp => exact (Reps.one (show Kd.FK (Kd.slice 71 k71) _ _ t515 [.slice Ao19 t515.length co19] from (Kd.FK_slice_mk (Kd.R_reads' (Kd.R_mono (ok' := (fun k_ => (w.heap.size ≤ k_) ∧ some k_ ≠ (v525 : Value).ownBlock ∧ k_ ≠ gb513 ∧ k_ ≠ gb514)) (Kd.R_types (Kd.R_types (Kd.R_apart' (HO517.out) (Kd.N_typed HO526.out) (by decide)) BK513.out (by decide)) BK514.out (by decide)) (fun k_ hk => ⟨hk.1.1.1, ⟨hk.1.1.2, ⟨hk.1.2, hk.2⟩⟩⟩))).2.1 (Kd.R_F (Kd.R_mono (ok' := (fun k_ => (w.heap.size ≤ k_) ∧ some k_ ≠ (v525 : Value).ownBlock ∧ k_ ≠ gb513 ∧ k_ ≠ gb514)) (Kd.R_types (Kd.R_types (Kd.R_apart' (HO517.out) (Kd.N_typed HO526.out) (by decide)) BK513.out (by decide)) BK514.out (by decide)) (fun k_ hk => ⟨hk.1.1.1, ⟨hk.1.1.2, ⟨hk.1.2, hk.2⟩⟩⟩))))) (Reps.none _ _)))
         intro v519 w20 ho21 hb hg_ hnew_
         clear hg_ hnew_
         (first | rw [← Ny518.out] at ho21 | (simp only [Int.reduceToNat] at ho21; rw [← Ny518.out] at ho21))
         have n0_ := zA (Kd.N_elder' (zqN HO526.out) (Kd.N_base ho21) hb); have n1_ := zA (Kd.N_lower ho21 (below_size (zqH HB.out GE513.out GE514.out))); have n2_ := zA (blk_below (g := gb513) (zqB BK513.out) hb); have n3_ := zA (blk_below (g := gb514) (zqB BK514.out) hb); have n4_ := zA (below_step (zqH HB.out GE513.out GE514.out) hb); clear HO526 BK513 BK514 HB HO517; have HO526 := n0_; have HO520 := n1_; have BK513 := n2_; have BK514 := n3_; have HB := n4_; clear n0_ n1_ n2_ n3_ n4_ hb ho21
         obtain ⟨Ao22, co22, eo22⟩ := Kd.N_slice HO526.out
         (first | subst eo22 | (injection eo22 with f1_ f2_ f3_; have f4_ := f1_.symm; have f5_ := f3_.symm; clear f1_ f2_ f3_; subst f4_; subst f5_))
         obtain ⟨Ao23, co23, eo23⟩ := Kd.N_slice HO520.out
         (first | subst eo23 | (injection eo23 with f1_ f2_ f3_; have f4_ := f1_.symm; have f5_ := f3_.symm; clear f1_ f2_ f3_; subst f4_; subst f5_))
         refine hK.out _ _ (zrV4x1 BK513.out) (fun hHeld => ?_)
         clear hK K; refine norm_ (a' := ?_) ?_ ?_; rotate_left
         · show Act.put _ (some 8) _ = _; simp only [Act.put, setIfInBounds_toArray, set_cons_zero, set_cons_succ, i64_w, i32_w]; rfl
         refine pure_ (i := 10) (N := some 14) (v := ?_) (a' := ?_) #[true, true, true, true, true, true, true, true, true, true, true, false, false] rfl rfl (any_of HT_.out (by kernel_rfl)) (fun _ _ _ h => h) (Or.inl ⟨by rfl, ?_⟩) ?_ ?_
         rotate_left
         ·
          intro w'
          go_simp
          with_reducible rfl
         rotate_left
         · simp only [Act.put, setIfInBounds_toArray, set_cons_zero, set_cons_succ, i64_w, i32_w]; rfl
         exact norm_ (zqP) (hJ3_4_8_9 (.slice Ao19 t515.length co19, .slice Ao23 y518.length co23, v522, .slice Ao22 y524.length co22) _ ⟨hHeld, (zqN HO520.out), (by (with_reducible repeat (first | apply Kd.N_alloc | apply Kd.N_drewN | apply Kd.N_drew)); exact Kd.N_mono HO526.out (fun _ hk => ⟨hk.1.1, ⟨hk.2, ⟨hk.1.2.2.1, hk.1.2.2.2⟩⟩⟩)), (zqB BK513.out), (zqB BK514.out), (zqH HB.out GE513.out GE514.out)⟩)
        ·
         refine box_step ?hg938 (N := 3) ?hd938 (cs := #[.slice none 0 0, .slice none 0 0]) (t := 40) ?hr938 ?_; (case hd938 => rfl); (case hg938 => rfl); (case hr938 => first | (go_simp; done) | (go_simp; rfl))
         intro gb527 hg w19 hbox hb
         have n0_ := zA (Kd.R_below (zqC HO517.out) hb); have n1_ := zA (Kd.N_below (Kd.N_elderB (zqN HO526.out) gb527 (Nat.le_of_eq hg.symm)) hb); have n2_ := zA (blk_below (g := gb513) (zqB BK513.out) hb); have n3_ := zA (blk_below (g := gb514) (zqB BK514.out) hb); have n4_ := zA (below_step (zqH HB.out GE513.out GE514.out) hb); have n5_ := zA (hbox)
         have n6_ := zA ((by rw [hg]; exact (below_size (zqH HB.out GE513.out GE514.out)) : w.heap.size ≤ gb527))
         have n7_ := zA ((by rw [hg]; exact (below_size (zqH HB.out GE513.out GE514.out)) : w.heap.size ≤ gb527))
         have n8_ := zA ((by rw [hg]; exact Nat.ne_of_lt (blk_lt (g := gb513) (zqB BK513.out)) : gb513 ≠ gb527))
         have n9_ := zA ((by rw [hg]; exact Nat.ne_of_gt (blk_lt (g := gb513) (zqB BK513.out)) : gb527 ≠ gb513))
         have n10_ := zA ((by rw [hg]; exact Nat.ne_of_lt (blk_lt (g := gb514) (zqB BK514.out)) : gb514 ≠ gb527))
         have n11_ := zA ((by rw [hg]; exact Nat.ne_of_gt (blk_lt (g := gb514) (zqB BK514.out)) : gb527 ≠ gb514))
         clear HO517 HO526 BK513 BK514 HB; have HO517 := n0_; have HO526 := n1_; have BK513 := n2_; have BK514 := n3_; have HB := n4_; have BK527 := n5_; have GW527 := n6_; have GE527 := n7_; have NB513_527 := n8_; have NB527_513 := n9_; have NB514_527 := n10_; have NB527_514 := n11_; clear n0_ n1_ n2_ n3_ n4_ n5_ n6_ n7_ n8_ n9_ n10_ n11_ hb hbox hg
         refine hK.out _ _ (zrV4x1 BK513.out) (fun hHeld => ?_)
         clear hK K; refine norm_ (a' := ?_) ?_ ?_; rotate_left
         · show Act.put _ (some 3) _ = _; simp only [Act.put, setIfInBounds_toArray, set_cons_zero, set_cons_succ, i64_w, i32_w]; rfl
         exact norm_ (zqP) (hJ3_8_9_11 (.slice Ao19 t515.length co19, v522, v525, gb527) _ ⟨hHeld, (zqC HO517.out), (by (with_reducible repeat (first | apply Kd.N_alloc | apply Kd.N_drewN | apply Kd.N_drew)); exact Kd.N_mono HO526.out (fun _ hk => ⟨hk.1.1, ⟨hk.1.2.1, ⟨hk.1.2.2.1, ⟨hk.1.2.2.2, hk.2⟩⟩⟩⟩)), (zqB BK513.out), (zqB BK514.out), (zqB BK527.out), GW527.out, GE527.out, NB513_527.out, NB527_513.out, NB514_527.out, NB527_514.out, (zqI HB.out GE513.out GE514.out GE527.out)⟩)
      ·
       rintro ⟨v516, v519, gb527⟩ w18 ⟨hS_, h0_, h1_, h2_, h3_, h4_, h5_, h6_, h7_, h8_, h9_, h10_⟩
       have n0_ : Aside0 (Kd.N (Kd.slice 71 k71) 22 w18 w.heap.size (fun k_ => (w.heap.size ≤ k_) ∧ k_ ≠ gb513 ∧ k_ ≠ gb514 ∧ k_ ≠ gb527) v519 y518) := ⟨h0_⟩
       have n1_ : Aside0 (w18.heap[gb513]? = some (.cells #[.slice A0_0 l0_0.length c0_0, .slice A0_1 l0_1.length c0_1, .slice A0_2 l0_2.length c0_2, .slice A0_3 l0_3.length c0_3, .bool a0_4, .bool a0_5] 79 (0, 0))) := ⟨h1_⟩
       have n2_ : Aside0 (w18.heap[gb514]? = some (.cells #[.slice none 0 0, .slice none 0 0] 40 (0, 0))) := ⟨h2_⟩
       have n3_ : Aside0 (w18.heap[gb527]? = some (.cells #[.slice none 0 0, .slice none 0 0] 40 (0, 0))) := ⟨h3_⟩
       have n4_ : Aside0 (w.heap.size ≤ gb527) := ⟨h4_⟩
       have n5_ : Aside0 (w.heap.size ≤ gb527) := ⟨h5_⟩
       have n6_ : Aside0 (gb513 ≠ gb527) := ⟨h6_⟩
       have n7_ : Aside0 (gb527 ≠ gb513) := ⟨h7_⟩
       have n8_ : Aside0 (gb514 ≠ gb527) := ⟨h8_⟩
       have n9_ : Aside0 (gb527 ≠ gb514) := ⟨h9_⟩
       have n10_ : Aside0 (Below w.heap.size w w18) := ⟨h10_⟩
       clear BK513 BK514 HB h0_ h1_ h2_ h3_ h4_ h5_ h6_ h7_ h8_ h9_ h10_; have HO520 := n0_; have BK513 := n1_; have BK514 := n2_; have BK527 := n3_; have GW527 := n4_; have GE527 := n5_; have NB513_527 := n6_; have NB527_513 := n7_; have NB514_527 := n8_; have NB527_514 := n9_; have HB := n10_; clear n0_ n1_ n2_ n3_ n4_ n5_ n6_ n7_ n8_ n9_ n10_
       have hHeld : w18.cell? ⟨gb513, 0, none⟩ = some (.slice A0_0 l0_0.length c0_0) ∧ w18.cell? ⟨gb513, 1, none⟩ = some (.slice A0_1 l0_1.length c0_1) ∧ w18.cell? ⟨gb513, 2, none⟩ = some (.slice A0_2 l0_2.length c0_2) ∧ w18.cell? ⟨gb513, 3, none⟩ = some (.slice A0_3 l0_3.length c0_3) ∧ w18.cell? ⟨gb513, 4, none⟩ = some (.bool a0_4) ∧ w18.cell? ⟨gb513, 5, none⟩ = some (.bool a0_5) := hS_
       refine norm_ (a' := ?_) ?_ ?_; rotate_left
       · simp only [putAll, Act.put, setIfInBounds_toArray, set_cons_zero, set_cons_succ]; rfl
       refine one_ (i := 8) (N := some 12) #[true, true, true, true, true, true, true, true, true, false, false, true, false] rfl rfl (one_of HT_.out (by kernel_rfl)) (by decide) (fun K hK => ?_)
       refine goes_ Try.func40 (by kernel_rfl) rfl #[.slice A0_2 l0_2.length c0_2] (by rfl) rfl rfl zqE ?_
       with_reducible refine (pianolalaw04_Set_made.calls k _ _ l0_2 t521 _ ?side1 ?side2 A3.out).mono ?_
       (case side1 => exact zqK (Kd.C_below HR0_2.out HB.out))
       (case side2 => exact HC0_2.out)
       rintro e w19 ⟨v522, rfl, ho0, hb⟩
       refine ⟨_, rfl, ?_⟩
       have n0_ := zA (Kd.N_elder' (zqN HO520.out) (Kd.R_base ho0) hb); have n1_ := zA (Kd.R_lower (Kd.R_newM (M := fun k_ => (w.heap.size ≤ k_)) ho0 (below_size (zqI HB.out GE513.out GE514.out GE527.out)) (fun k_ h_ => h_)) (below_size (zqI HB.out GE513.out GE514.out GE527.out))); have n2_ := zA (blk_below (g := gb513) (zqB BK513.out) hb); have n3_ := zA (blk_below (g := gb514) (zqB BK514.out) hb); have n4_ := zA (blk_below (g := gb527) (zqB BK527.out) hb); have n5_ := zA (below_step (zqI HB.out GE513.out GE514.out GE527.out) hb); clear HO520 BK513 BK514 BK527 HB; have HO520 := n0_; have HO523 := n1_; have BK513 := n2_; have BK514 := n3_; have BK527 := n4_; have HB := n5_; clear n0_ n1_ n2_ n3_ n4_ n5_
       (try clear hb); (try clear hb2); (try clear hk); (try clear hi); (try clear ho0)
       refine hK.out _ _ (zrV4x1 BK513.out) (fun hHeld => ?_)
       clear hK K; refine norm_ (a' := ?_) ?_ ?_; rotate_left
       · show Act.put _ (some 12) _ = _; simp only [Act.put, setIfInBounds_toArray, set_cons_zero, set_cons_succ, i64_w, i32_w]; rfl
       exact norm_ (zqP) (hJ3_4_8_11 (v516, v519, v522, gb527) _ ⟨hHeld, (by (with_reducible repeat (first | apply Kd.N_alloc | apply Kd.N_drewN | apply Kd.N_drew)); exact Kd.N_mono HO520.out (fun _ hk => ⟨hk.1.1, ⟨hk.2, ⟨hk.1.2.1, ⟨hk.1.2.2.1, hk.1.2.2.2⟩⟩⟩⟩)), (by (with_reducible repeat (first | apply Kd.R_alloc | apply Kd.R_drewN | apply Kd.R_drew)); exact Kd.R_mono HO523.out (fun _ hk => hk.1)), (zqB BK513.out), (zqB BK514.out), (zqB BK527.out), GW527.out, GE527.out, NB513_527.out, NB527_513.out, NB514_527.out, NB527_514.out, (zqI HB.out GE513.out GE514.out GE527.out)⟩)
     ·
      rintro ⟨v516, v519, v522⟩ w18 ⟨hS_, h0_, h1_, h2_, h3_, h4_⟩
      have n0_ : Aside0 (Kd.N (Kd.slice 71 k71) 22 w18 w.heap.size (fun k_ => (w.heap.size ≤ k_) ∧ some k_ ≠ (v522 : Value).ownBlock ∧ k_ ≠ gb513 ∧ k_ ≠ gb514) v519 y518) := ⟨h0_⟩
      have n1_ : Aside0 (Kd.R k71 71 w18 w.heap.size (fun k_ => (w.heap.size ≤ k_)) v522 t521) := ⟨h1_⟩
      have n2_ : Aside0 (w18.heap[gb513]? = some (.cells #[.slice A0_0 l0_0.length c0_0, .slice A0_1 l0_1.length c0_1, .slice A0_2 l0_2.length c0_2, .slice A0_3 l0_3.length c0_3, .bool a0_4, .bool a0_5] 79 (0, 0))) := ⟨h2_⟩
      have n3_ : Aside0 (w18.heap[gb514]? = some (.cells #[.slice none 0 0, .slice none 0 0] 40 (0, 0))) := ⟨h3_⟩
      have n4_ : Aside0 (Below w.heap.size w w18) := ⟨h4_⟩
      clear BK513 BK514 HB h0_ h1_ h2_ h3_ h4_; have HO520 := n0_; have HO523 := n1_; have BK513 := n2_; have BK514 := n3_; have HB := n4_; clear n0_ n1_ n2_ n3_ n4_
      have hHeld : w18.cell? ⟨gb513, 0, none⟩ = some (.slice A0_0 l0_0.length c0_0) ∧ w18.cell? ⟨gb513, 1, none⟩ = some (.slice A0_1 l0_1.length c0_1) ∧ w18.cell? ⟨gb513, 2, none⟩ = some (.slice A0_2 l0_2.length c0_2) ∧ w18.cell? ⟨gb513, 3, none⟩ = some (.slice A0_3 l0_3.length c0_3) ∧ w18.cell? ⟨gb513, 4, none⟩ = some (.bool a0_4) ∧ w18.cell? ⟨gb513, 5, none⟩ = some (.bool a0_5) := hS_
      obtain ⟨Ao19, co19, eo19⟩ := Kd.R_slice HO523.out
      (first | subst eo19 | (injection eo19 with f1_ f2_ f3_; have f4_ := f1_.symm; have f5_ := f3_.symm; clear f1_ f2_ f3_; subst f4_; subst f5_))
      refine norm_ (a' := ?_) ?_ ?_; rotate_left
      · simp only [putAll, Act.put, setIfInBounds_toArray, set_cons_zero, set_cons_succ]; rfl
      refine two_ (i := 9) (j := 11) (Ni := some 13) (Nj := some 3) #[true, true, true, true, true, true, true, true, true, true, false, false, false] #[true, true, true, true, true, true, true, true, true, false, false, true, false] rfl rfl rfl rfl (two_of HT_.out (by kernel_rfl)) (by decide) (by decide) (fun K hK => ?_) (fun K hK => ?_)
      ·
       refine Kd.N_lit_step (Kd.slice 71 k71) _ 22 ?hg1077 (N' := 13) ?hd1077 (xs := ([t521] : List (List (S71)))) (inner := [.slice Ao19 t521.length co19]) (ok := (fun k_ => (w.heap.size ≤ k_) ∧ some k_ ≠ (v519 : Value).ownBlock ∧ k_ ≠ gb513 ∧ k_ ≠ gb514)) (okp := (fun k_ => (w.heap.size ≤ k_) ∧ some k_ ≠ (v519 : Value).ownBlock ∧ k_ ≠ gb513 ∧ k_ ≠ gb514)) ?hr1077 ?hp (fun _ hk => hk) ((show ∀ k_, w18.heap.size ≤ k_ → (fun k_ => (w.heap.size ≤ k_) ∧ some k_ ≠ (v519 : Value).ownBlock ∧ k_ ≠ gb513 ∧ k_ ≠ gb514) k_ from fun k_ hk => ⟨(Nat.le_trans (below_size (zqH HB.out GE513.out GE514.out)) hk), Kd.fresh' (Kd.N_lt (zqN HO520.out)) k_ hk, Kd.freshB (g := gb513) (o := .cells #[.slice A0_0 l0_0.length c0_0, .slice A0_1 l0_1.length c0_1, .slice A0_2 l0_2.length c0_2, .slice A0_3 l0_3.length c0_3, .bool a0_4, .bool a0_5] 79 (0, 0)) (zqB BK513.out) k_ hk, Kd.freshB (g := gb514) (o := .cells #[.slice none 0 0, .slice none 0 0] 40 (0, 0)) (zqB BK514.out) k_ hk⟩) _ (Nat.le_refl _)) (Below.refl _ _) (Nat.le_refl _) (by simp) ?_; (case hd1077 => rfl); (case hg1077 => rfl); (case hr1077 => first | (go_simp; done) | (go_simp; rfl)); (case hp => exact (Reps.one (show Kd.FK (Kd.slice 71 k71) _ _ t521 [.slice Ao19 t521.length co19] from (Kd.FK_slice_mk (Kd.R_reads' (Kd.R_mono (ok' := (fun k_ => (w.heap.size ≤ k_) ∧ some k_ ≠ (v519 : Value).ownBlock ∧ k_ ≠ gb513 ∧ k_ ≠ gb514)) (Kd.R_types (Kd.R_types (Kd.R_apart' (HO523.out) (Kd.N_typed HO520.out) (by decide)) BK513.out (by decide)) BK514.out (by decide)) (fun k_ hk => ⟨hk.1.1.1, ⟨hk.1.1.2, ⟨hk.1.2, hk.2⟩⟩⟩))).2.1 (Kd.R_F (Kd.R_mono (ok' := (fun k_ => (w.heap.size ≤ k_) ∧ some k_ ≠ (v519 : Value).ownBlock ∧ k_ ≠ gb513 ∧ k_ ≠ gb514)) (Kd.R_types (Kd.R_types (Kd.R_apart' (HO523.out) (Kd.N_typed HO520.out) (by decide)) BK513.out (by decide)) BK514.out (by decide)) (fun k_ hk => ⟨hk.1.1.1, ⟨hk.1.1.2, ⟨hk.1.2, hk.2⟩⟩⟩))))) (Reps.none _ _)))
       intro v525 w20 ho21 hb hg_ hnew_
       clear hg_ hnew_
       (first | rw [← Ny524.out] at ho21 | (simp only [Int.reduceToNat] at ho21; rw [← Ny524.out] at ho21))
       have n0_ := zA (Kd.N_elder' (zqN HO520.out) (Kd.N_base ho21) hb); have n1_ := zA (Kd.N_lower ho21 (below_size (zqH HB.out GE513.out GE514.out))); have n2_ := zA (blk_below (g := gb513) (zqB BK513.out) hb); have n3_ := zA (blk_below (g := gb514) (zqB BK514.out) hb); have n4_ := zA (below_step (zqH HB.out GE513.out GE514.out) hb); clear HO520 BK513 BK514 HB HO523; have HO520 := n0_; have HO526 := n1_; have BK513 := n2_; have BK514 := n3_; have HB := n4_; clear n0_ n1_ n2_ n3_ n4_ hb ho21
       obtain ⟨Ao22, co22, eo22⟩ := Kd.N_slice HO526.out
       (first | subst eo22 | (injection eo22 with f1_ f2_ f3_; have f4_ := f1_.symm; have f5_ := f3_.symm; clear f1_ f2_ f3_; subst f4_; subst f5_))
       obtain ⟨Ao23, co23, eo23⟩ := Kd.N_slice HO520.out
       (first | subst eo23 | (injection eo23 with f1_ f2_ f3_; have f4_ := f1_.symm; have f5_ := f3_.symm; clear f1_ f2_ f3_; subst f4_; subst f5_))
       refine hK.out _ _ (zrV4x1 BK513.out) (fun hHeld => ?_)
       clear hK K; refine norm_ (a' := ?_) ?_ ?_; rotate_left
       · show Act.put _ (some 13) _ = _; simp only [Act.put, setIfInBounds_toArray, set_cons_zero, set_cons_succ, i64_w, i32_w]; rfl
       refine pure_ (i := 10) (N := some 14) (v := ?_) (a' := ?_) #[true, true, true, true, true, true, true, true, true, true, true, false, false] rfl rfl (any_of HT_.out (by kernel_rfl)) (fun _ _ _ h => h) (Or.inl ⟨by rfl, ?_⟩) ?_ ?_
       rotate_left
       ·
        intro w'
        go_simp
        with_reducible rfl
       rotate_left
       · simp only [Act.put, setIfInBounds_toArray, set_cons_zero, set_cons_succ, i64_w, i32_w]; rfl
       exact norm_ (zqP) (hJ3_4_8_9 (v516, .slice Ao23 y518.length co23, .slice Ao19 t521.length co19, .slice Ao22 y524.length co22) _ ⟨hHeld, (by (with_reducible repeat (first | apply Kd.N_alloc | apply Kd.N_drewN | apply Kd.N_drew)); exact Kd.N_mono HO520.out (fun _ hk => ⟨hk.1.1, ⟨hk.2, ⟨hk.1.2.2.1, hk.1.2.2.2⟩⟩⟩)), (zqN HO526.out), (zqB BK513.out), (zqB BK514.out), (zqH HB.out GE513.out GE514.out)⟩)
      ·
       refine box_step ?hg1119 (N := 3) ?hd1119 (cs := #[.slice none 0 0, .slice none 0 0]) (t := 40) ?hr1119 ?_; (case hd1119 => rfl); (case hg1119 => rfl); (case hr1119 => first | (go_simp; done) | (go_simp; rfl))
       intro gb527 hg w19 hbox hb
       have n0_ := zA (Kd.N_below (Kd.N_elderB (zqN HO520.out) gb527 (Nat.le_of_eq hg.symm)) hb); have n1_ := zA (Kd.R_below (zqC HO523.out) hb); have n2_ := zA (blk_below (g := gb513) (zqB BK513.out) hb); have n3_ := zA (blk_below (g := gb514) (zqB BK514.out) hb); have n4_ := zA (below_step (zqH HB.out GE513.out GE514.out) hb); have n5_ := zA (hbox)
       have n6_ := zA ((by rw [hg]; exact (below_size (zqH HB.out GE513.out GE514.out)) : w.heap.size ≤ gb527))
       have n7_ := zA ((by rw [hg]; exact (below_size (zqH HB.out GE513.out GE514.out)) : w.heap.size ≤ gb527))
       have n8_ := zA ((by rw [hg]; exact Nat.ne_of_lt (blk_lt (g := gb513) (zqB BK513.out)) : gb513 ≠ gb527))
       have n9_ := zA ((by rw [hg]; exact Nat.ne_of_gt (blk_lt (g := gb513) (zqB BK513.out)) : gb527 ≠ gb513))
       have n10_ := zA ((by rw [hg]; exact Nat.ne_of_lt (blk_lt (g := gb514) (zqB BK514.out)) : gb514 ≠ gb527))
       have n11_ := zA ((by rw [hg]; exact Nat.ne_of_gt (blk_lt (g := gb514) (zqB BK514.out)) : gb527 ≠ gb514))
       clear HO520 HO523 BK513 BK514 HB; have HO520 := n0_; have HO523 := n1_; have BK513 := n2_; have BK514 := n3_; have HB := n4_; have BK527 := n5_; have GW527 := n6_; have GE527 := n7_; have NB513_527 := n8_; have NB527_513 := n9_; have NB514_527 := n10_; have NB527_514 := n11_; clear n0_ n1_ n2_ n3_ n4_ n5_ n6_ n7_ n8_ n9_ n10_ n11_ hb hbox hg
       refine hK.out _ _ (zrV4x1 BK513.out) (fun hHeld => ?_)
       clear hK K; refine norm_ (a' := ?_) ?_ ?_; rotate_left
       · show Act.put _ (some 3) _ = _; simp only [Act.put, setIfInBounds_toArray, set_cons_zero, set_cons_succ, i64_w, i32_w]; rfl
       exact norm_ (zqP) (hJ3_4_8_11 (v516, v519, .slice Ao19 t521.length co19, gb527) _ ⟨hHeld, (by (with_reducible repeat (first | apply Kd.N_alloc | apply Kd.N_drewN | apply Kd.N_drew)); exact Kd.N_mono HO520.out (fun _ hk => ⟨hk.1.1, ⟨hk.1.2.1, ⟨hk.1.2.2.1, ⟨hk.1.2.2.2, hk.2⟩⟩⟩⟩)), (zqC HO523.out), (zqB BK513.out), (zqB BK514.out), (zqB BK527.out), GW527.out, GE527.out, NB513_527.out, NB527_513.out, NB514_527.out, NB527_514.out, (zqI HB.out GE513.out GE514.out GE527.out)⟩)
    ·
     rintro ⟨v516, v522, v525, gb527⟩ w19 ⟨hS_, h0_, h1_, h2_, h3_, h4_, h5_, h6_, h7_, h8_, h9_, h10_, h11_⟩
     have n0_ : Aside0 (Kd.R k71 71 w19 w.heap.size (fun k_ => (w.heap.size ≤ k_)) v516 t515) := ⟨h0_⟩
     have n1_ : Aside0 (Kd.N (Kd.slice 71 k71) 22 w19 w.heap.size (fun k_ => (w.heap.size ≤ k_) ∧ some k_ ≠ (v516 : Value).ownBlock ∧ k_ ≠ gb513 ∧ k_ ≠ gb514 ∧ k_ ≠ gb527) v525 y524) := ⟨h1_⟩
     have n2_ : Aside0 (w19.heap[gb513]? = some (.cells #[.slice A0_0 l0_0.length c0_0, .slice A0_1 l0_1.length c0_1, .slice A0_2 l0_2.length c0_2, .slice A0_3 l0_3.length c0_3, .bool a0_4, .bool a0_5] 79 (0, 0))) := ⟨h2_⟩
     have n3_ : Aside0 (w19.heap[gb514]? = some (.cells #[.slice none 0 0, .slice none 0 0] 40 (0, 0))) := ⟨h3_⟩
     have n4_ : Aside0 (w19.heap[gb527]? = some (.cells #[.slice none 0 0, .slice none 0 0] 40 (0, 0))) := ⟨h4_⟩
     have n5_ : Aside0 (w.heap.size ≤ gb527) := ⟨h5_⟩
     have n6_ : Aside0 (w.heap.size ≤ gb527) := ⟨h6_⟩
     have n7_ : Aside0 (gb513 ≠ gb527) := ⟨h7_⟩
     have n8_ : Aside0 (gb527 ≠ gb513) := ⟨h8_⟩
     have n9_ : Aside0 (gb514 ≠ gb527) := ⟨h9_⟩
     have n10_ : Aside0 (gb527 ≠ gb514) := ⟨h10_⟩
     have n11_ : Aside0 (Below w.heap.size w w19) := ⟨h11_⟩
     clear BK513 BK514 HB h0_ h1_ h2_ h3_ h4_ h5_ h6_ h7_ h8_ h9_ h10_ h11_; have HO517 := n0_; have HO526 := n1_; have BK513 := n2_; have BK514 := n3_; have BK527 := n4_; have GW527 := n5_; have GE527 := n6_; have NB513_527 := n7_; have NB527_513 := n8_; have NB514_527 := n9_; have NB527_514 := n10_; have HB := n11_; clear n0_ n1_ n2_ n3_ n4_ n5_ n6_ n7_ n8_ n9_ n10_ n11_
     have hHeld : w19.cell? ⟨gb513, 0, none⟩ = some (.slice A0_0 l0_0.length c0_0) ∧ w19.cell? ⟨gb513, 1, none⟩ = some (.slice A0_1 l0_1.length c0_1) ∧ w19.cell? ⟨gb513, 2, none⟩ = some (.slice A0_2 l0_2.length c0_2) ∧ w19.cell? ⟨gb513, 3, none⟩ = some (.slice A0_3 l0_3.length c0_3) ∧ w19.cell? ⟨gb513, 4, none⟩ = some (.bool a0_4) ∧ w19.cell? ⟨gb513, 5, none⟩ = some (.bool a0_5) := hS_
     obtain ⟨Ao20, co20, eo20⟩ := Kd.R_slice HO517.out
     (first | subst eo20 | (injection eo20 with f1_ f2_ f3_; have f4_ := f1_.symm; have f5_ := f3_.symm; clear f1_ f2_ f3_; subst f4_; subst f5_))
     refine norm_ (a' := ?_) ?_ ?_; rotate_left
     · simp only [putAll, Act.put, setIfInBounds_toArray, set_cons_zero, set_cons_succ]; rfl
     refine one_ (i := 4) (N := some 8) #[true, true, true, true, true, true, true, true, true, true, false, true, false] rfl rfl (one_of HT_.out (by kernel_rfl)) (by decide) (fun K hK => ?_)
     refine Kd.N_lit_step (Kd.slice 71 k71) _ 22 ?hg1199 (N' := 8) ?hd1199 (xs := ([t515] : List (List (S71)))) (inner := [.slice Ao20 t515.length co20]) (ok := (fun k_ => (w.heap.size ≤ k_) ∧ some k_ ≠ (v525 : Value).ownBlock ∧ k_ ≠ gb513 ∧ k_ ≠ gb514 ∧ k_ ≠ gb527)) (okp := (fun k_ => (w.heap.size ≤ k_) ∧ some k_ ≠ (v525 : Value).ownBlock ∧ k_ ≠ gb513 ∧ k_ ≠ gb514 ∧ k_ ≠ gb527)) ?hr1199 ?hp (fun _ hk => hk) ((show ∀ k_, w19.heap.size ≤ k_ → (fun k_ => (w.heap.size ≤ k_) ∧ some k_ ≠ (v525 : Value).ownBlock ∧ k_ ≠ gb513 ∧ k_ ≠ gb514 ∧ k_ ≠ gb527) k_ from fun k_ hk => ⟨(Nat.le_trans (below_size (zqI HB.out GE513.out GE514.out GE527.out)) hk), Kd.fresh' (Kd.N_lt (zqN HO526.out)) k_ hk, Kd.freshB (g := gb513) (o := .cells #[.slice A0_0 l0_0.length c0_0, .slice A0_1 l0_1.length c0_1, .slice A0_2 l0_2.length c0_2, .slice A0_3 l0_3.length c0_3, .bool a0_4, .bool a0_5] 79 (0, 0)) (zqB BK513.out) k_ hk, Kd.freshB (g := gb514) (o := .cells #[.slice none 0 0, .slice none 0 0] 40 (0, 0)) (zqB BK514.out) k_ hk, Kd.freshB (g := gb527) (o := .cells #[.slice none 0 0, .slice none 0 0] 40 (0, 0)) (zqB BK527.out) k_ hk⟩) _ (Nat.le_refl _)) (Below.refl _ _) (Nat.le_refl _) (by simp) ?_; (case hd1199 => rfl); (case hg1199 => rfl); (case hr1199 => first | (go_simp; done) | (go_simp; rfl)); (case hp => exact (Reps.one (show Kd.FK (Kd.slice 71 k71) _ _ t515 [.slice Ao20 t515.length co20] from (Kd.FK_slice_mk (Kd.R_reads' (Kd.R_mono (ok' := (fun k_ => (w.heap.size ≤ k_) ∧ some k_ ≠ (v525 : Value).ownBlock ∧ k_ ≠ gb513 ∧ k_ ≠ gb514 ∧ k_ ≠ gb527)) (Kd.R_types (Kd.R_types (Kd.R_types (Kd.R_apart' (HO517.out) (Kd.N_typed HO526.out) (by decide)) BK513.out (by decide)) BK514.out (by decide)) BK527.out (by decide)) (fun k_ hk => ⟨hk.1.1.1.1, ⟨hk.1.1.1.2, ⟨hk.1.1.2, ⟨hk.1.2, hk.2⟩⟩⟩⟩))).2.1 (Kd.R_F (Kd.R_mono (ok' := (fun k_ => (w.heap.size ≤ k_) ∧ some k_ ≠ (v525 : Value).ownBlock ∧ k_ ≠ gb513 ∧ k_ ≠ gb514 ∧ k_ ≠ gb527)) (Kd.R_types (Kd.R_types (Kd.R_types (Kd.R_apart' (HO517.out) (Kd.N_typed HO526.out) (by decide)) BK513.out (by decide)) BK514.out (by decide)) BK527.out (by decide)) (fun k_ hk => ⟨hk.1.1.1.1, ⟨hk.1.1.1.2, ⟨hk.1.1.2, ⟨hk.1.2, hk.2⟩⟩⟩⟩))))) (Reps.none _ _)))
     intro v519 w21 ho22 hb hg_ hnew_
     clear hg_ hnew_
     (first | rw [← Ny518.out] at ho22 | (simp only [Int.reduceToNat] at ho22; rw [← Ny518.out] at ho22))
     have n0_ := zA (Kd.N_elder' (zqN HO526.out) (Kd.N_base ho22) hb); have n1_ := zA (Kd.N_lower ho22 (below_size (zqI HB.out GE513.out GE514.out GE527.out))); have n2_ := zA (blk_below (g := gb513) (zqB BK513.out) hb); have n3_ := zA (blk_below (g := gb514) (zqB BK514.out) hb); have n4_ := zA (blk_below (g := gb527) (zqB BK527.out) hb); have n5_ := zA (below_step (zqI HB.out GE513.out GE514.out GE527.out) hb); clear HO526 BK513 BK514 BK527 HB HO517; have HO526 := n0_; have HO520 := n1_; have BK513 := n2_; have BK514 := n3_; have BK527 := n4_; have HB := n5_; clear n0_ n1_ n2_ n3_ n4_ n5_ hb ho22
     obtain ⟨Ao23, co23, eo23⟩ := Kd.N_slice HO526.out
     (first | subst eo23 | (injection eo23 with f1_ f2_ f3_; have f4_ := f1_.symm; have f5_ := f3_.symm; clear f1_ f2_ f3_; subst f4_; subst f5_))
     obtain ⟨Ao24, co24, eo24⟩ := Kd.N_slice HO520.out
     (first | subst eo24 | (injection eo24 with f1_ f2_ f3_; have f4_ := f1_.symm; have f5_ := f3_.symm; clear f1_ f2_ f3_; subst f4_; subst f5_))
     refine hK.out _ _ (zrV4x1 BK513.out) (fun hHeld => ?_)
     clear hK K; refine norm_ (a' := ?_) ?_ ?_; rotate_left
     · show Act.put _ (some 8) _ = _; simp only [Act.put, setIfInBounds_toArray, set_cons_zero, set_cons_succ, i64_w, i32_w]; rfl
     refine pure_ (i := 10) (N := some 14) (v := ?_) (a' := ?_) #[true, true, true, true, true, true, true, true, true, true, true, true, false] rfl rfl (any_of HT_.out (by kernel_rfl)) (fun _ _ _ h => h) (Or.inl ⟨by rfl, ?_⟩) ?_ ?_
     rotate_left
     ·
      intro w'
      go_simp
      with_reducible rfl
     rotate_left
     · simp only [Act.put, setIfInBounds_toArray, set_cons_zero, set_cons_succ, i64_w, i32_w]; rfl
     exact norm_ (zqP) (hJ3_4_8_9_11 (.slice Ao20 t515.length co20, .slice Ao24 y518.length co24, v522, .slice Ao23 y524.length co23, gb527) _ ⟨hHeld, (zqN HO520.out), (by (with_reducible repeat (first | apply Kd.N_alloc | apply Kd.N_drewN | apply Kd.N_drew)); exact Kd.N_mono HO526.out (fun _ hk => ⟨hk.1.1, ⟨hk.2, ⟨hk.1.2.2.1, ⟨hk.1.2.2.2.1, hk.1.2.2.2.2⟩⟩⟩⟩)), (zqB BK513.out), (zqB BK514.out), (zqB BK527.out), GW527.out, GE527.out, NB513_527.out, NB527_513.out, NB514_527.out, NB527_514.out, (zqI HB.out GE513.out GE514.out GE527.out)⟩)
   ·
    rintro ⟨v516, v519, v522, gb527⟩ w19 ⟨hS_, h0_, h1_, h2_, h3_, h4_, h5_, h6_, h7_, h8_, h9_, h10_, h11_⟩
    have n0_ : Aside0 (Kd.N (Kd.slice 71 k71) 22 w19 w.heap.size (fun k_ => (w.heap.size ≤ k_) ∧ some k_ ≠ (v522 : Value).ownBlock ∧ k_ ≠ gb513 ∧ k_ ≠ gb514 ∧ k_ ≠ gb527) v519 y518) := ⟨h0_⟩
    have n1_ : Aside0 (Kd.R k71 71 w19 w.heap.size (fun k_ => (w.heap.size ≤ k_)) v522 t521) := ⟨h1_⟩
    have n2_ : Aside0 (w19.heap[gb513]? = some (.cells #[.slice A0_0 l0_0.length c0_0, .slice A0_1 l0_1.length c0_1, .slice A0_2 l0_2.length c0_2, .slice A0_3 l0_3.length c0_3, .bool a0_4, .bool a0_5] 79 (0, 0))) := ⟨h2_⟩
    have n3_ : Aside0 (w19.heap[gb514]? = some (.cells #[.slice none 0 0, .slice none 0 0] 40 (0, 0))) := ⟨h3_⟩
    have n4_ : Aside0 (w19.heap[gb527]? = some (.cells #[.slice none 0 0, .slice none 0 0] 40 (0, 0))) := ⟨h4_⟩
    have n5_ : Aside0 (w.heap.size ≤ gb527) := ⟨h5_⟩
    have n6_ : Aside0 (w.heap.size ≤ gb527) := ⟨h6_⟩
    have n7_ : Aside0 (gb513 ≠ gb527) := ⟨h7_⟩
    have n8_ : Aside0 (gb527 ≠ gb513) := ⟨h8_⟩
    have n9_ : Aside0 (gb514 ≠ gb527) := ⟨h9_⟩
    have n10_ : Aside0 (gb527 ≠ gb514) := ⟨h10_⟩
    have n11_ : Aside0 (Below w.heap.size w w19) := ⟨h11_⟩
    clear BK513 BK514 HB h0_ h1_ h2_ h3_ h4_ h5_ h6_ h7_ h8_ h9_ h10_ h11_; have HO520 := n0_; have HO523 := n1_; have BK513 := n2_; have BK514 := n3_; have BK527 := n4_; have GW527 := n5_; have GE527 := n6_; have NB513_527 := n7_; have NB527_513 := n8_; have NB514_527 := n9_; have NB527_514 := n10_; have HB := n11_; clear n0_ n1_ n2_ n3_ n4_ n5_ n6_ n7_ n8_ n9_ n10_ n11_
    have hHeld : w19.cell? ⟨gb513, 0, none⟩ = some (.slice A0_0 l0_0.length c0_0) ∧ w19.cell? ⟨gb513, 1, none⟩ = some (.slice A0_1 l0_1.length c0_1) ∧ w19.cell? ⟨gb513, 2, none⟩ = some (.slice A0_2 l0_2.length c0_2) ∧ w19.cell? ⟨gb513, 3, none⟩ = some (.slice A0_3 l0_3.length c0_3) ∧ w19.cell? ⟨gb513, 4, none⟩ = some (.bool a0_4) ∧ w19.cell? ⟨gb513, 5, none⟩ = some (.bool a0_5) := hS_
    obtain ⟨Ao20, co20, eo20⟩ := Kd.R_slice HO523.out
    (first | subst eo20 | (injection eo20 with f1_ f2_ f3_; have f4_ := f1_.symm; have f5_ := f3_.symm; clear f1_ f2_ f3_; subst f4_; subst f5_))
    refine norm_ (a' := ?_) ?_ ?_; rotate_left
    · simp only [putAll, Act.put, setIfInBounds_toArray, set_cons_zero, set_cons_succ]; rfl
    refine one_ (i := 9) (N := some 13) #[true, true, true, true, true, true, true, true, true, true, false, true, false] rfl rfl (one_of HT_.out (by kernel_rfl)) (by decide) (fun K hK => ?_)
    refine Kd.N_lit_step (Kd.slice 71 k71) _ 22 ?hg1282 (N' := 13) ?hd1282 (xs := ([t521] : List (List (S71)))) (inner := [.slice Ao20 t521.length co20]) (ok := (fun k_ => (w.heap.size ≤ k_) ∧ some k_ ≠ (v519 : Value).ownBlock ∧ k_ ≠ gb513 ∧ k_ ≠ gb514 ∧ k_ ≠ gb527)) (okp := (fun k_ => (w.heap.size ≤ k_) ∧ some k_ ≠ (v519 : Value).ownBlock ∧ k_ ≠ gb513 ∧ k_ ≠ gb514 ∧ k_ ≠ gb527)) ?hr1282 ?hp (fun _ hk => hk) ((show ∀ k_, w19.heap.size ≤ k_ → (fun k_ => (w.heap.size ≤ k_) ∧ some k_ ≠ (v519 : Value).ownBlock ∧ k_ ≠ gb513 ∧ k_ ≠ gb514 ∧ k_ ≠ gb527) k_ from fun k_ hk => ⟨(Nat.le_trans (below_size (zqI HB.out GE513.out GE514.out GE527.out)) hk), Kd.fresh' (Kd.N_lt (zqN HO520.out)) k_ hk, Kd.freshB (g := gb513) (o := .cells #[.slice A0_0 l0_0.length c0_0, .slice A0_1 l0_1.length c0_1, .slice A0_2 l0_2.length c0_2, .slice A0_3 l0_3.length c0_3, .bool a0_4, .bool a0_5] 79 (0, 0)) (zqB BK513.out) k_ hk, Kd.freshB (g := gb514) (o := .cells #[.slice none 0 0, .slice none 0 0] 40 (0, 0)) (zqB BK514.out) k_ hk, Kd.freshB (g := gb527) (o := .cells #[.slice none 0 0, .slice none 0 0] 40 (0, 0)) (zqB BK527.out) k_ hk⟩) _ (Nat.le_refl _)) (Below.refl _ _) (Nat.le_refl _) (by simp) ?_; (case hd1282 => rfl); (case hg1282 => rfl); (case hr1282 => first | (go_simp; done) | (go_simp; rfl)); (case hp => exact (Reps.one (show Kd.FK (Kd.slice 71 k71) _ _ t521 [.slice Ao20 t521.length co20] from (Kd.FK_slice_mk (Kd.R_reads' (Kd.R_mono (ok' := (fun k_ => (w.heap.size ≤ k_) ∧ some k_ ≠ (v519 : Value).ownBlock ∧ k_ ≠ gb513 ∧ k_ ≠ gb514 ∧ k_ ≠ gb527)) (Kd.R_types (Kd.R_types (Kd.R_types (Kd.R_apart' (HO523.out) (Kd.N_typed HO520.out) (by decide)) BK513.out (by decide)) BK514.out (by decide)) BK527.out (by decide)) (fun k_ hk => ⟨hk.1.1.1.1, ⟨hk.1.1.1.2, ⟨hk.1.1.2, ⟨hk.1.2, hk.2⟩⟩⟩⟩))).2.1 (Kd.R_F (Kd.R_mono (ok' := (fun k_ => (w.heap.size ≤ k_) ∧ some k_ ≠ (v519 : Value).ownBlock ∧ k_ ≠ gb513 ∧ k_ ≠ gb514 ∧ k_ ≠ gb527)) (Kd.R_types (Kd.R_types (Kd.R_types (Kd.R_apart' (HO523.out) (Kd.N_typed HO520.out) (by decide)) BK513.out (by decide)) BK514.out (by decide)) BK527.out (by decide)) (fun k_ hk => ⟨hk.1.1.1.1, ⟨hk.1.1.1.2, ⟨hk.1.1.2, ⟨hk.1.2, hk.2⟩⟩⟩⟩))))) (Reps.none _ _)))
    intro v525 w21 ho22 hb hg_ hnew_
    clear hg_ hnew_
    (first | rw [← Ny524.out] at ho22 | (simp only [Int.reduceToNat] at ho22; rw [← Ny524.out] at ho22))
    have n0_ := zA (Kd.N_elder' (zqN HO520.out) (Kd.N_base ho22) hb); have n1_ := zA (Kd.N_lower ho22 (below_size (zqI HB.out GE513.out GE514.out GE527.out))); have n2_ := zA (blk_below (g := gb513) (zqB BK513.out) hb); have n3_ := zA (blk_below (g := gb514) (zqB BK514.out) hb); have n4_ := zA (blk_below (g := gb527) (zqB BK527.out) hb); have n5_ := zA (below_step (zqI HB.out GE513.out GE514.out GE527.out) hb); clear HO520 BK513 BK514 BK527 HB HO523; have HO520 := n0_; have HO526 := n1_; have BK513 := n2_; have BK514 := n3_; have BK527 := n4_; have HB := n5_; clear n0_ n1_ n2_ n3_ n4_ n5_ hb ho22
    obtain ⟨Ao23, co23, eo23⟩ := Kd.N_slice HO526.out
    (first | subst eo23 | (injection eo23 with f1_ f2_ f3_; have f4_ := f1_.symm; have f5_ := f3_.symm; clear f1_ f2_ f3_; subst f4_; subst f5_))
    obtain ⟨Ao24, co24, eo24⟩ := Kd.N_slice HO520.out
    (first | subst eo24 | (injection eo24 with f1_ f2_ f3_; have f4_ := f1_.symm; have f5_ := f3_.symm; clear f1_ f2_ f3_; subst f4_; subst f5_))
    refine hK.out _ _ (zrV4x1 BK513.out) (fun hHeld => ?_)
    clear hK K; refine norm_ (a' := ?_) ?_ ?_; rotate_left
    · show Act.put _ (some 13) _ = _; simp only [Act.put, setIfInBounds_toArray, set_cons_zero, set_cons_succ, i64_w, i32_w]; rfl
    refine pure_ (i := 10) (N := some 14) (v := ?_) (a' := ?_) #[true, true, true, true, true, true, true, true, true, true, true, true, false] rfl rfl (any_of HT_.out (by kernel_rfl)) (fun _ _ _ h => h) (Or.inl ⟨by rfl, ?_⟩) ?_ ?_
    rotate_left
    ·
     intro w'
     go_simp
     with_reducible rfl
    rotate_left
    · simp only [Act.put, setIfInBounds_toArray, set_cons_zero, set_cons_succ, i64_w, i32_w]; rfl
    exact norm_ (zqP) (hJ3_4_8_9_11 (v516, .slice Ao24 y518.length co24, .slice Ao20 t521.length co20, .slice Ao23 y524.length co23, gb527) _ ⟨hHeld, (by (with_reducible repeat (first | apply Kd.N_alloc | apply Kd.N_drewN | apply Kd.N_drew)); exact Kd.N_mono HO520.out (fun _ hk => ⟨hk.1.1, ⟨hk.2, ⟨hk.1.2.2.1, ⟨hk.1.2.2.2.1, hk.1.2.2.2.2⟩⟩⟩⟩)), (zqN HO526.out), (zqB BK513.out), (zqB BK514.out), (zqB BK527.out), GW527.out, GE527.out, NB513_527.out, NB527_513.out, NB514_527.out, NB527_514.out, (zqI HB.out GE513.out GE514.out GE527.out)⟩)
  ·
   rintro ⟨v516, v519, v522, v525⟩ w23 ⟨hS_, h0_, h1_, h2_, h3_, h4_⟩
   have n0_ : Aside0 (Kd.N (Kd.slice 71 k71) 22 w23 w.heap.size (fun k_ => (w.heap.size ≤ k_) ∧ some k_ ≠ (v525 : Value).ownBlock ∧ k_ ≠ gb513 ∧ k_ ≠ gb514) v519 y518) := ⟨h0_⟩
   have n1_ : Aside0 (Kd.N (Kd.slice 71 k71) 22 w23 w.heap.size (fun k_ => (w.heap.size ≤ k_) ∧ some k_ ≠ (v519 : Value).ownBlock ∧ k_ ≠ gb513 ∧ k_ ≠ gb514) v525 y524) := ⟨h1_⟩
   have n2_ : Aside0 (w23.heap[gb513]? = some (.cells #[.slice A0_0 l0_0.length c0_0, .slice A0_1 l0_1.length c0_1, .slice A0_2 l0_2.length c0_2, .slice A0_3 l0_3.length c0_3, .bool a0_4, .bool a0_5] 79 (0, 0))) := ⟨h2_⟩
   have n3_ : Aside0 (w23.heap[gb514]? = some (.cells #[.slice none 0 0, .slice none 0 0] 40 (0, 0))) := ⟨h3_⟩
   have n4_ : Aside0 (Below w.heap.size w w23) := ⟨h4_⟩
   clear BK513 BK514 HB h0_ h1_ h2_ h3_ h4_; have HO520 := n0_; have HO526 := n1_; have BK513 := n2_; have BK514 := n3_; have HB := n4_; clear n0_ n1_ n2_ n3_ n4_
   have hHeld : w23.cell? ⟨gb513, 0, none⟩ = some (.slice A0_0 l0_0.length c0_0) ∧ w23.cell? ⟨gb513, 1, none⟩ = some (.slice A0_1 l0_1.length c0_1) ∧ w23.cell? ⟨gb513, 2, none⟩ = some (.slice A0_2 l0_2.length c0_2) ∧ w23.cell? ⟨gb513, 3, none⟩ = some (.slice A0_3 l0_3.length c0_3) ∧ w23.cell? ⟨gb513, 4, none⟩ = some (.bool a0_4) ∧ w23.cell? ⟨gb513, 5, none⟩ = some (.bool a0_5) := hS_
   obtain ⟨Ao24, co24, eo24⟩ := Kd.N_slice HO526.out
   (first | subst eo24 | (injection eo24 with f1_ f2_ f3_; have f4_ := f1_.symm; have f5_ := f3_.symm; clear f1_ f2_ f3_; subst f4_; subst f5_))
   obtain ⟨Ao25, co25, eo25⟩ := Kd.N_slice HO520.out
   (first | subst eo25 | (injection eo25 with f1_ f2_ f3_; have f4_ := f1_.symm; have f5_ := f3_.symm; clear f1_ f2_ f3_; subst f4_; subst f5_))
   refine norm_ (a' := ?_) ?_ ?_; rotate_left
   · simp only [putAll, Act.put, setIfInBounds_toArray, set_cons_zero, set_cons_succ]; rfl
   refine one_ (i := 11) (N := some 3) #[true, true, true, true, true, true, true, true, true, true, true, true, false] rfl rfl (one_of HT_.out (by kernel_rfl)) (by decide) (fun K hK => ?_)
   refine box_step ?hg1353 (N := 3) ?hd1353 (cs := #[.slice none 0 0, .slice none 0 0]) (t := 40) ?hr1353 ?_; (case hd1353 => rfl); (case hg1353 => rfl); (case hr1353 => first | (go_simp; done) | (go_simp; rfl))
   intro gb527 hg w26 hbox hb
   have n0_ := zA (Kd.N_below (Kd.N_elderB (zqN HO520.out) gb527 (Nat.le_of_eq hg.symm)) hb); have n1_ := zA (Kd.N_below (Kd.N_elderB (zqN HO526.out) gb527 (Nat.le_of_eq hg.symm)) hb); have n2_ := zA (blk_below (g := gb513) (zqB BK513.out) hb); have n3_ := zA (blk_below (g := gb514) (zqB BK514.out) hb); have n4_ := zA (below_step (zqH HB.out GE513.out GE514.out) hb); have n5_ := zA (hbox)
   have n6_ := zA ((by rw [hg]; exact (below_size (zqH HB.out GE513.out GE514.out)) : w.heap.size ≤ gb527))
   have n7_ := zA ((by rw [hg]; exact (below_size (zqH HB.out GE513.out GE514.out)) : w.heap.size ≤ gb527))
   have n8_ := zA ((by rw [hg]; exact Nat.ne_of_lt (blk_lt (g := gb513) (zqB BK513.out)) : gb513 ≠ gb527))
   have n9_ := zA ((by rw [hg]; exact Nat.ne_of_gt (blk_lt (g := gb513) (zqB BK513.out)) : gb527 ≠ gb513))
   have n10_ := zA ((by rw [hg]; exact Nat.ne_of_lt (blk_lt (g := gb514) (zqB BK514.out)) : gb514 ≠ gb527))
   have n11_ := zA ((by rw [hg]; exact Nat.ne_of_gt (blk_lt (g := gb514) (zqB BK514.out)) : gb527 ≠ gb514))
   clear HO520 HO526 BK513 BK514 HB; have HO520 := n0_; have HO526 := n1_; have BK513 := n2_; have BK514 := n3_; have HB := n4_; have BK527 := n5_; have GW527 := n6_; have GE527 := n7_; have NB513_527 := n8_; have NB527_513 := n9_; have NB514_527 := n10_; have NB527_514 := n11_; clear n0_ n1_ n2_ n3_ n4_ n5_ n6_ n7_ n8_ n9_ n10_ n11_ hb hbox hg
   refine hK.out _ _ (zrV4x1 BK513.out) (fun hHeld => ?_)
   clear hK K; refine norm_ (a' := ?_) ?_ ?_; rotate_left
   · show Act.put _ (some 3) _ = _; simp only [Act.put, setIfInBounds_toArray, set_cons_zero, set_cons_succ, i64_w, i32_w]; rfl
   exact norm_ (zqP) (hJ3_4_8_9_11 (v516, .slice Ao25 y518.length co25, v522, .slice Ao24 y524.length co24, gb527) _ ⟨hHeld, (by (with_reducible repeat (first | apply Kd.N_alloc | apply Kd.N_drewN | apply Kd.N_drew)); exact Kd.N_mono HO520.out (fun _ hk => ⟨hk.1.1, ⟨hk.1.2.1, ⟨hk.1.2.2.1, ⟨hk.1.2.2.2, hk.2⟩⟩⟩⟩)), (by (with_reducible repeat (first | apply Kd.N_alloc | apply Kd.N_drewN | apply Kd.N_drew)); exact Kd.N_mono HO526.out (fun _ hk => ⟨hk.1.1, ⟨hk.1.2.1, ⟨hk.1.2.2.1, ⟨hk.1.2.2.2, hk.2⟩⟩⟩⟩)), (zqB BK513.out), (zqB BK514.out), (zqB BK527.out), GW527.out, GE527.out, NB513_527.out, NB527_513.out, NB514_527.out, NB527_514.out, (zqI HB.out GE513.out GE514.out GE527.out)⟩)
 rintro ⟨v516, v519, v522, v525, gb527⟩ w24 ⟨hS_, h0_, h1_, h2_, h3_, h4_, h5_, h6_, h7_, h8_, h9_, h10_, h11_⟩
 have n0_ : Aside0 (Kd.N (Kd.slice 71 k71) 22 w24 w.heap.size (fun k_ => (w.heap.size ≤ k_) ∧ some k_ ≠ (v525 : Value).ownBlock ∧ k_ ≠ gb513 ∧ k_ ≠ gb514 ∧ k_ ≠ gb527) v519 y518) := ⟨h0_⟩
 have n1_ : Aside0 (Kd.N (Kd.slice 71 k71) 22 w24 w.heap.size (fun k_ => (w.heap.size ≤ k_) ∧ some k_ ≠ (v519 : Value).ownBlock ∧ k_ ≠ gb513 ∧ k_ ≠ gb514 ∧ k_ ≠ gb527) v525 y524) := ⟨h1_⟩
 have n2_ : Aside0 (w24.heap[gb513]? = some (.cells #[.slice A0_0 l0_0.length c0_0, .slice A0_1 l0_1.length c0_1, .slice A0_2 l0_2.length c0_2, .slice A0_3 l0_3.length c0_3, .bool a0_4, .bool a0_5] 79 (0, 0))) := ⟨h2_⟩
 have n3_ : Aside0 (w24.heap[gb514]? = some (.cells #[.slice none 0 0, .slice none 0 0] 40 (0, 0))) := ⟨h3_⟩
 have n4_ : Aside0 (w24.heap[gb527]? = some (.cells #[.slice none 0 0, .slice none 0 0] 40 (0, 0))) := ⟨h4_⟩
 have n5_ : Aside0 (w.heap.size ≤ gb527) := ⟨h5_⟩
 have n6_ : Aside0 (w.heap.size ≤ gb527) := ⟨h6_⟩
 have n7_ : Aside0 (gb513 ≠ gb527) := ⟨h7_⟩
 have n8_ : Aside0 (gb527 ≠ gb513) := ⟨h8_⟩
 have n9_ : Aside0 (gb514 ≠ gb527) := ⟨h9_⟩
 have n10_ : Aside0 (gb527 ≠ gb514) := ⟨h10_⟩
 have n11_ : Aside0 (Below w.heap.size w w24) := ⟨h11_⟩
 clear BK513 BK514 HB h0_ h1_ h2_ h3_ h4_ h5_ h6_ h7_ h8_ h9_ h10_ h11_; have HO520 := n0_; have HO526 := n1_; have BK513 := n2_; have BK514 := n3_; have BK527 := n4_; have GW527 := n5_; have GE527 := n6_; have NB513_527 := n7_; have NB527_513 := n8_; have NB514_527 := n9_; have NB527_514 := n10_; have HB := n11_; clear n0_ n1_ n2_ n3_ n4_ n5_ n6_ n7_ n8_ n9_ n10_ n11_
 have hHeld : w24.cell? ⟨gb513, 0, none⟩ = some (.slice A0_0 l0_0.length c0_0) ∧ w24.cell? ⟨gb513, 1, none⟩ = some (.slice A0_1 l0_1.length c0_1) ∧ w24.cell? ⟨gb513, 2, none⟩ = some (.slice A0_2 l0_2.length c0_2) ∧ w24.cell? ⟨gb513, 3, none⟩ = some (.slice A0_3 l0_3.length c0_3) ∧ w24.cell? ⟨gb513, 4, none⟩ = some (.bool a0_4) ∧ w24.cell? ⟨gb513, 5, none⟩ = some (.bool a0_5) := hS_
 obtain ⟨Ao25, co25, eo25⟩ := Kd.N_slice HO526.out
 (first | subst eo25 | (injection eo25 with f1_ f2_ f3_; have f4_ := f1_.symm; have f5_ := f3_.symm; clear f1_ f2_ f3_; subst f4_; subst f5_))
 obtain ⟨Ao26, co26, eo26⟩ := Kd.N_slice HO520.out
 (first | subst eo26 | (injection eo26 with f1_ f2_ f3_; have f4_ := f1_.symm; have f5_ := f3_.symm; clear f1_ f2_ f3_; subst f4_; subst f5_))
 refine norm_ (a' := ?_) ?_ ?_; rotate_left
 · simp only [putAll, Act.put, setIfInBounds_toArray, set_cons_zero, set_cons_succ]; rfl
 refine one_ (i := 12) (N := none) #[true, true, true, true, true, true, true, true, true, true, true, true, true] rfl rfl (one_of HT_.out (by kernel_rfl)) (by decide) (fun K hK => ?_)
 have hs27 : w24.cell? ⟨gb527, 0, none⟩ = some (.slice none 0 0) := (blk_cell BK527.out 0).trans rfl
 have hfs27 := blk_frozen BK527.out 0
 have hns27_0 := NB513_527.out
 have hns27_1 := NB514_527.out
 have hms27_0 := NB527_513.out
 have hms27_1 := NB527_514.out
 have hs28 : w24.cell? ⟨gb527, 1, none⟩ = some (.slice none 0 0) := (blk_cell BK527.out 1).trans rfl
 have hfs28 := blk_frozen BK527.out 1
 have hns28_0 := NB513_527.out
 have hns28_1 := NB514_527.out
 have hms28_0 := NB527_513.out
 have hms28_1 := NB527_514.out
 refine skip_ (w1 := ?_) (by rfl) rfl ?_ ?_
 rotate_left
 ·
  go_simp
  rfl
 refine hK.out _ _ ⟨((cell_far (p := ⟨gb527, _, none⟩) NB513_527.out _).trans (((cell_far (p := ⟨gb527, _, none⟩) NB513_527.out _).trans (hHeld.1)))), ((cell_far (p := ⟨gb527, _, none⟩) NB513_527.out _).trans (((cell_far (p := ⟨gb527, _, none⟩) NB513_527.out _).trans (hHeld.2.1)))), ((cell_far (p := ⟨gb527, _, none⟩) NB513_527.out _).trans (((cell_far (p := ⟨gb527, _, none⟩) NB513_527.out _).trans (hHeld.2.2.1)))), ((cell_far (p := ⟨gb527, _, none⟩) NB513_527.out _).trans (((cell_far (p := ⟨gb527, _, none⟩) NB513_527.out _).trans (hHeld.2.2.2.1)))), ((cell_far (p := ⟨gb527, _, none⟩) NB513_527.out _).trans (((cell_far (p := ⟨gb527, _, none⟩) NB513_527.out _).trans (hHeld.2.2.2.2.1)))), ((cell_far (p := ⟨gb527, _, none⟩) NB513_527.out _).trans (((cell_far (p := ⟨gb527, _, none⟩) NB513_527.out _).trans (hHeld.2.2.2.2.2))))⟩ (fun hHeld => ?_)
 clear hK K
 refine done_ (done_of HT_.out (by kernel_rfl)) ?_
 have hnb29 := NB513_514.out
 have hnc29 := NB514_513.out
 have hnb30 := NB513_527.out
 have hnc30 := NB527_513.out
 have hcz31_0 : w24.cell? ⟨gb513, 0, none⟩ = some (.slice A0_0 l0_0.length c0_0) := (blk_cell BK513.out 0).trans rfl
 have hcz31_1 : w24.cell? ⟨gb513, 1, none⟩ = some (.slice A0_1 l0_1.length c0_1) := (blk_cell BK513.out 1).trans rfl
 have hcz31_2 : w24.cell? ⟨gb513, 2, none⟩ = some (.slice A0_2 l0_2.length c0_2) := (blk_cell BK513.out 2).trans rfl
 have hcz31_3 : w24.cell? ⟨gb513, 3, none⟩ = some (.slice A0_3 l0_3.length c0_3) := (blk_cell BK513.out 3).trans rfl
 have hcz31_4 : w24.cell? ⟨gb513, 4, none⟩ = some (.bool a0_4) := (blk_cell BK513.out 4).trans rfl
 have hcz31_5 : w24.cell? ⟨gb513, 5, none⟩ = some (.bool a0_5) := (blk_cell BK513.out 5).trans rfl
 have hfz31_0 := blk_frozen BK513.out 0
 have hfz31_1 := blk_frozen BK513.out 1
 have hfz31_2 := blk_frozen BK513.out 2
 have hfz31_3 := blk_frozen BK513.out 3
 have hfz31_4 := blk_frozen BK513.out 4
 have hfz31_5 := blk_frozen BK513.out 5
 have H := HX.out
 clear HX
 by_cases c4 : a0_4 = true
 ·
  subst c4
  have H1 : ((pianolalaw04_Set_made.f k l0_1).bind fun t528 => (if y518.length < 5864062014805 then ((some (y518 ++ [t528] : List (List (S71)))).bind fun y531 => (if a0_5 = true then ((pianolalaw04_Set_made.f k l0_3).bind fun t534 => (if y524.length < 5864062014805 then (some (y531, (y524 ++ [t534]))) else (none))) else (some (y531, y524)))) else (none))) = some (r1, r2) := by rw [if_pos rfl] at H; exact H
  clear H; have H := H1; clear H1
  replace H := Option.bind_eq_some_iff.mp H
  obtain ⟨t528, A50, H⟩ := H
  replace H : (if y518.length < 5864062014805 then ((some (y518 ++ [t528] : List (List (S71)))).bind fun y531 => (if a0_5 = true then ((pianolalaw04_Set_made.f k l0_3).bind fun t534 => (if y524.length < 5864062014805 then (some (y531, (y524 ++ [t534]))) else (none))) else (some (y531, y524)))) else (none)) = some (r1, r2) := H
  have A5 := zA A50
  clear A50
  by_cases c6 : y518.length < 5864062014805
  ·
   rw [if_pos c6] at H
   have LMc6 := zA c6
   clear c6
   obtain ⟨y531, hy531⟩ : ∃ y_ : List (List (S71)), y_ = (y518 ++ [t528]) := ⟨_, rfl⟩
   replace H : (if a0_5 = true then ((pianolalaw04_Set_made.f k l0_3).bind fun t534 => (if y524.length < 5864062014805 then (some (y531, (y524 ++ [t534]))) else (none))) else (some (y531, y524))) = some (r1, r2) := zqF hy531 H
   have Ny531 := zA hy531
   clear hy531
   by_cases c7 : a0_5 = true
   ·
    subst c7
    have H1 : ((pianolalaw04_Set_made.f k l0_3).bind fun t534 => (if y524.length < 5864062014805 then (some (y531, (y524 ++ [t534]))) else (none))) = some (r1, r2) := by rw [if_pos rfl] at H; exact H
    clear H; have H := H1; clear H1
    replace H := Option.bind_eq_some_iff.mp H
    obtain ⟨t534, A80, H⟩ := H
    replace H : (if y524.length < 5864062014805 then (some (y531, (y524 ++ [t534]))) else (none)) = some (r1, r2) := H
    have A8 := zA A80
    clear A80
    by_cases c9 : y524.length < 5864062014805
    ·
     rw [if_pos c9] at H
     have LMc9 := zA c9
     clear c9
     obtain ⟨y537, hy537⟩ : ∃ y_ : List (List (S71)), y_ = (y524 ++ [t534]) := ⟨_, rfl⟩
     replace H : (some (y531, y537)) = some (r1, r2) := zqF hy537 H
     have Ny537 := zA hy537
     clear hy537
     simp only [Option.some.injEq, Prod.mk.injEq] at H
     obtain ⟨rfl, rfl⟩ := H
     try go_wp2
     have n0_ : Aside0 (Kd.N (Kd.slice 71 k71) 22 ((w24.setCell ⟨gb527, 0, none⟩ (.slice Ao26 y518.length co26)).setCell ⟨gb527, 1, none⟩ (.slice Ao25 y524.length co25)) w.heap.size (fun k_ => (w.heap.size ≤ k_) ∧ some k_ ≠ (.slice Ao25 y524.length co25 : Value).ownBlock ∧ k_ ≠ gb513 ∧ k_ ≠ gb514 ∧ k_ ≠ gb527) (.slice Ao26 y518.length co26) y518) := ⟨by (with_reducible repeat (first | apply Kd.N_alloc | apply Kd.N_drewN | apply Kd.N_drew)); exact Kd.N_mono (Kd.N_far (p := ⟨gb527, 1, none⟩) (Kd.N_far (p := ⟨gb527, 0, none⟩) (Kd.N_mono HO520.out (fun k_ hk => (⟨hk, hk.2.2.2.2⟩ : _ ∧ k_ ≠ gb527))) (fun _ hk => hk.2) (.slice Ao26 y518.length co26)) (fun _ hk => hk.2) (.slice Ao25 y524.length co25)) (fun _ hk => ⟨hk.1.1, ⟨hk.1.2.1, ⟨hk.1.2.2.1, ⟨hk.1.2.2.2.1, hk.1.2.2.2.2⟩⟩⟩⟩)⟩
     have n1_ : Aside0 (Kd.N (Kd.slice 71 k71) 22 ((w24.setCell ⟨gb527, 0, none⟩ (.slice Ao26 y518.length co26)).setCell ⟨gb527, 1, none⟩ (.slice Ao25 y524.length co25)) w.heap.size (fun k_ => (w.heap.size ≤ k_) ∧ some k_ ≠ (.slice Ao26 y518.length co26 : Value).ownBlock ∧ k_ ≠ gb513 ∧ k_ ≠ gb514 ∧ k_ ≠ gb527) (.slice Ao25 y524.length co25) y524) := ⟨by (with_reducible repeat (first | apply Kd.N_alloc | apply Kd.N_drewN | apply Kd.N_drew)); exact Kd.N_mono (Kd.N_far (p := ⟨gb527, 1, none⟩) (Kd.N_far (p := ⟨gb527, 0, none⟩) (Kd.N_mono HO526.out (fun k_ hk => (⟨hk, hk.2.2.2.2⟩ : _ ∧ k_ ≠ gb527))) (fun _ hk => hk.2) (.slice Ao26 y518.length co26)) (fun _ hk => hk.2) (.slice Ao25 y524.length co25)) (fun _ hk => ⟨hk.1.1, ⟨hk.1.2.1, ⟨hk.1.2.2.1, ⟨hk.1.2.2.2.1, hk.1.2.2.2.2⟩⟩⟩⟩)⟩
     have n2_ : Aside0 (((w24.setCell ⟨gb527, 0, none⟩ (.slice Ao26 y518.length co26)).setCell ⟨gb527, 1, none⟩ (.slice Ao25 y524.length co25)).heap[gb513]? = some (.cells #[.slice A0_0 l0_0.length c0_0, .slice A0_1 l0_1.length c0_1, .slice A0_2 l0_2.length c0_2, .slice A0_3 l0_3.length c0_3, .bool true, .bool true] 79 (0, 0))) := ⟨by (with_reducible repeat (first | refine blk_drewN ?_ _ | refine blk_drew ?_ | refine blk_alloc ?_ _)); refine blk_far ?_ NB513_527.out _; (with_reducible repeat (first | refine blk_drewN ?_ _ | refine blk_drew ?_ | refine blk_alloc ?_ _)); refine blk_far ?_ NB513_527.out _; (with_reducible repeat (first | refine blk_drewN ?_ _ | refine blk_drew ?_ | refine blk_alloc ?_ _)); exact BK513.out⟩
     have n3_ : Aside0 (((w24.setCell ⟨gb527, 0, none⟩ (.slice Ao26 y518.length co26)).setCell ⟨gb527, 1, none⟩ (.slice Ao25 y524.length co25)).heap[gb514]? = some (.cells #[.slice none 0 0, .slice none 0 0] 40 (0, 0))) := ⟨by (with_reducible repeat (first | refine blk_drewN ?_ _ | refine blk_drew ?_ | refine blk_alloc ?_ _)); refine blk_far ?_ NB514_527.out _; (with_reducible repeat (first | refine blk_drewN ?_ _ | refine blk_drew ?_ | refine blk_alloc ?_ _)); refine blk_far ?_ NB514_527.out _; (with_reducible repeat (first | refine blk_drewN ?_ _ | refine blk_drew ?_ | refine blk_alloc ?_ _)); exact BK514.out⟩
     have n4_ : Aside0 (((w24.setCell ⟨gb527, 0, none⟩ (.slice Ao26 y518.length co26)).setCell ⟨gb527, 1, none⟩ (.slice Ao25 y524.length co25)).heap[gb527]? = some (.cells #[.slice Ao26 y518.length co26, .slice Ao25 y524.length co25] 40 (0, 0))) := ⟨by (with_reducible repeat (first | refine blk_drewN ?_ _ | refine blk_drew ?_ | refine blk_alloc ?_ _)); refine blk_put (cs := #[.slice Ao26 y518.length co26, .slice none 0 0]) ?_ 1 _ rfl; (with_reducible repeat (first | refine blk_drewN ?_ _ | refine blk_drew ?_ | refine blk_alloc ?_ _)); refine blk_put (cs := #[.slice none 0 0, .slice none 0 0]) ?_ 0 _ rfl; (with_reducible repeat (first | refine blk_drewN ?_ _ | refine blk_drew ?_ | refine blk_alloc ?_ _)); exact BK527.out⟩
     have n5_ : Aside0 (Below w.heap.size w ((w24.setCell ⟨gb527, 0, none⟩ (.slice Ao26 y518.length co26)).setCell ⟨gb527, 1, none⟩ (.slice Ao25 y524.length co25))) := ⟨zqI HB.out GE513.out GE514.out GE527.out⟩
     (try clear HO520)
     (try clear HO526)
     (try clear BK513)
     (try clear BK514)
     (try clear BK527)
     (try clear HB)
     generalize ((w24.setCell ⟨gb527, 0, none⟩ (.slice Ao26 y518.length co26)).setCell ⟨gb527, 1, none⟩ (.slice Ao25 y524.length co25)) = w32 at n0_ n1_ n2_ n3_ n4_ n5_ ⊢; have HO520 := n0_; have HO526 := n1_; have BK513 := n2_; have BK514 := n3_; have BK527 := n4_; have HB := n5_; clear n0_ n1_ n2_ n3_ n4_ n5_; have n0_ := zA (Kd.N_drew HO520.out); have n1_ := zA (Kd.N_drew HO526.out); have n2_ := zA (blk_drew BK513.out); have n3_ := zA (blk_drew BK514.out); have n4_ := zA (blk_drew BK527.out); have n5_ := zA (below_drew1 HB.out); clear HO520 HO526 BK513 BK514 BK527 HB; have HO520 := n0_; have HO526 := n1_; have BK513 := n2_; have BK514 := n3_; have BK527 := n4_; have HB := n5_; clear n0_ n1_ n2_ n3_ n4_ n5_
     refine start_ (n := 10) (S := fun w' => w'.cell? ⟨gb527, 0, none⟩ = some (.slice Ao26 y518.length co26) ∧ w'.cell? ⟨gb527, 1, none⟩ = some (.slice Ao25 y524.length co25) ∧ w'.cell? ⟨gb513, 0, none⟩ = some (.slice A0_0 l0_0.length c0_0) ∧ w'.cell? ⟨gb513, 1, none⟩ = some (.slice A0_1 l0_1.length c0_1) ∧ w'.cell? ⟨gb513, 2, none⟩ = some (.slice A0_2 l0_2.length c0_2) ∧ w'.cell? ⟨gb513, 3, none⟩ = some (.slice A0_3 l0_3.length c0_3) ∧ w'.cell? ⟨gb513, 4, none⟩ = some (.bool true) ∧ w'.cell? ⟨gb513, 5, none⟩ = some (.bool true)) (ds := [9]) #[false, false, false, false, false, false, false, false, false, false] (by kernel_rfl) rfl rfl ⟨(blk_cell BK527.out 0).trans rfl, (blk_cell BK527.out 1).trans rfl, zrV4x1 BK513.out⟩ (fun hHeld => ?_); refine with_tabW pianolalaw04_Engine_made.tab3 pianolalaw04_Engine_made.bits3 (fun HT_ HW_ => ?_)
     generalize w32.drew = w33 at HO520 HO526 BK513 BK514 BK527 HB hHeld ⊢
     refine pure_ (i := 0) (N := some 18) (v := ?_) (a' := ?_) #[true, false, false, false, false, false, false, false, false, false] rfl rfl (any_of HT_.out (by kernel_rfl)) (fun _ _ _ h => h) (Or.inl ⟨by rfl, ?_⟩) ?_ ?_
     rotate_left
     ·
      intro w'
      go_simp
      with_reducible rfl
     rotate_left
     · simp only [Act.put, setIfInBounds_toArray, set_cons_zero, set_cons_succ, i64_w, i32_w]; rfl
     refine pure_ (i := 2) (N := some 20) (v := ?_) (a' := ?_) #[true, false, true, false, false, false, false, false, false, false] rfl rfl (any_of HT_.out (by kernel_rfl)) (fun _ _ _ h => h) (Or.inl ⟨by rfl, ?_⟩) ?_ ?_
     rotate_left
     ·
      intro w'
      go_simp
      with_reducible rfl
     rotate_left
     · simp only [Act.put, setIfInBounds_toArray, set_cons_zero, set_cons_succ, i64_w, i32_w]; rfl
     refine pure_ (i := 3) (N := some 21) (v := ?_) (a' := ?_) #[true, false, true, true, false, false, false, false, false, false] rfl rfl (any_of HT_.out (by kernel_rfl)) (fun _ _ _ h => h) (Or.inl ⟨by rfl, ?_⟩) ?_ ?_
     rotate_left
     ·
      intro w'
      go_simp
      with_reducible rfl
     rotate_left
     · simp only [Act.put, setIfInBounds_toArray, set_cons_zero, set_cons_succ, i64_w, i32_w]; rfl
     refine take_ (i := 1) (N := some 19) (v := ?_) (a' := ?_) #[true, true, true, true, false, false, false, false, false, false] rfl rfl (take_ofW HT_.out HW_.out (by kernel_rfl)) (fun _ _ _ h => h) (Or.inl ⟨by rfl, ?_⟩) hHeld ?_ ?_
     rotate_left
     ·
      rintro w' ⟨s0, s1, s2, s3, s4, s5, s6, s7⟩
      go_simp
      with_reducible rfl
     rotate_left
     · simp only [Act.put, setIfInBounds_toArray, set_cons_zero, set_cons_succ, i64_w, i32_w]; rfl
     refine take_ (i := 4) (N := some 22) (v := ?_) (a' := ?_) #[true, true, true, true, true, false, false, false, false, false] rfl rfl (take_ofW HT_.out HW_.out (by kernel_rfl)) (fun _ _ _ h => h) (Or.inl ⟨by rfl, ?_⟩) hHeld ?_ ?_
     rotate_left
     ·
      rintro w' ⟨s0, s1, s2, s3, s4, s5, s6, s7⟩
      go_simp
      with_reducible rfl
     rotate_left
     · simp only [Act.put, setIfInBounds_toArray, set_cons_zero, set_cons_succ, i64_w, i32_w]; rfl
     refine one_ (i := 5) (N := some 23) #[true, true, true, true, true, true, false, false, false, false] rfl rfl (one_of HT_.out (by kernel_rfl)) (by decide) (fun K hK => ?_)
     refine goes_ Try.func40 (by kernel_rfl) rfl #[.slice A0_1 l0_1.length c0_1] (by rfl) rfl rfl zqE ?_
     with_reducible refine (pianolalaw04_Set_made.calls k _ _ l0_1 t528 _ ?side1 ?side2 A5.out).mono ?_
     (case side1 => exact zqK (Kd.C_below HR0_1.out HB.out))
     (case side2 => exact HC0_1.out)
     rintro e w34 ⟨v529, rfl, ho0, hb⟩
     refine ⟨_, rfl, ?_⟩
     have n0_ := zA (Kd.N_elder' (zqN HO520.out) (Kd.R_base ho0) hb); have n1_ := zA (Kd.N_elder' (zqN HO526.out) (Kd.R_base ho0) hb); have n2_ := zA (Kd.R_lower (Kd.R_newM (M := fun k_ => (w.heap.size ≤ k_)) ho0 (below_size (zqI HB.out GE513.out GE514.out GE527.out)) (fun k_ h_ => h_)) (below_size (zqI HB.out GE513.out GE514.out GE527.out))); have n3_ := zA (blk_below (g := gb513) (o := .cells #[.slice A0_0 l0_0.length c0_0, .slice A0_1 l0_1.length c0_1, .slice A0_2 l0_2.length c0_2, .slice A0_3 l0_3.length c0_3, .bool true, .bool true] 79 (0, 0)) (zqB BK513.out) hb); have n4_ := zA (blk_below (g := gb514) (zqB BK514.out) hb); have n5_ := zA (blk_below (g := gb527) (o := .cells #[.slice Ao26 y518.length co26, .slice Ao25 y524.length co25] 40 (0, 0)) (zqB BK527.out) hb); have n6_ := zA (below_step (zqI HB.out GE513.out GE514.out GE527.out) hb); clear HO520 HO526 BK513 BK514 BK527 HB; have HO520 := n0_; have HO526 := n1_; have HO530 := n2_; have BK513 := n3_; have BK514 := n4_; have BK527 := n5_; have HB := n6_; clear n0_ n1_ n2_ n3_ n4_ n5_ n6_
     (try clear hb); (try clear hb2); (try clear hk); (try clear hi); (try clear ho0)
     obtain ⟨Ao36, co36, eo36⟩ := Kd.R_slice HO530.out
     (first | subst eo36 | (injection eo36 with f1_ f2_ f3_; have f4_ := f1_.symm; have f5_ := f3_.symm; clear f1_ f2_ f3_; subst f4_; subst f5_))
     refine hK.out _ _ ⟨(blk_cell BK527.out 0).trans rfl, (blk_cell BK527.out 1).trans rfl, zrV4x1 BK513.out⟩ (fun hHeld => ?_)
     clear hK K; refine norm_ (a' := ?_) ?_ ?_; rotate_left
     · show Act.put _ (some 23) _ = _; simp only [Act.put, setIfInBounds_toArray, set_cons_zero, set_cons_succ, i64_w, i32_w]; rfl
     refine one_ (i := 6) (N := some 24) #[true, true, true, true, true, true, true, false, false, false] rfl rfl (one_of HT_.out (by kernel_rfl)) (by decide) (fun K hK => ?_)
     refine value_ (w1 := ?_) (v := ?_) (by rfl) rfl ?_ ?_
     rotate_left 2
     ·
      go_simp
      constructor
      ·
       rfl
      ·
       rfl
     refine hK.out _ _ ⟨(blk_cell (blk_alloc BK527.out _) 0).trans rfl, (blk_cell (blk_alloc BK527.out _) 1).trans rfl, (blk_cell (blk_alloc BK513.out _) 0).trans rfl, (blk_cell (blk_alloc BK513.out _) 1).trans rfl, (blk_cell (blk_alloc BK513.out _) 2).trans rfl, (blk_cell (blk_alloc BK513.out _) 3).trans rfl, (blk_cell (blk_alloc BK513.out _) 4).trans rfl, (blk_cell (blk_alloc BK513.out _) 5).trans rfl⟩ (fun hHeld => ?_)
     clear hK K; refine norm_ (a' := ?_) ?_ ?_; rotate_left
     · show Act.put _ (some 24) _ = _; simp only [Act.put, setIfInBounds_toArray, set_cons_zero, set_cons_succ, i64_w, i32_w]; rfl
     refine one_ (i := 7) (N := some 25) #[true, true, true, true, true, true, true, true, false, false] rfl rfl (one_of HT_.out (by kernel_rfl)) (by decide) (fun K hK => ?_)
     refine Kd.N_append_step (Kd.slice 71 k71) (w0 := w) w.heap.size (by rfl) (.tmp 19) (.tmp 24) 38 22 (.slice none 0 0) 24 rfl Try.underlying38 info22 rfl (by decide) (by omega) (.slice Ao26 y518.length co26) y518 t528 [.slice Ao36 t528.length co36] (fun k_ => (w.heap.size ≤ k_) ∧ some k_ ≠ (.slice Ao25 y524.length co25 : Value).ownBlock ∧ k_ ≠ gb513 ∧ k_ ≠ gb514 ∧ k_ ≠ gb527) (fun k_ => ((fun k_ => (w.heap.size ≤ k_) ∧ some k_ ≠ (.slice Ao25 y524.length co25 : Value).ownBlock ∧ k_ ≠ gb513 ∧ k_ ≠ gb514 ∧ k_ ≠ gb527)) k_ ∧ some k_ ≠ (.slice Ao26 y518.length co26 : Value).ownBlock) rfl rfl ?aP (fun _ hk => hk) ?aF ?aO ?aB ?aS ?aL ?_
     (case aP => exact (Kd.FK_slice_mk (Kd.R_reads' (Kd.R_mono (ok' := (fun k_ => ((fun k_ => (w.heap.size ≤ k_) ∧ some k_ ≠ (.slice Ao25 y524.length co25 : Value).ownBlock ∧ k_ ≠ gb513 ∧ k_ ≠ gb514 ∧ k_ ≠ gb527)) k_ ∧ some k_ ≠ (.slice Ao26 y518.length co26 : Value).ownBlock)) (Kd.R_types (Kd.R_types (Kd.R_types (Kd.R_apart' (Kd.R_apart' (HO530.out) (Kd.N_typed HO526.out) (by decide)) (Kd.N_typed HO520.out) (by decide)) BK513.out (by decide)) BK514.out (by decide)) BK527.out (by decide)) (fun k_ hk => ⟨⟨hk.1.1.1.1.1.1, ⟨hk.1.1.1.1.2, ⟨hk.1.1.2, ⟨hk.1.2, hk.2⟩⟩⟩⟩, hk.1.1.1.2⟩))).2.1 (Kd.R_F (Kd.R_mono (ok' := (fun k_ => ((fun k_ => (w.heap.size ≤ k_) ∧ some k_ ≠ (.slice Ao25 y524.length co25 : Value).ownBlock ∧ k_ ≠ gb513 ∧ k_ ≠ gb514 ∧ k_ ≠ gb527)) k_ ∧ some k_ ≠ (.slice Ao26 y518.length co26 : Value).ownBlock)) (Kd.R_types (Kd.R_types (Kd.R_types (Kd.R_apart' (Kd.R_apart' (HO530.out) (Kd.N_typed HO526.out) (by decide)) (Kd.N_typed HO520.out) (by decide)) BK513.out (by decide)) BK514.out (by decide)) BK527.out (by decide)) (fun k_ hk => ⟨⟨hk.1.1.1.1.1.1, ⟨hk.1.1.1.1.2, ⟨hk.1.1.2, ⟨hk.1.2, hk.2⟩⟩⟩⟩, hk.1.1.1.2⟩)))))
     (case aB => exact (zqI HB.out GE513.out GE514.out GE527.out))
     (case aF => exact (fun k_ hk => ⟨(Nat.le_trans (below_size (zqI HB.out GE513.out GE514.out GE527.out)) hk), Kd.fresh' (Kd.N_lt (zqN HO526.out)) k_ hk, Kd.freshB (g := gb513) (o := .cells #[.slice A0_0 l0_0.length c0_0, .slice A0_1 l0_1.length c0_1, .slice A0_2 l0_2.length c0_2, .slice A0_3 l0_3.length c0_3, .bool true, .bool true] 79 (0, 0)) (zqB BK513.out) k_ hk, Kd.freshB (g := gb514) (o := .cells #[.slice none 0 0, .slice none 0 0] 40 (0, 0)) (zqB BK514.out) k_ hk, Kd.freshB (g := gb527) (o := .cells #[.slice Ao26 y518.length co26, .slice Ao25 y524.length co25] 40 (0, 0)) (zqB BK527.out) k_ hk⟩))
     (case aO => exact (by (with_reducible repeat (first | apply Kd.N_alloc | apply Kd.N_drewN | apply Kd.N_drew)); exact Kd.N_mono HO520.out (fun _ hk => ⟨hk.1.1, ⟨hk.1.2.1, ⟨hk.1.2.2.1, ⟨hk.1.2.2.2.1, hk.1.2.2.2.2⟩⟩⟩⟩)))
     (case aS => exact (below_size (zqI HB.out GE513.out GE514.out GE527.out)))
     (case aL => have := LMc6.out; omega)
     intro v532 w35 ho hb hg hat
     rw [← Ny531.out] at ho
     have n0_ := zA (blk_grown (g := gb513) (o := .cells #[.slice A0_0 l0_0.length c0_0, .slice A0_1 l0_1.length c0_1, .slice A0_2 l0_2.length c0_2, .slice A0_3 l0_3.length c0_3, .bool true, .bool true] 79 (0, 0)) (zqB BK513.out) hg (Kd.N_ne HO520.out BK513.out (by decide))); have n1_ := zA (blk_grown (g := gb514) (o := .cells #[.slice none 0 0, .slice none 0 0] 40 (0, 0)) (zqB BK514.out) hg (Kd.N_ne HO520.out BK514.out (by decide)))
     have n2_ := zA (Kd.N_afterv (ok := (fun k_ => (w.heap.size ≤ k_) ∧ some k_ ≠ (.slice Ao36 t528.length co36 : Value).ownBlock ∧ k_ ≠ gb513 ∧ k_ ≠ gb514 ∧ k_ ≠ gb527)) (by (with_reducible repeat (first | apply Kd.N_alloc | apply Kd.N_drewN | apply Kd.N_drew)); exact Kd.N_mono HO526.out (fun _ hk => ⟨⟨hk.1.1, ⟨hk.2, ⟨hk.1.2.2.1, ⟨hk.1.2.2.2.1, hk.1.2.2.2.2⟩⟩⟩⟩, hk.1.2.1⟩)) hg hat)
     have n3_ := zA (blk_grown (g := gb527) (o := .cells #[.slice Ao26 y518.length co26, .slice Ao25 y524.length co25] 40 (0, 0)) (zqB BK527.out) hg (Kd.N_ne HO520.out BK527.out (by decide))); have n4_ := zA (hb); have n5_ := zA (ho); clear BK513 BK514 HO526 BK527 HB HO520 HO530; have BK513 := n0_; have BK514 := n1_; have HO526 := n2_; have BK527 := n3_; have HB := n4_; have HO533 := n5_; clear n0_ n1_ n2_ n3_ n4_ n5_ ho hb hg hat
     obtain ⟨Ao37, co37, eo37⟩ := Kd.N_slice HO533.out
     (first | subst eo37 | (injection eo37 with f1_ f2_ f3_; have f4_ := f1_.symm; have f5_ := f3_.symm; clear f1_ f2_ f3_; subst f4_; subst f5_))
     refine hK.out _ _ ⟨(blk_cell BK527.out 0).trans rfl, (blk_cell BK527.out 1).trans rfl, zrV4x1 BK513.out⟩ (fun hHeld => ?_)
     clear hK K; refine norm_ (a' := ?_) ?_ ?_; rotate_left
     · show Act.put _ (some 25) _ = _; simp only [Act.put, setIfInBounds_toArray, set_cons_zero, set_cons_succ, i64_w, i32_w]; rfl
     refine pure_ (i := 8) (N := some 26) (v := ?_) (a' := ?_) #[true, true, true, true, true, true, true, true, true, false] rfl rfl (any_of HT_.out (by kernel_rfl)) (fun _ _ _ h => h) (Or.inl ⟨by rfl, ?_⟩) ?_ ?_
     rotate_left
     ·
      intro w'
      go_simp
      with_reducible rfl
     rotate_left
     · simp only [Act.put, setIfInBounds_toArray, set_cons_zero, set_cons_succ, i64_w, i32_w]; rfl
     refine last_ (i := 9) (N := none) #[true, true, true, true, true, true, true, true, true, true] rfl rfl (one_of HT_.out (by kernel_rfl)) (by decide) (fun K hK => ?_)
     have hs38 : w35.cell? ⟨gb527, 0, none⟩ = some (.slice Ao26 y518.length co26) := (blk_cell BK527.out 0).trans rfl
     have hfs38 := blk_frozen BK527.out 0
     have hns38_0 := NB513_527.out
     have hns38_1 := NB514_527.out
     have hms38_0 := NB527_513.out
     have hms38_1 := NB527_514.out
     refine skip_ (w1 := ?_) (by rfl) rfl ?_ ?_
     rotate_left
     ·
      go_simp
      rfl
     refine hK.out _ _ ?_
     clear hK K
     refine done_ (done_of HT_.out (by kernel_rfl)) ?_
     have hcz39_0 : w35.cell? ⟨gb513, 0, none⟩ = some (.slice A0_0 l0_0.length c0_0) := (blk_cell BK513.out 0).trans rfl
     have hcz39_1 : w35.cell? ⟨gb513, 1, none⟩ = some (.slice A0_1 l0_1.length c0_1) := (blk_cell BK513.out 1).trans rfl
     have hcz39_2 : w35.cell? ⟨gb513, 2, none⟩ = some (.slice A0_2 l0_2.length c0_2) := (blk_cell BK513.out 2).trans rfl
     have hcz39_3 : w35.cell? ⟨gb513, 3, none⟩ = some (.slice A0_3 l0_3.length c0_3) := (blk_cell BK513.out 3).trans rfl
     have hcz39_4 : w35.cell? ⟨gb513, 4, none⟩ = some (.bool true) := (blk_cell BK513.out 4).trans rfl
     have hcz39_5 : w35.cell? ⟨gb513, 5, none⟩ = some (.bool true) := (blk_cell BK513.out 5).trans rfl
     have hfz39_0 := blk_frozen BK513.out 0
     have hfz39_1 := blk_frozen BK513.out 1
     have hfz39_2 := blk_frozen BK513.out 2
     have hfz39_3 := blk_frozen BK513.out 3
     have hfz39_4 := blk_frozen BK513.out 4
     have hfz39_5 := blk_frozen BK513.out 5
     try go_wp2
     have n0_ : Aside0 (Kd.N (Kd.slice 71 k71) 22 (w35.setCell ⟨gb527, 0, none⟩ (.slice Ao37 y531.length co37)) w.heap.size (fun k_ => (w.heap.size ≤ k_) ∧ some k_ ≠ (.slice Ao37 y531.length co37 : Value).ownBlock ∧ k_ ≠ gb513 ∧ k_ ≠ gb514 ∧ k_ ≠ gb527) (.slice Ao25 y524.length co25) y524) := ⟨by (with_reducible repeat (first | apply Kd.N_alloc | apply Kd.N_drewN | apply Kd.N_drew)); exact Kd.N_mono (Kd.N_far (p := ⟨gb527, 0, none⟩) (Kd.N_mono HO526.out (fun k_ hk => (⟨hk, hk.1.2.2.2.2⟩ : _ ∧ k_ ≠ gb527))) (fun _ hk => hk.2) (.slice Ao37 y531.length co37)) (fun _ hk => ⟨hk.1.1.1, ⟨hk.1.2, ⟨hk.1.1.2.2.1, ⟨hk.1.1.2.2.2.1, hk.1.1.2.2.2.2⟩⟩⟩⟩)⟩
     have n1_ : Aside0 (Kd.N (Kd.slice 71 k71) 22 (w35.setCell ⟨gb527, 0, none⟩ (.slice Ao37 y531.length co37)) w.heap.size (fun k_ => (w.heap.size ≤ k_) ∧ some k_ ≠ (.slice Ao25 y524.length co25 : Value).ownBlock ∧ k_ ≠ gb513 ∧ k_ ≠ gb514 ∧ k_ ≠ gb527) (.slice Ao37 y531.length co37) y531) := ⟨by (with_reducible repeat (first | apply Kd.N_alloc | apply Kd.N_drewN | apply Kd.N_drew)); exact Kd.N_mono (Kd.N_far (p := ⟨gb527, 0, none⟩) (Kd.N_mono HO533.out (fun k_ hk => (⟨hk, hk.2.2.2.2⟩ : _ ∧ k_ ≠ gb527))) (fun _ hk => hk.2) (.slice Ao37 y531.length co37)) (fun _ hk => ⟨hk.1.1, ⟨hk.1.2.1, ⟨hk.1.2.2.1, ⟨hk.1.2.2.2.1, hk.1.2.2.2.2⟩⟩⟩⟩)⟩
     have n2_ : Aside0 ((w35.setCell ⟨gb527, 0, none⟩ (.slice Ao37 y531.length co37)).heap[gb513]? = some (.cells #[.slice A0_0 l0_0.length c0_0, .slice A0_1 l0_1.length c0_1, .slice A0_2 l0_2.length c0_2, .slice A0_3 l0_3.length c0_3, .bool true, .bool true] 79 (0, 0))) := ⟨by (with_reducible repeat (first | refine blk_drewN ?_ _ | refine blk_drew ?_ | refine blk_alloc ?_ _)); refine blk_far ?_ NB513_527.out _; (with_reducible repeat (first | refine blk_drewN ?_ _ | refine blk_drew ?_ | refine blk_alloc ?_ _)); exact BK513.out⟩
     have n3_ : Aside0 ((w35.setCell ⟨gb527, 0, none⟩ (.slice Ao37 y531.length co37)).heap[gb514]? = some (.cells #[.slice none 0 0, .slice none 0 0] 40 (0, 0))) := ⟨by (with_reducible repeat (first | refine blk_drewN ?_ _ | refine blk_drew ?_ | refine blk_alloc ?_ _)); refine blk_far ?_ NB514_527.out _; (with_reducible repeat (first | refine blk_drewN ?_ _ | refine blk_drew ?_ | refine blk_alloc ?_ _)); exact BK514.out⟩
     have n4_ : Aside0 ((w35.setCell ⟨gb527, 0, none⟩ (.slice Ao37 y531.length co37)).heap[gb527]? = some (.cells #[.slice Ao37 y531.length co37, .slice Ao25 y524.length co25] 40 (0, 0))) := ⟨by (with_reducible repeat (first | refine blk_drewN ?_ _ | refine blk_drew ?_ | refine blk_alloc ?_ _)); refine blk_put (cs := #[.slice Ao26 y518.length co26, .slice Ao25 y524.length co25]) ?_ 0 _ rfl; (with_reducible repeat (first | refine blk_drewN ?_ _ | refine blk_drew ?_ | refine blk_alloc ?_ _)); exact BK527.out⟩
     have n5_ : Aside0 (Below w.heap.size w (w35.setCell ⟨gb527, 0, none⟩ (.slice Ao37 y531.length co37))) := ⟨zqI HB.out GE513.out GE514.out GE527.out⟩
     (try clear HO526)
     (try clear HO533)
     (try clear BK513)
     (try clear BK514)
     (try clear BK527)
     (try clear HB)
     generalize (w35.setCell ⟨gb527, 0, none⟩ (.slice Ao37 y531.length co37)) = w40 at n0_ n1_ n2_ n3_ n4_ n5_ ⊢; have HO526 := n0_; have HO533 := n1_; have BK513 := n2_; have BK514 := n3_; have BK527 := n4_; have HB := n5_; clear n0_ n1_ n2_ n3_ n4_ n5_; have n0_ := zA (Kd.N_drew HO526.out); have n1_ := zA (Kd.N_drew HO533.out); have n2_ := zA (blk_drew BK513.out); have n3_ := zA (blk_drew BK514.out); have n4_ := zA (blk_drew BK527.out); have n5_ := zA (below_drew1 HB.out); clear HO526 HO533 BK513 BK514 BK527 HB; have HO526 := n0_; have HO533 := n1_; have BK513 := n2_; have BK514 := n3_; have BK527 := n4_; have HB := n5_; clear n0_ n1_ n2_ n3_ n4_ n5_
     refine start_ (n := 10) (S := fun w' => w'.cell? ⟨gb527, 0, none⟩ = some (.slice Ao37 y531.length co37) ∧ w'.cell? ⟨gb527, 1, none⟩ = some (.slice Ao25 y524.length co25) ∧ w'.cell? ⟨gb513, 0, none⟩ = some (.slice A0_0 l0_0.length c0_0) ∧ w'.cell? ⟨gb513, 1, none⟩ = some (.slice A0_1 l0_1.length c0_1) ∧ w'.cell? ⟨gb513, 2, none⟩ = some (.slice A0_2 l0_2.length c0_2) ∧ w'.cell? ⟨gb513, 3, none⟩ = some (.slice A0_3 l0_3.length c0_3) ∧ w'.cell? ⟨gb513, 4, none⟩ = some (.bool true) ∧ w'.cell? ⟨gb513, 5, none⟩ = some (.bool true)) (ds := [9]) #[false, false, false, false, false, false, false, false, false, false] (by kernel_rfl) rfl rfl ⟨(blk_cell BK527.out 0).trans rfl, (blk_cell BK527.out 1).trans rfl, zrV4x1 BK513.out⟩ (fun hHeld => ?_); refine with_tabW pianolalaw04_Engine_made.tab5 pianolalaw04_Engine_made.bits5 (fun HT_ HW_ => ?_)
     generalize w40.drew = w41 at HO526 HO533 BK513 BK514 BK527 HB hHeld ⊢
     refine pure_ (i := 0) (N := some 30) (v := ?_) (a' := ?_) #[true, false, false, false, false, false, false, false, false, false] rfl rfl (any_of HT_.out (by kernel_rfl)) (fun _ _ _ h => h) (Or.inl ⟨by rfl, ?_⟩) ?_ ?_
     rotate_left
     ·
      intro w'
      go_simp
      with_reducible rfl
     rotate_left
     · simp only [Act.put, setIfInBounds_toArray, set_cons_zero, set_cons_succ, i64_w, i32_w]; rfl
     refine pure_ (i := 2) (N := some 32) (v := ?_) (a' := ?_) #[true, false, true, false, false, false, false, false, false, false] rfl rfl (any_of HT_.out (by kernel_rfl)) (fun _ _ _ h => h) (Or.inl ⟨by rfl, ?_⟩) ?_ ?_
     rotate_left
     ·
      intro w'
      go_simp
      with_reducible rfl
     rotate_left
     · simp only [Act.put, setIfInBounds_toArray, set_cons_zero, set_cons_succ, i64_w, i32_w]; rfl
     refine pure_ (i := 3) (N := some 33) (v := ?_) (a' := ?_) #[true, false, true, true, false, false, false, false, false, false] rfl rfl (any_of HT_.out (by kernel_rfl)) (fun _ _ _ h => h) (Or.inl ⟨by rfl, ?_⟩) ?_ ?_
     rotate_left
     ·
      intro w'
      go_simp
      with_reducible rfl
     rotate_left
     · simp only [Act.put, setIfInBounds_toArray, set_cons_zero, set_cons_succ, i64_w, i32_w]; rfl
     refine take_ (i := 1) (N := some 31) (v := ?_) (a' := ?_) #[true, true, true, true, false, false, false, false, false, false] rfl rfl (take_ofW HT_.out HW_.out (by kernel_rfl)) (fun _ _ _ h => h) (Or.inl ⟨by rfl, ?_⟩) hHeld ?_ ?_
     rotate_left
     ·
      rintro w' ⟨s0, s1, s2, s3, s4, s5, s6, s7⟩
      go_simp
      with_reducible rfl
     rotate_left
     · simp only [Act.put, setIfInBounds_toArray, set_cons_zero, set_cons_succ, i64_w, i32_w]; rfl
     refine take_ (i := 4) (N := some 34) (v := ?_) (a' := ?_) #[true, true, true, true, true, false, false, false, false, false] rfl rfl (take_ofW HT_.out HW_.out (by kernel_rfl)) (fun _ _ _ h => h) (Or.inl ⟨by rfl, ?_⟩) hHeld ?_ ?_
     rotate_left
     ·
      rintro w' ⟨s0, s1, s2, s3, s4, s5, s6, s7⟩
      go_simp
      with_reducible rfl
     rotate_left
     · simp only [Act.put, setIfInBounds_toArray, set_cons_zero, set_cons_succ, i64_w, i32_w]; rfl
     refine one_ (i := 5) (N := some 35) #[true, true, true, true, true, true, false, false, false, false] rfl rfl (one_of HT_.out (by kernel_rfl)) (by decide) (fun K hK => ?_)
     refine goes_ Try.func40 (by kernel_rfl) rfl #[.slice A0_3 l0_3.length c0_3] (by rfl) rfl rfl zqE ?_
     with_reducible refine (pianolalaw04_Set_made.calls k _ _ l0_3 t534 _ ?side1 ?side2 A8.out).mono ?_
     (case side1 => exact zqK (Kd.C_below HR0_3.out HB.out))
     (case side2 => exact HC0_3.out)
     rintro e w42 ⟨v535, rfl, ho0, hb⟩
     refine ⟨_, rfl, ?_⟩
     have n0_ := zA (Kd.N_elder' (zqN HO526.out) (Kd.R_base ho0) hb); have n1_ := zA (Kd.N_elder' (zqN HO533.out) (Kd.R_base ho0) hb); have n2_ := zA (Kd.R_lower (Kd.R_newM (M := fun k_ => (w.heap.size ≤ k_)) ho0 (below_size (zqI HB.out GE513.out GE514.out GE527.out)) (fun k_ h_ => h_)) (below_size (zqI HB.out GE513.out GE514.out GE527.out))); have n3_ := zA (blk_below (g := gb513) (o := .cells #[.slice A0_0 l0_0.length c0_0, .slice A0_1 l0_1.length c0_1, .slice A0_2 l0_2.length c0_2, .slice A0_3 l0_3.length c0_3, .bool true, .bool true] 79 (0, 0)) (zqB BK513.out) hb); have n4_ := zA (blk_below (g := gb514) (zqB BK514.out) hb); have n5_ := zA (blk_below (g := gb527) (o := .cells #[.slice Ao37 y531.length co37, .slice Ao25 y524.length co25] 40 (0, 0)) (zqB BK527.out) hb); have n6_ := zA (below_step (zqI HB.out GE513.out GE514.out GE527.out) hb); clear HO526 HO533 BK513 BK514 BK527 HB; have HO526 := n0_; have HO533 := n1_; have HO536 := n2_; have BK513 := n3_; have BK514 := n4_; have BK527 := n5_; have HB := n6_; clear n0_ n1_ n2_ n3_ n4_ n5_ n6_
     (try clear hb); (try clear hb2); (try clear hk); (try clear hi); (try clear ho0)
     obtain ⟨Ao44, co44, eo44⟩ := Kd.R_slice HO536.out
     (first | subst eo44 | (injection eo44 with f1_ f2_ f3_; have f4_ := f1_.symm; have f5_ := f3_.symm; clear f1_ f2_ f3_; subst f4_; subst f5_))
     refine hK.out _ _ ⟨(blk_cell BK527.out 0).trans rfl, (blk_cell BK527.out 1).trans rfl, zrV4x1 BK513.out⟩ (fun hHeld => ?_)
     clear hK K; refine norm_ (a' := ?_) ?_ ?_; rotate_left
     · show Act.put _ (some 35) _ = _; simp only [Act.put, setIfInBounds_toArray, set_cons_zero, set_cons_succ, i64_w, i32_w]; rfl
     refine one_ (i := 6) (N := some 36) #[true, true, true, true, true, true, true, false, false, false] rfl rfl (one_of HT_.out (by kernel_rfl)) (by decide) (fun K hK => ?_)
     refine value_ (w1 := ?_) (v := ?_) (by rfl) rfl ?_ ?_
     rotate_left 2
     ·
      go_simp
      constructor
      ·
       rfl
      ·
       rfl
     refine hK.out _ _ ⟨(blk_cell (blk_alloc BK527.out _) 0).trans rfl, (blk_cell (blk_alloc BK527.out _) 1).trans rfl, (blk_cell (blk_alloc BK513.out _) 0).trans rfl, (blk_cell (blk_alloc BK513.out _) 1).trans rfl, (blk_cell (blk_alloc BK513.out _) 2).trans rfl, (blk_cell (blk_alloc BK513.out _) 3).trans rfl, (blk_cell (blk_alloc BK513.out _) 4).trans rfl, (blk_cell (blk_alloc BK513.out _) 5).trans rfl⟩ (fun hHeld => ?_)
     clear hK K; refine norm_ (a' := ?_) ?_ ?_; rotate_left
     · show Act.put _ (some 36) _ = _; simp only [Act.put, setIfInBounds_toArray, set_cons_zero, set_cons_succ, i64_w, i32_w]; rfl
     refine one_ (i := 7) (N := some 37) #[true, true, true, true, true, true, true, true, false, false] rfl rfl (one_of HT_.out (by kernel_rfl)) (by decide) (fun K hK => ?_)
     refine Kd.N_append_step (Kd.slice 71 k71) (w0 := w) w.heap.size (by rfl) (.tmp 31) (.tmp 36) 38 22 (.slice none 0 0) 24 rfl Try.underlying38 info22 rfl (by decide) (by omega) (.slice Ao25 y524.length co25) y524 t534 [.slice Ao44 t534.length co44] (fun k_ => (w.heap.size ≤ k_) ∧ some k_ ≠ (.slice Ao37 y531.length co37 : Value).ownBlock ∧ k_ ≠ gb513 ∧ k_ ≠ gb514 ∧ k_ ≠ gb527) (fun k_ => ((fun k_ => (w.heap.size ≤ k_) ∧ some k_ ≠ (.slice Ao37 y531.length co37 : Value).ownBlock ∧ k_ ≠ gb513 ∧ k_ ≠ gb514 ∧ k_ ≠ gb527)) k_ ∧ some k_ ≠ (.slice Ao25 y524.length co25 : Value).ownBlock) rfl rfl ?aP (fun _ hk => hk) ?aF ?aO ?aB ?aS ?aL ?_
     (case aP => exact (Kd.FK_slice_mk (Kd.R_reads' (Kd.R_mono (ok' := (fun k_ => ((fun k_ => (w.heap.size ≤ k_) ∧ some k_ ≠ (.slice Ao37 y531.length co37 : Value).ownBlock ∧ k_ ≠ gb513 ∧ k_ ≠ gb514 ∧ k_ ≠ gb527)) k_ ∧ some k_ ≠ (.slice Ao25 y524.length co25 : Value).ownBlock)) (Kd.R_types (Kd.R_types (Kd.R_types (Kd.R_apart' (Kd.R_apart' (HO536.out) (Kd.N_typed HO533.out) (by decide)) (Kd.N_typed HO526.out) (by decide)) BK513.out (by decide)) BK514.out (by decide)) BK527.out (by decide)) (fun k_ hk => ⟨⟨hk.1.1.1.1.1.1, ⟨hk.1.1.1.1.2, ⟨hk.1.1.2, ⟨hk.1.2, hk.2⟩⟩⟩⟩, hk.1.1.1.2⟩))).2.1 (Kd.R_F (Kd.R_mono (ok' := (fun k_ => ((fun k_ => (w.heap.size ≤ k_) ∧ some k_ ≠ (.slice Ao37 y531.length co37 : Value).ownBlock ∧ k_ ≠ gb513 ∧ k_ ≠ gb514 ∧ k_ ≠ gb527)) k_ ∧ some k_ ≠ (.slice Ao25 y524.length co25 : Value).ownBlock)) (Kd.R_types (Kd.R_types (Kd.R_types (Kd.R_apart' (Kd.R_apart' (HO536.out) (Kd.N_typed HO533.out) (by decide)) (Kd.N_typed HO526.out) (by decide)) BK513.out (by decide)) BK514.out (by decide)) BK527.out (by decide)) (fun k_ hk => ⟨⟨hk.1.1.1.1.1.1, ⟨hk.1.1.1.1.2, ⟨hk.1.1.2, ⟨hk.1.2, hk.2⟩⟩⟩⟩, hk.1.1.1.2⟩)))))
     (case aB => exact (zqI HB.out GE513.out GE514.out GE527.out))
     (case aF => exact (fun k_ hk => ⟨(Nat.le_trans (below_size (zqI HB.out GE513.out GE514.out GE527.out)) hk), Kd.fresh' (Kd.N_lt (zqN HO533.out)) k_ hk, Kd.freshB (g := gb513) (o := .cells #[.slice A0_0 l0_0.length c0_0, .slice A0_1 l0_1.length c0_1, .slice A0_2 l0_2.length c0_2, .slice A0_3 l0_3.length c0_3, .bool true, .bool true] 79 (0, 0)) (zqB BK513.out) k_ hk, Kd.freshB (g := gb514) (o := .cells #[.slice none 0 0, .slice none 0 0] 40 (0, 0)) (zqB BK514.out) k_ hk, Kd.freshB (g := gb527) (o := .cells #[.slice Ao37 y531.length co37, .slice Ao25 y524.length co25] 40 (0, 0)) (zqB BK527.out) k_ hk⟩))
     (case aO => exact (by (with_reducible repeat (first | apply Kd.N_alloc | apply Kd.N_drewN | apply Kd.N_drew)); exact Kd.N_mono HO526.out (fun _ hk => ⟨hk.1.1, ⟨hk.1.2.1, ⟨hk.1.2.2.1, ⟨hk.1.2.2.2.1, hk.1.2.2.2.2⟩⟩⟩⟩)))
     (case aS => exact (below_size (zqI HB.out GE513.out GE514.out GE527.out)))
     (case aL => have := LMc9.out; omega)
     intro v538 w43 ho hb hg hat
     rw [← Ny537.out] at ho
     have n0_ := zA (blk_grown (g := gb513) (o := .cells #[.slice A0_0 l0_0.length c0_0, .slice A0_1 l0_1.length c0_1, .slice A0_2 l0_2.length c0_2, .slice A0_3 l0_3.length c0_3, .bool true, .bool true] 79 (0, 0)) (zqB BK513.out) hg (Kd.N_ne HO526.out BK513.out (by decide))); have n1_ := zA (blk_grown (g := gb514) (o := .cells #[.slice none 0 0, .slice none 0 0] 40 (0, 0)) (zqB BK514.out) hg (Kd.N_ne HO526.out BK514.out (by decide))); have n2_ := zA (blk_grown (g := gb527) (o := .cells #[.slice Ao37 y531.length co37, .slice Ao25 y524.length co25] 40 (0, 0)) (zqB BK527.out) hg (Kd.N_ne HO526.out BK527.out (by decide)))
     have n3_ := zA (Kd.N_afterv (ok := (fun k_ => (w.heap.size ≤ k_) ∧ some k_ ≠ (.slice Ao44 t534.length co44 : Value).ownBlock ∧ k_ ≠ gb513 ∧ k_ ≠ gb514 ∧ k_ ≠ gb527)) (by (with_reducible repeat (first | apply Kd.N_alloc | apply Kd.N_drewN | apply Kd.N_drew)); exact Kd.N_mono HO533.out (fun _ hk => ⟨⟨hk.1.1, ⟨hk.2, ⟨hk.1.2.2.1, ⟨hk.1.2.2.2.1, hk.1.2.2.2.2⟩⟩⟩⟩, hk.1.2.1⟩)) hg hat)
     have n4_ := zA (hb); have n5_ := zA (ho); clear BK513 BK514 BK527 HO533 HB HO526 HO536; have BK513 := n0_; have BK514 := n1_; have BK527 := n2_; have HO533 := n3_; have HB := n4_; have HO539 := n5_; clear n0_ n1_ n2_ n3_ n4_ n5_ ho hb hg hat
     obtain ⟨Ao45, co45, eo45⟩ := Kd.N_slice HO539.out
     (first | subst eo45 | (injection eo45 with f1_ f2_ f3_; have f4_ := f1_.symm; have f5_ := f3_.symm; clear f1_ f2_ f3_; subst f4_; subst f5_))
     refine hK.out _ _ ⟨(blk_cell BK527.out 0).trans rfl, (blk_cell BK527.out 1).trans rfl, zrV4x1 BK513.out⟩ (fun hHeld => ?_)
     clear hK K; refine norm_ (a' := ?_) ?_ ?_; rotate_left
     · show Act.put _ (some 37) _ = _; simp only [Act.put, setIfInBounds_toArray, set_cons_zero, set_cons_succ, i64_w, i32_w]; rfl
     refine pure_ (i := 8) (N := some 38) (v := ?_) (a' := ?_) #[true, true, true, true, true, true, true, true, true, false] rfl rfl (any_of HT_.out (by kernel_rfl)) (fun _ _ _ h => h) (Or.inl ⟨by rfl, ?_⟩) ?_ ?_
     rotate_left
     ·
      intro w'
      go_simp
      with_reducible rfl
     rotate_left
     · simp only [Act.put, setIfInBounds_toArray, set_cons_zero, set_cons_succ, i64_w, i32_w]; rfl
     refine last_ (i := 9) (N := none) #[true, true, true, true, true, true, true, true, true, true] rfl rfl (one_of HT_.out (by kernel_rfl)) (by decide) (fun K hK => ?_)
     have hs46 : w43.cell? ⟨gb527, 1, none⟩ = some (.slice Ao25 y524.length co25) := (blk_cell BK527.out 1).trans rfl
     have hfs46 := blk_frozen BK527.out 1
     have hns46_0 := NB513_527.out
     have hns46_1 := NB514_527.out
     have hms46_0 := NB527_513.out
     have hms46_1 := NB527_514.out
     refine skip_ (w1 := ?_) (by rfl) rfl ?_ ?_
     rotate_left
     ·
      go_simp
      rfl
     refine hK.out _ _ ?_
     clear hK K
     refine done_ (done_of HT_.out (by kernel_rfl)) ?_
     have hnb47 := NB527_514.out
     have hnc47 := NB514_527.out
     have hcz48_0 : w43.cell? ⟨gb527, 0, none⟩ = some (.slice Ao37 y531.length co37) := (blk_cell BK527.out 0).trans rfl
     have hcz48_1 : w43.cell? ⟨gb527, 1, none⟩ = some (.slice Ao25 y524.length co25) := (blk_cell BK527.out 1).trans rfl
     have hfz48_0 := blk_frozen BK527.out 0
     have hfz48_1 := blk_frozen BK527.out 1
     have hcz49_0 : w43.cell? ⟨gb514, 0, none⟩ = some (.slice none 0 0) := (blk_cell BK514.out 0).trans rfl
     have hcz49_1 : w43.cell? ⟨gb514, 1, none⟩ = some (.slice none 0 0) := (blk_cell BK514.out 1).trans rfl
     have hfz49_0 := blk_frozen BK514.out 0
     have hfz49_1 := blk_frozen BK514.out 1
     try go_wp2
     refine bodyPost_ret (results_cell_row rfl _ _ gb514 40 #[.slice Ao37 y531.length co37, .slice Ao45 y537.length co45] (0, 0) _ rfl (by (with_reducible repeat (first | refine blk_drewN ?_ _ | refine blk_drew ?_ | refine blk_alloc ?_ _)); refine blk_put (cs := #[.slice Ao37 y531.length co37, .slice none 0 0]) ?_ 1 _ rfl; (with_reducible repeat (first | refine blk_drewN ?_ _ | refine blk_drew ?_ | refine blk_alloc ?_ _)); refine blk_put (cs := #[.slice none 0 0, .slice none 0 0]) ?_ 0 _ rfl; (with_reducible repeat (first | refine blk_drewN ?_ _ | refine blk_drew ?_ | refine blk_alloc ?_ _)); refine blk_far ?_ NB514_527.out _; (with_reducible repeat (first | refine blk_drewN ?_ _ | refine blk_drew ?_ | refine blk_alloc ?_ _)); exact BK514.out) Try.underlying40 rfl (by kernel_rfl)) rfl ?_
     exact ⟨_, _, zqR, by (with_reducible repeat (first | apply Kd.N_alloc | apply Kd.N_drewN | apply Kd.N_drew)); exact Kd.N_mono (Kd.N_far (p := ⟨gb514, 1, none⟩) (Kd.N_far (p := ⟨gb514, 0, none⟩) (Kd.N_far (p := ⟨gb527, 1, none⟩) (Kd.N_mono (Kd.N_mono HO533.out (fun k_ hk => (⟨hk, hk.1.2.2.2.2⟩ : _ ∧ k_ ≠ gb527))) (fun k_ hk => (⟨hk, hk.1.1.2.2.2.1⟩ : _ ∧ k_ ≠ gb514))) (fun _ hk => hk.1.2) (.slice Ao45 y537.length co45)) (fun _ hk => hk.2) (.slice Ao37 y531.length co37)) (fun _ hk => hk.2) (.slice Ao45 y537.length co45)) (fun _ hk => ⟨hk.1.1.1.1, hk.1.1.2⟩), by (with_reducible repeat (first | apply Kd.N_alloc | apply Kd.N_drewN | apply Kd.N_drew)); exact Kd.N_mono (Kd.N_far (p := ⟨gb514, 1, none⟩) (Kd.N_far (p := ⟨gb514, 0, none⟩) (Kd.N_far (p := ⟨gb527, 1, none⟩) (Kd.N_mono (Kd.N_mono HO539.out (fun k_ hk => (⟨hk, hk.2.2.2.2⟩ : _ ∧ k_ ≠ gb527))) (fun k_ hk => (⟨hk, hk.1.2.2.2.1⟩ : _ ∧ k_ ≠ gb514))) (fun _ hk => hk.1.2) (.slice Ao45 y537.length co45)) (fun _ hk => hk.2) (.slice Ao37 y531.length co37)) (fun _ hk => hk.2) (.slice Ao45 y537.length co45)) (fun _ hk => ⟨hk.1.1.1, hk.1.1.2.1⟩), zqI HB.out GE513.out GE514.out GE527.out⟩
    ·
     rw [if_neg c9] at H
     exact absurd H (by simp)
   ·
    replace c7 := Bool.eq_false_iff.mpr c7
    subst c7
    have H1 : (some (y531, y524)) = some (r1, r2) := by rw [if_neg (show ¬ (false = true) by decide)] at H; exact H
    clear H; have H := H1; clear H1
    simp only [Option.some.injEq, Prod.mk.injEq] at H
    obtain ⟨rfl, rfl⟩ := H
    try go_wp2
    have n0_ : Aside0 (Kd.N (Kd.slice 71 k71) 22 ((w24.setCell ⟨gb527, 0, none⟩ (.slice Ao26 y518.length co26)).setCell ⟨gb527, 1, none⟩ (.slice Ao25 y524.length co25)) w.heap.size (fun k_ => (w.heap.size ≤ k_) ∧ some k_ ≠ (.slice Ao25 y524.length co25 : Value).ownBlock ∧ k_ ≠ gb513 ∧ k_ ≠ gb514 ∧ k_ ≠ gb527) (.slice Ao26 y518.length co26) y518) := ⟨by (with_reducible repeat (first | apply Kd.N_alloc | apply Kd.N_drewN | apply Kd.N_drew)); exact Kd.N_mono (Kd.N_far (p := ⟨gb527, 1, none⟩) (Kd.N_far (p := ⟨gb527, 0, none⟩) (Kd.N_mono HO520.out (fun k_ hk => (⟨hk, hk.2.2.2.2⟩ : _ ∧ k_ ≠ gb527))) (fun _ hk => hk.2) (.slice Ao26 y518.length co26)) (fun _ hk => hk.2) (.slice Ao25 y524.length co25)) (fun _ hk => ⟨hk.1.1, ⟨hk.1.2.1, ⟨hk.1.2.2.1, ⟨hk.1.2.2.2.1, hk.1.2.2.2.2⟩⟩⟩⟩)⟩
    have n1_ : Aside0 (Kd.N (Kd.slice 71 k71) 22 ((w24.setCell ⟨gb527, 0, none⟩ (.slice Ao26 y518.length co26)).setCell ⟨gb527, 1, none⟩ (.slice Ao25 y524.length co25)) w.heap.size (fun k_ => (w.heap.size ≤ k_) ∧ some k_ ≠ (.slice Ao26 y518.length co26 : Value).ownBlock ∧ k_ ≠ gb513 ∧ k_ ≠ gb514 ∧ k_ ≠ gb527) (.slice Ao25 y524.length co25) y524) := ⟨by (with_reducible repeat (first | apply Kd.N_alloc | apply Kd.N_drewN | apply Kd.N_drew)); exact Kd.N_mono (Kd.N_far (p := ⟨gb527, 1, none⟩) (Kd.N_far (p := ⟨gb527, 0, none⟩) (Kd.N_mono HO526.out (fun k_ hk => (⟨hk, hk.2.2.2.2⟩ : _ ∧ k_ ≠ gb527))) (fun _ hk => hk.2) (.slice Ao26 y518.length co26)) (fun _ hk => hk.2) (.slice Ao25 y524.length co25)) (fun _ hk => ⟨hk.1.1, ⟨hk.1.2.1, ⟨hk.1.2.2.1, ⟨hk.1.2.2.2.1, hk.1.2.2.2.2⟩⟩⟩⟩)⟩
    have n2_ : Aside0 (((w24.setCell ⟨gb527, 0, none⟩ (.slice Ao26 y518.length co26)).setCell ⟨gb527, 1, none⟩ (.slice Ao25 y524.length co25)).heap[gb513]? = some (.cells #[.slice A0_0 l0_0.length c0_0, .slice A0_1 l0_1.length c0_1, .slice A0_2 l0_2.length c0_2, .slice A0_3 l0_3.length c0_3, .bool true, .bool false] 79 (0, 0))) := ⟨by (with_reducible repeat (first | refine blk_drewN ?_ _ | refine blk_drew ?_ | refine blk_alloc ?_ _)); refine blk_far ?_ NB513_527.out _; (with_reducible repeat (first | refine blk_drewN ?_ _ | refine blk_drew ?_ | refine blk_alloc ?_ _)); refine blk_far ?_ NB513_527.out _; (with_reducible repeat (first | refine blk_drewN ?_ _ | refine blk_drew ?_ | refine blk_alloc ?_ _)); exact BK513.out⟩
    have n3_ : Aside0 (((w24.setCell ⟨gb527, 0, none⟩ (.slice Ao26 y518.length co26)).setCell ⟨gb527, 1, none⟩ (.slice Ao25 y524.length co25)).heap[gb514]? = some (.cells #[.slice none 0 0, .slice none 0 0] 40 (0, 0))) := ⟨by (with_reducible repeat (first | refine blk_drewN ?_ _ | refine blk_drew ?_ | refine blk_alloc ?_ _)); refine blk_far ?_ NB514_527.out _; (with_reducible repeat (first | refine blk_drewN ?_ _ | refine blk_drew ?_ | refine blk_alloc ?_ _)); refine blk_far ?_ NB514_527.out _; (with_reducible repeat (first | refine blk_drewN ?_ _ | refine blk_drew ?_ | refine blk_alloc ?_ _)); exact BK514.out⟩
    have n4_ : Aside0 (((w24.setCell ⟨gb527, 0, none⟩ (.slice Ao26 y518.length co26)).setCell ⟨gb527, 1, none⟩ (.slice Ao25 y524.length co25)).heap[gb527]? = some (.cells #[.slice Ao26 y518.length co26, .slice Ao25 y524.length co25] 40 (0, 0))) := ⟨by (with_reducible repeat (first | refine blk_drewN ?_ _ | refine blk_drew ?_ | refine blk_alloc ?_ _)); refine blk_put (cs := #[.slice Ao26 y518.length co26, .slice none 0 0]) ?_ 1 _ rfl; (with_reducible repeat (first | refine blk_drewN ?_ _ | refine blk_drew ?_ | refine blk_alloc ?_ _)); refine blk_put (cs := #[.slice none 0 0, .slice none 0 0]) ?_ 0 _ rfl; (with_reducible repeat (first | refine blk_drewN ?_ _ | refine blk_drew ?_ | refine blk_alloc ?_ _)); exact BK527.out⟩
    have n5_ : Aside0 (Below w.heap.size w ((w24.setCell ⟨gb527, 0, none⟩ (.slice Ao26 y518.length co26)).setCell ⟨gb527, 1, none⟩ (.slice Ao25 y524.length co25))) := ⟨zqI HB.out GE513.out GE514.out GE527.out⟩
    (try clear HO520)
    (try clear HO526)
    (try clear BK513)
    (try clear BK514)
    (try clear BK527)
    (try clear HB)
    generalize ((w24.setCell ⟨gb527, 0, none⟩ (.slice Ao26 y518.length co26)).setCell ⟨gb527, 1, none⟩ (.slice Ao25 y524.length co25)) = w72 at n0_ n1_ n2_ n3_ n4_ n5_ ⊢; have HO520 := n0_; have HO526 := n1_; have BK513 := n2_; have BK514 := n3_; have BK527 := n4_; have HB := n5_; clear n0_ n1_ n2_ n3_ n4_ n5_; have n0_ := zA (Kd.N_drew HO520.out); have n1_ := zA (Kd.N_drew HO526.out); have n2_ := zA (blk_drew BK513.out); have n3_ := zA (blk_drew BK514.out); have n4_ := zA (blk_drew BK527.out); have n5_ := zA (below_drew1 HB.out); clear HO520 HO526 BK513 BK514 BK527 HB; have HO520 := n0_; have HO526 := n1_; have BK513 := n2_; have BK514 := n3_; have BK527 := n4_; have HB := n5_; clear n0_ n1_ n2_ n3_ n4_ n5_
    refine start_ (n := 10) (S := fun w' => w'.cell? ⟨gb527, 0, none⟩ = some (.slice Ao26 y518.length co26) ∧ w'.cell? ⟨gb527, 1, none⟩ = some (.slice Ao25 y524.length co25) ∧ w'.cell? ⟨gb513, 0, none⟩ = some (.slice A0_0 l0_0.length c0_0) ∧ w'.cell? ⟨gb513, 1, none⟩ = some (.slice A0_1 l0_1.length c0_1) ∧ w'.cell? ⟨gb513, 2, none⟩ = some (.slice A0_2 l0_2.length c0_2) ∧ w'.cell? ⟨gb513, 3, none⟩ = some (.slice A0_3 l0_3.length c0_3) ∧ w'.cell? ⟨gb513, 4, none⟩ = some (.bool true) ∧ w'.cell? ⟨gb513, 5, none⟩ = some (.bool false)) (ds := [9]) #[false, false, false, false, false, false, false, false, false, false] (by kernel_rfl) rfl rfl ⟨(blk_cell BK527.out 0).trans rfl, (blk_cell BK527.out 1).trans rfl, zrV4x1 BK513.out⟩ (fun hHeld => ?_); refine with_tabW pianolalaw04_Engine_made.tab3 pianolalaw04_Engine_made.bits3 (fun HT_ HW_ => ?_)
    generalize w72.drew = w73 at HO520 HO526 BK513 BK514 BK527 HB hHeld ⊢
    refine pure_ (i := 0) (N := some 18) (v := ?_) (a' := ?_) #[true, false, false, false, false, false, false, false, false, false] rfl rfl (any_of HT_.out (by kernel_rfl)) (fun _ _ _ h => h) (Or.inl ⟨by rfl, ?_⟩) ?_ ?_
    rotate_left
    ·
     intro w'
     go_simp
     with_reducible rfl
    rotate_left
    · simp only [Act.put, setIfInBounds_toArray, set_cons_zero, set_cons_succ, i64_w, i32_w]; rfl
    refine pure_ (i := 2) (N := some 20) (v := ?_) (a' := ?_) #[true, false, true, false, false, false, false, false, false, false] rfl rfl (any_of HT_.out (by kernel_rfl)) (fun _ _ _ h => h) (Or.inl ⟨by rfl, ?_⟩) ?_ ?_
    rotate_left
    ·
     intro w'
     go_simp
     with_reducible rfl
    rotate_left
    · simp only [Act.put, setIfInBounds_toArray, set_cons_zero, set_cons_succ, i64_w, i32_w]; rfl
    refine pure_ (i := 3) (N := some 21) (v := ?_) (a' := ?_) #[true, false, true, true, false, false, false, false, false, false] rfl rfl (any_of HT_.out (by kernel_rfl)) (fun _ _ _ h => h) (Or.inl ⟨by rfl, ?_⟩) ?_ ?_
    rotate_left
    ·
     intro w'
     go_simp
     with_reducible rfl
    rotate_left
    · simp only [Act.put, setIfInBounds_toArray, set_cons_zero, set_cons_succ, i64_w, i32_w]; rfl
    refine take_ (i := 1) (N := some 19) (v := ?_) (a' := ?_) #[true, true, true, true, false, false, false, false, false, false] rfl rfl (take_ofW HT_.out HW_.out (by kernel_rfl)) (fun _ _ _ h => h) (Or.inl ⟨by rfl, ?_⟩) hHeld ?_ ?_
    rotate_left
    ·
     rintro w' ⟨s0, s1, s2, s3, s4, s5, s6, s7⟩
     go_simp
     with_reducible rfl
    rotate_left
    · simp only [Act.put, setIfInBounds_toArray, set_cons_zero, set_cons_succ, i64_w, i32_w]; rfl
    refine take_ (i := 4) (N := some 22) (v := ?_) (a' := ?_) #[true, true, true, true, true, false, false, false, false, false] rfl rfl (take_ofW HT_.out HW_.out (by kernel_rfl)) (fun _ _ _ h => h) (Or.inl ⟨by rfl, ?_⟩) hHeld ?_ ?_
    rotate_left
    ·
     rintro w' ⟨s0, s1, s2, s3, s4, s5, s6, s7⟩
     go_simp
     with_reducible rfl
    rotate_left
    · simp only [Act.put, setIfInBounds_toArray, set_cons_zero, set_cons_succ, i64_w, i32_w]; rfl
    refine one_ (i := 5) (N := some 23) #[true, true, true, true, true, true, false, false, false, false] rfl rfl (one_of HT_.out (by kernel_rfl)) (by decide) (fun K hK => ?_)
    refine goes_ Try.func40 (by kernel_rfl) rfl #[.slice A0_1 l0_1.length c0_1] (by rfl) rfl rfl zqE ?_
    with_reducible refine (pianolalaw04_Set_made.calls k _ _ l0_1 t528 _ ?side1 ?side2 A5.out).mono ?_
    (case side1 => exact zqK (Kd.C_below HR0_1.out HB.out))
    (case side2 => exact HC0_1.out)
    rintro e w74 ⟨v529, rfl, ho0, hb⟩
    refine ⟨_, rfl, ?_⟩
    have n0_ := zA (Kd.N_elder' (zqN HO520.out) (Kd.R_base ho0) hb); have n1_ := zA (Kd.N_elder' (zqN HO526.out) (Kd.R_base ho0) hb); have n2_ := zA (Kd.R_lower (Kd.R_newM (M := fun k_ => (w.heap.size ≤ k_)) ho0 (below_size (zqI HB.out GE513.out GE514.out GE527.out)) (fun k_ h_ => h_)) (below_size (zqI HB.out GE513.out GE514.out GE527.out))); have n3_ := zA (blk_below (g := gb513) (o := .cells #[.slice A0_0 l0_0.length c0_0, .slice A0_1 l0_1.length c0_1, .slice A0_2 l0_2.length c0_2, .slice A0_3 l0_3.length c0_3, .bool true, .bool false] 79 (0, 0)) (zqB BK513.out) hb); have n4_ := zA (blk_below (g := gb514) (zqB BK514.out) hb); have n5_ := zA (blk_below (g := gb527) (o := .cells #[.slice Ao26 y518.length co26, .slice Ao25 y524.length co25] 40 (0, 0)) (zqB BK527.out) hb); have n6_ := zA (below_step (zqI HB.out GE513.out GE514.out GE527.out) hb); clear HO520 HO526 BK513 BK514 BK527 HB; have HO520 := n0_; have HO526 := n1_; have HO530 := n2_; have BK513 := n3_; have BK514 := n4_; have BK527 := n5_; have HB := n6_; clear n0_ n1_ n2_ n3_ n4_ n5_ n6_
    (try clear hb); (try clear hb2); (try clear hk); (try clear hi); (try clear ho0)
    obtain ⟨Ao76, co76, eo76⟩ := Kd.R_slice HO530.out
    (first | subst eo76 | (injection eo76 with f1_ f2_ f3_; have f4_ := f1_.symm; have f5_ := f3_.symm; clear f1_ f2_ f3_; subst f4_; subst f5_))
    refine hK.out _ _ ⟨(blk_cell BK527.out 0).trans rfl, (blk_cell BK527.out 1).trans rfl, zrV4x1 BK513.out⟩ (fun hHeld => ?_)
    clear hK K; refine norm_ (a' := ?_) ?_ ?_; rotate_left
    · show Act.put _ (some 23) _ = _; simp only [Act.put, setIfInBounds_toArray, set_cons_zero, set_cons_succ, i64_w, i32_w]; rfl
    refine one_ (i := 6) (N := some 24) #[true, true, true, true, true, true, true, false, false, false] rfl rfl (one_of HT_.out (by kernel_rfl)) (by decide) (fun K hK => ?_)
    refine value_ (w1 := ?_) (v := ?_) (by rfl) rfl ?_ ?_
    rotate_left 2
    ·
     go_simp
     constructor
     ·
      rfl
     ·
      rfl
    refine hK.out _ _ ⟨(blk_cell (blk_alloc BK527.out _) 0).trans rfl, (blk_cell (blk_alloc BK527.out _) 1).trans rfl, (blk_cell (blk_alloc BK513.out _) 0).trans rfl, (blk_cell (blk_alloc BK513.out _) 1).trans rfl, (blk_cell (blk_alloc BK513.out _) 2).trans rfl, (blk_cell (blk_alloc BK513.out _) 3).trans rfl, (blk_cell (blk_alloc BK513.out _) 4).trans rfl, (blk_cell (blk_alloc BK513.out _) 5).trans rfl⟩ (fun hHeld => ?_)
    clear hK K; refine norm_ (a' := ?_) ?_ ?_; rotate_left
    · show Act.put _ (some 24) _ = _; simp only [Act.put, setIfInBounds_toArray, set_cons_zero, set_cons_succ, i64_w, i32_w]; rfl
    refine one_ (i := 7) (N := some 25) #[true, true, true, true, true, true, true, true, false, false] rfl rfl (one_of HT_.out (by kernel_rfl)) (by decide) (fun K hK => ?_)
    refine Kd.N_append_step (Kd.slice 71 k71) (w0 := w) w.heap.size (by rfl) (.tmp 19) (.tmp 24) 38 22 (.slice none 0 0) 24 rfl Try.underlying38 info22 rfl (by decide) (by omega) (.slice Ao26 y518.length co26) y518 t528 [.slice Ao76 t528.length co76] (fun k_ => (w.heap.size ≤ k_) ∧ some k_ ≠ (.slice Ao25 y524.length co25 : Value).ownBlock ∧ k_ ≠ gb513 ∧ k_ ≠ gb514 ∧ k_ ≠ gb527) (fun k_ => ((fun k_ => (w.heap.size ≤ k_) ∧ some k_ ≠ (.slice Ao25 y524.length co25 : Value).ownBlock ∧ k_ ≠ gb513 ∧ k_ ≠ gb514 ∧ k_ ≠ gb527)) k_ ∧ some k_ ≠ (.slice Ao26 y518.length co26 : Value).ownBlock) rfl rfl ?aP (fun _ hk => hk) ?aF ?aO ?aB ?aS ?aL ?_
    (case aP => exact (Kd.FK_slice_mk (Kd.R_reads' (Kd.R_mono (ok' := (fun k_ => ((fun k_ => (w.heap.size ≤ k_) ∧ some k_ ≠ (.slice Ao25 y524.length co25 : Value).ownBlock ∧ k_ ≠ gb513 ∧ k_ ≠ gb514 ∧ k_ ≠ gb527)) k_ ∧ some k_ ≠ (.slice Ao26 y518.length co26 : Value).ownBlock)) (Kd.R_types (Kd.R_types (Kd.R_types (Kd.R_apart' (Kd.R_apart' (HO530.out) (Kd.N_typed HO526.out) (by decide)) (Kd.N_typed HO520.out) (by decide)) BK513.out (by decide)) BK514.out (by decide)) BK527.out (by decide)) (fun k_ hk => ⟨⟨hk.1.1.1.1.1.1, ⟨hk.1.1.1.1.2, ⟨hk.1.1.2, ⟨hk.1.2, hk.2⟩⟩⟩⟩, hk.1.1.1.2⟩))).2.1 (Kd.R_F (Kd.R_mono (ok' := (fun k_ => ((fun k_ => (w.heap.size ≤ k_) ∧ some k_ ≠ (.slice Ao25 y524.length co25 : Value).ownBlock ∧ k_ ≠ gb513 ∧ k_ ≠ gb514 ∧ k_ ≠ gb527)) k_ ∧ some k_ ≠ (.slice Ao26 y518.length co26 : Value).ownBlock)) (Kd.R_types (Kd.R_types (Kd.R_types (Kd.R_apart' (Kd.R_apart' (HO530.out) (Kd.N_typed HO526.out) (by decide)) (Kd.N_typed HO520.out) (by decide)) BK513.out (by decide)) BK514.out (by decide)) BK527.out (by decide)) (fun k_ hk => ⟨⟨hk.1.1.1.1.1.1, ⟨hk.1.1.1.1.2, ⟨hk.1.1.2, ⟨hk.1.2, hk.2⟩⟩⟩⟩, hk.1.1.1.2⟩)))))
    (case aB => exact (zqI HB.out GE513.out GE514.out GE527.out))
    (case aF => exact (fun k_ hk => ⟨(Nat.le_trans (below_size (zqI HB.out GE513.out GE514.out GE527.out)) hk), Kd.fresh' (Kd.N_lt (zqN HO526.out)) k_ hk, Kd.freshB (g := gb513) (o := .cells #[.slice A0_0 l0_0.length c0_0, .slice A0_1 l0_1.length c0_1, .slice A0_2 l0_2.length c0_2, .slice A0_3 l0_3.length c0_3, .bool true, .bool false] 79 (0, 0)) (zqB BK513.out) k_ hk, Kd.freshB (g := gb514) (o := .cells #[.slice none 0 0, .slice none 0 0] 40 (0, 0)) (zqB BK514.out) k_ hk, Kd.freshB (g := gb527) (o := .cells #[.slice Ao26 y518.length co26, .slice Ao25 y524.length co25] 40 (0, 0)) (zqB BK527.out) k_ hk⟩))
    (case aO => exact (by (with_reducible repeat (first | apply Kd.N_alloc | apply Kd.N_drewN | apply Kd.N_drew)); exact Kd.N_mono HO520.out (fun _ hk => ⟨hk.1.1, ⟨hk.1.2.1, ⟨hk.1.2.2.1, ⟨hk.1.2.2.2.1, hk.1.2.2.2.2⟩⟩⟩⟩)))
    (case aS => exact (below_size (zqI HB.out GE513.out GE514.out GE527.out)))
    (case aL => have := LMc6.out; omega)
    intro v532 w75 ho hb hg hat
    rw [← Ny531.out] at ho
    have n0_ := zA (blk_grown (g := gb513) (o := .cells #[.slice A0_0 l0_0.length c0_0, .slice A0_1 l0_1.length c0_1, .slice A0_2 l0_2.length c0_2, .slice A0_3 l0_3.length c0_3, .bool true, .bool false] 79 (0, 0)) (zqB BK513.out) hg (Kd.N_ne HO520.out BK513.out (by decide))); have n1_ := zA (blk_grown (g := gb514) (o := .cells #[.slice none 0 0, .slice none 0 0] 40 (0, 0)) (zqB BK514.out) hg (Kd.N_ne HO520.out BK514.out (by decide)))
    have n2_ := zA (Kd.N_afterv (ok := (fun k_ => (w.heap.size ≤ k_) ∧ some k_ ≠ (.slice Ao76 t528.length co76 : Value).ownBlock ∧ k_ ≠ gb513 ∧ k_ ≠ gb514 ∧ k_ ≠ gb527)) (by (with_reducible repeat (first | apply Kd.N_alloc | apply Kd.N_drewN | apply Kd.N_drew)); exact Kd.N_mono HO526.out (fun _ hk => ⟨⟨hk.1.1, ⟨hk.2, ⟨hk.1.2.2.1, ⟨hk.1.2.2.2.1, hk.1.2.2.2.2⟩⟩⟩⟩, hk.1.2.1⟩)) hg hat)
    have n3_ := zA (blk_grown (g := gb527) (o := .cells #[.slice Ao26 y518.length co26, .slice Ao25 y524.length co25] 40 (0, 0)) (zqB BK527.out) hg (Kd.N_ne HO520.out BK527.out (by decide))); have n4_ := zA (hb); have n5_ := zA (ho); clear BK513 BK514 HO526 BK527 HB HO520 HO530; have BK513 := n0_; have BK514 := n1_; have HO526 := n2_; have BK527 := n3_; have HB := n4_; have HO533 := n5_; clear n0_ n1_ n2_ n3_ n4_ n5_ ho hb hg hat
    obtain ⟨Ao77, co77, eo77⟩ := Kd.N_slice HO533.out
    (first | subst eo77 | (injection eo77 with f1_ f2_ f3_; have f4_ := f1_.symm; have f5_ := f3_.symm; clear f1_ f2_ f3_; subst f4_; subst f5_))
    refine hK.out _ _ ⟨(blk_cell BK527.out 0).trans rfl, (blk_cell BK527.out 1).trans rfl, zrV4x1 BK513.out⟩ (fun hHeld => ?_)
    clear hK K; refine norm_ (a' := ?_) ?_ ?_; rotate_left
    · show Act.put _ (some 25) _ = _; simp only [Act.put, setIfInBounds_toArray, set_cons_zero, set_cons_succ, i64_w, i32_w]; rfl
    refine pure_ (i := 8) (N := some 26) (v := ?_) (a' := ?_) #[true, true, true, true, true, true, true, true, true, false] rfl rfl (any_of HT_.out (by kernel_rfl)) (fun _ _ _ h => h) (Or.inl ⟨by rfl, ?_⟩) ?_ ?_
    rotate_left
    ·
     intro w'
     go_simp
     with_reducible rfl
    rotate_left
    · simp only [Act.put, setIfInBounds_toArray, set_cons_zero, set_cons_succ, i64_w, i32_w]; rfl
    refine last_ (i := 9) (N := none) #[true, true, true, true, true, true, true, true, true, true] rfl rfl (one_of HT_.out (by kernel_rfl)) (by decide) (fun K hK => ?_)
    have hs78 : w75.cell? ⟨gb527, 0, none⟩ = some (.slice Ao26 y518.length co26) := (blk_cell BK527.out 0).trans rfl
    have hfs78 := blk_frozen BK527.out 0
    have hns78_0 := NB513_527.out
    have hns78_1 := NB514_527.out
    have hms78_0 := NB527_513.out
    have hms78_1 := NB527_514.out
    refine skip_ (w1 := ?_) (by rfl) rfl ?_ ?_
    rotate_left
    ·
     go_simp
     rfl
    refine hK.out _ _ ?_
    clear hK K
    refine done_ (done_of HT_.out (by kernel_rfl)) ?_
    have hcz79_0 : w75.cell? ⟨gb513, 0, none⟩ = some (.slice A0_0 l0_0.length c0_0) := (blk_cell BK513.out 0).trans rfl
    have hcz79_1 : w75.cell? ⟨gb513, 1, none⟩ = some (.slice A0_1 l0_1.length c0_1) := (blk_cell BK513.out 1).trans rfl
    have hcz79_2 : w75.cell? ⟨gb513, 2, none⟩ = some (.slice A0_2 l0_2.length c0_2) := (blk_cell BK513.out 2).trans rfl
    have hcz79_3 : w75.cell? ⟨gb513, 3, none⟩ = some (.slice A0_3 l0_3.length c0_3) := (blk_cell BK513.out 3).trans rfl
    have hcz79_4 : w75.cell? ⟨gb513, 4, none⟩ = some (.bool true) := (blk_cell BK513.out 4).trans rfl
    have hcz79_5 : w75.cell? ⟨gb513, 5, none⟩ = some (.bool false) := (blk_cell BK513.out 5).trans rfl
    have hfz79_0 := blk_frozen BK513.out 0
    have hfz79_1 := blk_frozen BK513.out 1
    have hfz79_2 := blk_frozen BK513.out 2
    have hfz79_3 := blk_frozen BK513.out 3
    have hfz79_4 := blk_frozen BK513.out 4
    have hfz79_5 := blk_frozen BK513.out 5
    have hnb80 := NB527_514.out
    have hnc80 := NB514_527.out
    have hcz81_0 : w75.cell? ⟨gb527, 0, none⟩ = some (.slice Ao26 y518.length co26) := (blk_cell BK527.out 0).trans rfl
    have hcz81_1 : w75.cell? ⟨gb527, 1, none⟩ = some (.slice Ao25 y524.length co25) := (blk_cell BK527.out 1).trans rfl
    have hfz81_0 := blk_frozen BK527.out 0
    have hfz81_1 := blk_frozen BK527.out 1
    have hcz82_0 : w75.cell? ⟨gb514, 0, none⟩ = some (.slice none 0 0) := (blk_cell BK514.out 0).trans rfl
    have hcz82_1 : w75.cell? ⟨gb514, 1, none⟩ = some (.slice none 0 0) := (blk_cell BK514.out 1).trans rfl
    have hfz82_0 := blk_frozen BK514.out 0
    have hfz82_1 := blk_frozen BK514.out 1
    try go_wp2
    refine bodyPost_ret (results_cell_row rfl _ _ gb514 40 #[.slice Ao77 y531.length co77, .slice Ao25 y524.length co25] (0, 0) _ rfl (by (with_reducible repeat (first | refine blk_drewN ?_ _ | refine blk_drew ?_ | refine blk_alloc ?_ _)); refine blk_put (cs := #[.slice Ao77 y531.length co77, .slice none 0 0]) ?_ 1 _ rfl; (with_reducible repeat (first | refine blk_drewN ?_ _ | refine blk_drew ?_ | refine blk_alloc ?_ _)); refine blk_put (cs := #[.slice none 0 0, .slice none 0 0]) ?_ 0 _ rfl; (with_reducible repeat (first | refine blk_drewN ?_ _ | refine blk_drew ?_ | refine blk_alloc ?_ _)); refine blk_far ?_ NB514_527.out _; (with_reducible repeat (first | refine blk_drewN ?_ _ | refine blk_drew ?_ | refine blk_alloc ?_ _)); exact BK514.out) Try.underlying40 rfl (by kernel_rfl)) rfl ?_
    exact ⟨_, _, zqR, by (with_reducible repeat (first | apply Kd.N_alloc | apply Kd.N_drewN | apply Kd.N_drew)); exact Kd.N_mono (Kd.N_far (p := ⟨gb514, 1, none⟩) (Kd.N_far (p := ⟨gb514, 0, none⟩) (Kd.N_far (p := ⟨gb527, 0, none⟩) (Kd.N_mono (Kd.N_mono HO533.out (fun k_ hk => (⟨hk, hk.2.2.2.2⟩ : _ ∧ k_ ≠ gb527))) (fun k_ hk => (⟨hk, hk.1.2.2.2.1⟩ : _ ∧ k_ ≠ gb514))) (fun _ hk => hk.1.2) (.slice Ao77 y531.length co77)) (fun _ hk => hk.2) (.slice Ao77 y531.length co77)) (fun _ hk => hk.2) (.slice Ao25 y524.length co25)) (fun _ hk => ⟨hk.1.1.1, hk.1.1.2.1⟩), by (with_reducible repeat (first | apply Kd.N_alloc | apply Kd.N_drewN | apply Kd.N_drew)); exact Kd.N_mono (Kd.N_far (p := ⟨gb514, 1, none⟩) (Kd.N_far (p := ⟨gb514, 0, none⟩) (Kd.N_far (p := ⟨gb527, 0, none⟩) (Kd.N_mono (Kd.N_mono HO526.out (fun k_ hk => (⟨hk, hk.1.2.2.2.2⟩ : _ ∧ k_ ≠ gb527))) (fun k_ hk => (⟨hk, hk.1.1.2.2.2.1⟩ : _ ∧ k_ ≠ gb514))) (fun _ hk => hk.1.2) (.slice Ao77 y531.length co77)) (fun _ hk => hk.2) (.slice Ao77 y531.length co77)) (fun _ hk => hk.2) (.slice Ao25 y524.length co25)) (fun _ hk => ⟨hk.1.1.1.1, hk.1.1.2⟩), zqI HB.out GE513.out GE514.out GE527.out⟩
  ·
   rw [if_neg c6] at H
   exact absurd H (by simp)
 ·
  replace c4 := Bool.eq_false_iff.mpr c4
  subst c4
  have H1 : (if a0_5 = true then ((pianolalaw04_Set_made.f k l0_3).bind fun t540 => (if y524.length < 5864062014805 then (some (y518, (y524 ++ [t540]))) else (none))) else (some (y518, y524))) = some (r1, r2) := by rw [if_neg (show ¬ (false = true) by decide)] at H; exact H
  clear H; have H := H1; clear H1
  by_cases c83 : a0_5 = true
  ·
   subst c83
   have H1 : ((pianolalaw04_Set_made.f k l0_3).bind fun t540 => (if y524.length < 5864062014805 then (some (y518, (y524 ++ [t540]))) else (none))) = some (r1, r2) := by rw [if_pos rfl] at H; exact H
   clear H; have H := H1; clear H1
   replace H := Option.bind_eq_some_iff.mp H
   obtain ⟨t540, A840, H⟩ := H
   replace H : (if y524.length < 5864062014805 then (some (y518, (y524 ++ [t540]))) else (none)) = some (r1, r2) := H
   have A84 := zA A840
   clear A840
   by_cases c85 : y524.length < 5864062014805
   ·
    rw [if_pos c85] at H
    have LMc85 := zA c85
    clear c85
    obtain ⟨y543, hy543⟩ : ∃ y_ : List (List (S71)), y_ = (y524 ++ [t540]) := ⟨_, rfl⟩
    replace H : (some (y518, y543)) = some (r1, r2) := zqF hy543 H
    have Ny543 := zA hy543
    clear hy543
    simp only [Option.some.injEq, Prod.mk.injEq] at H
    obtain ⟨rfl, rfl⟩ := H
    try go_wp2
    have n0_ : Aside0 (Kd.N (Kd.slice 71 k71) 22 ((w24.setCell ⟨gb527, 0, none⟩ (.slice Ao26 y518.length co26)).setCell ⟨gb527, 1, none⟩ (.slice Ao25 y524.length co25)) w.heap.size (fun k_ => (w.heap.size ≤ k_) ∧ some k_ ≠ (.slice Ao25 y524.length co25 : Value).ownBlock ∧ k_ ≠ gb513 ∧ k_ ≠ gb514 ∧ k_ ≠ gb527) (.slice Ao26 y518.length co26) y518) := ⟨by (with_reducible repeat (first | apply Kd.N_alloc | apply Kd.N_drewN | apply Kd.N_drew)); exact Kd.N_mono (Kd.N_far (p := ⟨gb527, 1, none⟩) (Kd.N_far (p := ⟨gb527, 0, none⟩) (Kd.N_mono HO520.out (fun k_ hk => (⟨hk, hk.2.2.2.2⟩ : _ ∧ k_ ≠ gb527))) (fun _ hk => hk.2) (.slice Ao26 y518.length co26)) (fun _ hk => hk.2) (.slice Ao25 y524.length co25)) (fun _ hk => ⟨hk.1.1, ⟨hk.1.2.1, ⟨hk.1.2.2.1, ⟨hk.1.2.2.2.1, hk.1.2.2.2.2⟩⟩⟩⟩)⟩
    have n1_ : Aside0 (Kd.N (Kd.slice 71 k71) 22 ((w24.setCell ⟨gb527, 0, none⟩ (.slice Ao26 y518.length co26)).setCell ⟨gb527, 1, none⟩ (.slice Ao25 y524.length co25)) w.heap.size (fun k_ => (w.heap.size ≤ k_) ∧ some k_ ≠ (.slice Ao26 y518.length co26 : Value).ownBlock ∧ k_ ≠ gb513 ∧ k_ ≠ gb514 ∧ k_ ≠ gb527) (.slice Ao25 y524.length co25) y524) := ⟨by (with_reducible repeat (first | apply Kd.N_alloc | apply Kd.N_drewN | apply Kd.N_drew)); exact Kd.N_mono (Kd.N_far (p := ⟨gb527, 1, none⟩) (Kd.N_far (p := ⟨gb527, 0, none⟩) (Kd.N_mono HO526.out (fun k_ hk => (⟨hk, hk.2.2.2.2⟩ : _ ∧ k_ ≠ gb527))) (fun _ hk => hk.2) (.slice Ao26 y518.length co26)) (fun _ hk => hk.2) (.slice Ao25 y524.length co25)) (fun _ hk => ⟨hk.1.1, ⟨hk.1.2.1, ⟨hk.1.2.2.1, ⟨hk.1.2.2.2.1, hk.1.2.2.2.2⟩⟩⟩⟩)⟩
    have n2_ : Aside0 (((w24.setCell ⟨gb527, 0, none⟩ (.slice Ao26 y518.length co26)).setCell ⟨gb527, 1, none⟩ (.slice Ao25 y524.length co25)).heap[gb513]? = some (.cells #[.slice A0_0 l0_0.length c0_0, .slice A0_1 l0_1.length c0_1, .slice A0_2 l0_2.length c0_2, .slice A0_3 l0_3.length c0_3, .bool false, .bool true] 79 (0, 0))) := ⟨by (with_reducible repeat (first | refine blk_drewN ?_ _ | refine blk_drew ?_ | refine blk_alloc ?_ _)); refine blk_far ?_ NB513_527.out _; (with_reducible repeat (first | refine blk_drewN ?_ _ | refine blk_drew ?_ | refine blk_alloc ?_ _)); refine blk_far ?_ NB513_527.out _; (with_reducible repeat (first | refine blk_drewN ?_ _ | refine blk_drew ?_ | refine blk_alloc ?_ _)); exact BK513.out⟩
    have n3_ : Aside0 (((w24.setCell ⟨gb527, 0, none⟩ (.slice Ao26 y518.length co26)).setCell ⟨gb527, 1, none⟩ (.slice Ao25 y524.length co25)).heap[gb514]? = some (.cells #[.slice none 0 0, .slice none 0 0] 40 (0, 0))) := ⟨by (with_reducible repeat (first | refine blk_drewN ?_ _ | refine blk_drew ?_ | refine blk_alloc ?_ _)); refine blk_far ?_ NB514_527.out _; (with_reducible repeat (first | refine blk_drewN ?_ _ | refine blk_drew ?_ | refine blk_alloc ?_ _)); refine blk_far ?_ NB514_527.out _; (with_reducible repeat (first | refine blk_drewN ?_ _ | refine blk_drew ?_ | refine blk_alloc ?_ _)); exact BK514.out⟩
    have n4_ : Aside0 (((w24.setCell ⟨gb527, 0, none⟩ (.slice Ao26 y518.length co26)).setCell ⟨gb527, 1, none⟩ (.slice Ao25 y524.length co25)).heap[gb527]? = some (.cells #[.slice Ao26 y518.length co26, .slice Ao25 y524.length co25] 40 (0, 0))) := ⟨by (with_reducible repeat (first | refine blk_drewN ?_ _ | refine blk_drew ?_ | refine blk_alloc ?_ _)); refine blk_put (cs := #[.slice Ao26 y518.length co26, .slice none 0 0]) ?_ 1 _ rfl; (with_reducible repeat (first | refine blk_drewN ?_ _ | refine blk_drew ?_ | refine blk_alloc ?_ _)); refine blk_put (cs := #[.slice none 0 0, .slice none 0 0]) ?_ 0 _ rfl; (with_reducible repeat (first | refine blk_drewN ?_ _ | refine blk_drew ?_ | refine blk_alloc ?_ _)); exact BK527.out⟩
    have n5_ : Aside0 (Below w.heap.size w ((w24.setCell ⟨gb527, 0, none⟩ (.slice Ao26 y518.length co26)).setCell ⟨gb527, 1, none⟩ (.slice Ao25 y524.length co25))) := ⟨zqI HB.out GE513.out GE514.out GE527.out⟩
    (try clear HO520)
    (try clear HO526)
    (try clear BK513)
    (try clear BK514)
    (try clear BK527)
    (try clear HB)
    generalize ((w24.setCell ⟨gb527, 0, none⟩ (.slice Ao26 y518.length co26)).setCell ⟨gb527, 1, none⟩ (.slice Ao25 y524.length co25)) = w108 at n0_ n1_ n2_ n3_ n4_ n5_ ⊢; have HO520 := n0_; have HO526 := n1_; have BK513 := n2_; have BK514 := n3_; have BK527 := n4_; have HB := n5_; clear n0_ n1_ n2_ n3_ n4_ n5_; have n0_ := zA (Kd.N_drew HO520.out); have n1_ := zA (Kd.N_drew HO526.out); have n2_ := zA (blk_drew BK513.out); have n3_ := zA (blk_drew BK514.out); have n4_ := zA (blk_drew BK527.out); have n5_ := zA (below_drew1 HB.out); clear HO520 HO526 BK513 BK514 BK527 HB; have HO520 := n0_; have HO526 := n1_; have BK513 := n2_; have BK514 := n3_; have BK527 := n4_; have HB := n5_; clear n0_ n1_ n2_ n3_ n4_ n5_
    refine start_ (n := 10) (S := fun w' => w'.cell? ⟨gb527, 0, none⟩ = some (.slice Ao26 y518.length co26) ∧ w'.cell? ⟨gb527, 1, none⟩ = some (.slice Ao25 y524.length co25) ∧ w'.cell? ⟨gb513, 0, none⟩ = some (.slice A0_0 l0_0.length c0_0) ∧ w'.cell? ⟨gb513, 1, none⟩ = some (.slice A0_1 l0_1.length c0_1) ∧ w'.cell? ⟨gb513, 2, none⟩ = some (.slice A0_2 l0_2.length c0_2) ∧ w'.cell? ⟨gb513, 3, none⟩ = some (.slice A0_3 l0_3.length c0_3) ∧ w'.cell? ⟨gb513, 4, none⟩ = some (.bool false) ∧ w'.cell? ⟨gb513, 5, none⟩ = some (.bool true)) (ds := [9]) #[false, false, false, false, false, false, false, false, false, false] (by kernel_rfl) rfl rfl ⟨(blk_cell BK527.out 0).trans rfl, (blk_cell BK527.out 1).trans rfl, zrV4x1 BK513.out⟩ (fun hHeld => ?_); refine with_tabW pianolalaw04_Engine_made.tab5 pianolalaw04_Engine_made.bits5 (fun HT_ HW_ => ?_)
    generalize w108.drew = w109 at HO520 HO526 BK513 BK514 BK527 HB hHeld ⊢
    refine pure_ (i := 0) (N := some 30) (v := ?_) (a' := ?_) #[true, false, false, false, false, false, false, false, false, false] rfl rfl (any_of HT_.out (by kernel_rfl)) (fun _ _ _ h => h) (Or.inl ⟨by rfl, ?_⟩) ?_ ?_
    rotate_left
    ·
     intro w'
     go_simp
     with_reducible rfl
    rotate_left
    · simp only [Act.put, setIfInBounds_toArray, set_cons_zero, set_cons_succ, i64_w, i32_w]; rfl
    refine pure_ (i := 2) (N := some 32) (v := ?_) (a' := ?_) #[true, false, true, false, false, false, false, false, false, false] rfl rfl (any_of HT_.out (by kernel_rfl)) (fun _ _ _ h => h) (Or.inl ⟨by rfl, ?_⟩) ?_ ?_
    rotate_left
    ·
     intro w'
     go_simp
     with_reducible rfl
    rotate_left
    · simp only [Act.put, setIfInBounds_toArray, set_cons_zero, set_cons_succ, i64_w, i32_w]; rfl
    refine pure_ (i := 3) (N := some 33) (v := ?_) (a' := ?_) #[true, false, true, true, false, false, false, false, false, false] rfl rfl (any_of HT_.out (by kernel_rfl)) (fun _ _ _ h => h) (Or.inl ⟨by rfl, ?_⟩) ?_ ?_
    rotate_left
    ·
     intro w'
     go_simp
     with_reducible rfl
    rotate_left
    · simp only [Act.put, setIfInBounds_toArray, set_cons_zero, set_cons_succ, i64_w, i32_w]; rfl
    refine take_ (i := 1) (N := some 31) (v := ?_) (a' := ?_) #[true, true, true, true, false, false, false, false, false, false] rfl rfl (take_ofW HT_.out HW_.out (by kernel_rfl)) (fun _ _ _ h => h) (Or.inl ⟨by rfl, ?_⟩) hHeld ?_ ?_
    rotate_left
    ·
     rintro w' ⟨s0, s1, s2, s3, s4, s5, s6, s7⟩
     go_simp
     with_reducible rfl
    rotate_left
    · simp only [Act.put, setIfInBounds_toArray, set_cons_zero, set_cons_succ, i64_w, i32_w]; rfl
    refine take_ (i := 4) (N := some 34) (v := ?_) (a' := ?_) #[true, true, true, true, true, false, false, false, false, false] rfl rfl (take_ofW HT_.out HW_.out (by kernel_rfl)) (fun _ _ _ h => h) (Or.inl ⟨by rfl, ?_⟩) hHeld ?_ ?_
    rotate_left
    ·
     rintro w' ⟨s0, s1, s2, s3, s4, s5, s6, s7⟩
     go_simp
     with_reducible rfl
    rotate_left
    · simp only [Act.put, setIfInBounds_toArray, set_cons_zero, set_cons_succ, i64_w, i32_w]; rfl
    refine one_ (i := 5) (N := some 35) #[true, true, true, true, true, true, false, false, false, false] rfl rfl (one_of HT_.out (by kernel_rfl)) (by decide) (fun K hK => ?_)
    refine goes_ Try.func40 (by kernel_rfl) rfl #[.slice A0_3 l0_3.length c0_3] (by rfl) rfl rfl zqE ?_
    with_reducible refine (pianolalaw04_Set_made.calls k _ _ l0_3 t540 _ ?side1 ?side2 A84.out).mono ?_
    (case side1 => exact zqK (Kd.C_below HR0_3.out HB.out))
    (case side2 => exact HC0_3.out)
    rintro e w110 ⟨v541, rfl, ho0, hb⟩
    refine ⟨_, rfl, ?_⟩
    have n0_ := zA (Kd.N_elder' (zqN HO520.out) (Kd.R_base ho0) hb); have n1_ := zA (Kd.N_elder' (zqN HO526.out) (Kd.R_base ho0) hb); have n2_ := zA (Kd.R_lower (Kd.R_newM (M := fun k_ => (w.heap.size ≤ k_)) ho0 (below_size (zqI HB.out GE513.out GE514.out GE527.out)) (fun k_ h_ => h_)) (below_size (zqI HB.out GE513.out GE514.out GE527.out))); have n3_ := zA (blk_below (g := gb513) (o := .cells #[.slice A0_0 l0_0.length c0_0, .slice A0_1 l0_1.length c0_1, .slice A0_2 l0_2.length c0_2, .slice A0_3 l0_3.length c0_3, .bool false, .bool true] 79 (0, 0)) (zqB BK513.out) hb); have n4_ := zA (blk_below (g := gb514) (zqB BK514.out) hb); have n5_ := zA (blk_below (g := gb527) (o := .cells #[.slice Ao26 y518.length co26, .slice Ao25 y524.length co25] 40 (0, 0)) (zqB BK527.out) hb); have n6_ := zA (below_step (zqI HB.out GE513.out GE514.out GE527.out) hb); clear HO520 HO526 BK513 BK514 BK527 HB; have HO520 := n0_; have HO526 := n1_; have HO542 := n2_; have BK513 := n3_; have BK514 := n4_; have BK527 := n5_; have HB := n6_; clear n0_ n1_ n2_ n3_ n4_ n5_ n6_
    (try clear hb); (try clear hb2); (try clear hk); (try clear hi); (try clear ho0)
    obtain ⟨Ao112, co112, eo112⟩ := Kd.R_slice HO542.out
    (first | subst eo112 | (injection eo112 with f1_ f2_ f3_; have f4_ := f1_.symm; have f5_ := f3_.symm; clear f1_ f2_ f3_; subst f4_; subst f5_))
    refine hK.out _ _ ⟨(blk_cell BK527.out 0).trans rfl, (blk_cell BK527.out 1).trans rfl, zrV4x1 BK513.out⟩ (fun hHeld => ?_)
    clear hK K; refine norm_ (a' := ?_) ?_ ?_; rotate_left
    · show Act.put _ (some 35) _ = _; simp only [Act.put, setIfInBounds_toArray, set_cons_zero, set_cons_succ, i64_w, i32_w]; rfl
    refine one_ (i := 6) (N := some 36) #[true, true, true, true, true, true, true, false, false, false] rfl rfl (one_of HT_.out (by kernel_rfl)) (by decide) (fun K hK => ?_)
    refine value_ (w1 := ?_) (v := ?_) (by rfl) rfl ?_ ?_
    rotate_left 2
    ·
     go_simp
     constructor
     ·
      rfl
     ·
      rfl
    refine hK.out _ _ ⟨(blk_cell (blk_alloc BK527.out _) 0).trans rfl, (blk_cell (blk_alloc BK527.out _) 1).trans rfl, (blk_cell (blk_alloc BK513.out _) 0).trans rfl, (blk_cell (blk_alloc BK513.out _) 1).trans rfl, (blk_cell (blk_alloc BK513.out _) 2).trans rfl, (blk_cell (blk_alloc BK513.out _) 3).trans rfl, (blk_cell (blk_alloc BK513.out _) 4).trans rfl, (blk_cell (blk_alloc BK513.out _) 5).trans rfl⟩ (fun hHeld => ?_)
    clear hK K; refine norm_ (a' := ?_) ?_ ?_; rotate_left
    · show Act.put _ (some 36) _ = _; simp only [Act.put, setIfInBounds_toArray, set_cons_zero, set_cons_succ, i64_w, i32_w]; rfl
    refine one_ (i := 7) (N := some 37) #[true, true, true, true, true, true, true, true, false, false] rfl rfl (one_of HT_.out (by kernel_rfl)) (by decide) (fun K hK => ?_)
    refine Kd.N_append_step (Kd.slice 71 k71) (w0 := w) w.heap.size (by rfl) (.tmp 31) (.tmp 36) 38 22 (.slice none 0 0) 24 rfl Try.underlying38 info22 rfl (by decide) (by omega) (.slice Ao25 y524.length co25) y524 t540 [.slice Ao112 t540.length co112] (fun k_ => (w.heap.size ≤ k_) ∧ some k_ ≠ (.slice Ao26 y518.length co26 : Value).ownBlock ∧ k_ ≠ gb513 ∧ k_ ≠ gb514 ∧ k_ ≠ gb527) (fun k_ => ((fun k_ => (w.heap.size ≤ k_) ∧ some k_ ≠ (.slice Ao26 y518.length co26 : Value).ownBlock ∧ k_ ≠ gb513 ∧ k_ ≠ gb514 ∧ k_ ≠ gb527)) k_ ∧ some k_ ≠ (.slice Ao25 y524.length co25 : Value).ownBlock) rfl rfl ?aP (fun _ hk => hk) ?aF ?aO ?aB ?aS ?aL ?_
    (case aP => exact (Kd.FK_slice_mk (Kd.R_reads' (Kd.R_mono (ok' := (fun k_ => ((fun k_ => (w.heap.size ≤ k_) ∧ some k_ ≠ (.slice Ao26 y518.length co26 : Value).ownBlock ∧ k_ ≠ gb513 ∧ k_ ≠ gb514 ∧ k_ ≠ gb527)) k_ ∧ some k_ ≠ (.slice Ao25 y524.length co25 : Value).ownBlock)) (Kd.R_types (Kd.R_types (Kd.R_types (Kd.R_apart' (Kd.R_apart' (HO542.out) (Kd.N_typed HO520.out) (by decide)) (Kd.N_typed HO526.out) (by decide)) BK513.out (by decide)) BK514.out (by decide)) BK527.out (by decide)) (fun k_ hk => ⟨⟨hk.1.1.1.1.1.1, ⟨hk.1.1.1.1.2, ⟨hk.1.1.2, ⟨hk.1.2, hk.2⟩⟩⟩⟩, hk.1.1.1.2⟩))).2.1 (Kd.R_F (Kd.R_mono (ok' := (fun k_ => ((fun k_ => (w.heap.size ≤ k_) ∧ some k_ ≠ (.slice Ao26 y518.length co26 : Value).ownBlock ∧ k_ ≠ gb513 ∧ k_ ≠ gb514 ∧ k_ ≠ gb527)) k_ ∧ some k_ ≠ (.slice Ao25 y524.length co25 : Value).ownBlock)) (Kd.R_types (Kd.R_types (Kd.R_types (Kd.R_apart' (Kd.R_apart' (HO542.out) (Kd.N_typed HO520.out) (by decide)) (Kd.N_typed HO526.out) (by decide)) BK513.out (by decide)) BK514.out (by decide)) BK527.out (by decide)) (fun k_ hk => ⟨⟨hk.1.1.1.1.1.1, ⟨hk.1.1.1.1.2, ⟨hk.1.1.2, ⟨hk.1.2, hk.2⟩⟩⟩⟩, hk.1.1.1.2⟩)))))
    (case aB => exact (zqI HB.out GE513.out GE514.out GE527.out))
    (case aF => exact (fun k_ hk => ⟨(Nat.le_trans (below_size (zqI HB.out GE513.out GE514.out GE527.out)) hk), Kd.fresh' (Kd.N_lt (zqN HO520.out)) k_ hk, Kd.freshB (g := gb513) (o := .cells #[.slice A0_0 l0_0.length c0_0, .slice A0_1 l0_1.length c0_1, .slice A0_2 l0_2.length c0_2, .slice A0_3 l0_3.length c0_3, .bool false, .bool true] 79 (0, 0)) (zqB BK513.out) k_ hk, Kd.freshB (g := gb514) (o := .cells #[.slice none 0 0, .slice none 0 0] 40 (0, 0)) (zqB BK514.out) k_ hk, Kd.freshB (g := gb527) (o := .cells #[.slice Ao26 y518.length co26, .slice Ao25 y524.length co25] 40 (0, 0)) (zqB BK527.out) k_ hk⟩))
    (case aO => exact (by (with_reducible repeat (first | apply Kd.N_alloc | apply Kd.N_drewN | apply Kd.N_drew)); exact Kd.N_mono HO526.out (fun _ hk => ⟨hk.1.1, ⟨hk.1.2.1, ⟨hk.1.2.2.1, ⟨hk.1.2.2.2.1, hk.1.2.2.2.2⟩⟩⟩⟩)))
    (case aS => exact (below_size (zqI HB.out GE513.out GE514.out GE527.out)))
    (case aL => have := LMc85.out; omega)
    intro v544 w111 ho hb hg hat
    rw [← Ny543.out] at ho
    have n0_ := zA (blk_grown (g := gb513) (o := .cells #[.slice A0_0 l0_0.length c0_0, .slice A0_1 l0_1.length c0_1, .slice A0_2 l0_2.length c0_2, .slice A0_3 l0_3.length c0_3, .bool false, .bool true] 79 (0, 0)) (zqB BK513.out) hg (Kd.N_ne HO526.out BK513.out (by decide))); have n1_ := zA (blk_grown (g := gb514) (o := .cells #[.slice none 0 0, .slice none 0 0] 40 (0, 0)) (zqB BK514.out) hg (Kd.N_ne HO526.out BK514.out (by decide)))
    have n2_ := zA (Kd.N_afterv (ok := (fun k_ => (w.heap.size ≤ k_) ∧ some k_ ≠ (.slice Ao112 t540.length co112 : Value).ownBlock ∧ k_ ≠ gb513 ∧ k_ ≠ gb514 ∧ k_ ≠ gb527)) (by (with_reducible repeat (first | apply Kd.N_alloc | apply Kd.N_drewN | apply Kd.N_drew)); exact Kd.N_mono HO520.out (fun _ hk => ⟨⟨hk.1.1, ⟨hk.2, ⟨hk.1.2.2.1, ⟨hk.1.2.2.2.1, hk.1.2.2.2.2⟩⟩⟩⟩, hk.1.2.1⟩)) hg hat)
    have n3_ := zA (blk_grown (g := gb527) (o := .cells #[.slice Ao26 y518.length co26, .slice Ao25 y524.length co25] 40 (0, 0)) (zqB BK527.out) hg (Kd.N_ne HO526.out BK527.out (by decide))); have n4_ := zA (hb); have n5_ := zA (ho); clear BK513 BK514 HO520 BK527 HB HO526 HO542; have BK513 := n0_; have BK514 := n1_; have HO520 := n2_; have BK527 := n3_; have HB := n4_; have HO545 := n5_; clear n0_ n1_ n2_ n3_ n4_ n5_ ho hb hg hat
    obtain ⟨Ao113, co113, eo113⟩ := Kd.N_slice HO545.out
    (first | subst eo113 | (injection eo113 with f1_ f2_ f3_; have f4_ := f1_.symm; have f5_ := f3_.symm; clear f1_ f2_ f3_; subst f4_; subst f5_))
    refine hK.out _ _ ⟨(blk_cell BK527.out 0).trans rfl, (blk_cell BK527.out 1).trans rfl, zrV4x1 BK513.out⟩ (fun hHeld => ?_)
    clear hK K; refine norm_ (a' := ?_) ?_ ?_; rotate_left
    · show Act.put _ (some 37) _ = _; simp only [Act.put, setIfInBounds_toArray, set_cons_zero, set_cons_succ, i64_w, i32_w]; rfl
    refine pure_ (i := 8) (N := some 38) (v := ?_) (a' := ?_) #[true, true, true, true, true, true, true, true, true, false] rfl rfl (any_of HT_.out (by kernel_rfl)) (fun _ _ _ h => h) (Or.inl ⟨by rfl, ?_⟩) ?_ ?_
    rotate_left
    ·
     intro w'
     go_simp
     with_reducible rfl
    rotate_left
    · simp only [Act.put, setIfInBounds_toArray, set_cons_zero, set_cons_succ, i64_w, i32_w]; rfl
    refine last_ (i := 9) (N := none) #[true, true, true, true, true, true, true, true, true, true] rfl rfl (one_of HT_.out (by kernel_rfl)) (by decide) (fun K hK => ?_)
    have hs114 : w111.cell? ⟨gb527, 1, none⟩ = some (.slice Ao25 y524.length co25) := (blk_cell BK527.out 1).trans rfl
    have hfs114 := blk_frozen BK527.out 1
    have hns114_0 := NB513_527.out
    have hns114_1 := NB514_527.out
    have hms114_0 := NB527_513.out
    have hms114_1 := NB527_514.out
    refine skip_ (w1 := ?_) (by rfl) rfl ?_ ?_
    rotate_left
    ·
     go_simp
     rfl
    refine hK.out _ _ ?_
    clear hK K
    refine done_ (done_of HT_.out (by kernel_rfl)) ?_
    have hnb115 := NB527_514.out
    have hnc115 := NB514_527.out
    have hcz116_0 : w111.cell? ⟨gb527, 0, none⟩ = some (.slice Ao26 y518.length co26) := (blk_cell BK527.out 0).trans rfl
    have hcz116_1 : w111.cell? ⟨gb527, 1, none⟩ = some (.slice Ao25 y524.length co25) := (blk_cell BK527.out 1).trans rfl
    have hfz116_0 := blk_frozen BK527.out 0
    have hfz116_1 := blk_frozen BK527.out 1
    have hcz117_0 : w111.cell? ⟨gb514, 0, none⟩ = some (.slice none 0 0) := (blk_cell BK514.out 0).trans rfl
    have hcz117_1 : w111.cell? ⟨gb514, 1, none⟩ = some (.slice none 0 0) := (blk_cell BK514.out 1).trans rfl
    have hfz117_0 := blk_frozen BK514.out 0
    have hfz117_1 := blk_frozen BK514.out 1
    try go_wp2
    refine bodyPost_ret (results_cell_row rfl _ _ gb514 40 #[.slice Ao26 y518.length co26, .slice Ao113 y543.length co113] (0, 0) _ rfl (by (with_reducible repeat (first | refine blk_drewN ?_ _ | refine blk_drew ?_ | refine blk_alloc ?_ _)); refine blk_put (cs := #[.slice Ao26 y518.length co26, .slice none 0 0]) ?_ 1 _ rfl; (with_reducible repeat (first | refine blk_drewN ?_ _ | refine blk_drew ?_ | refine blk_alloc ?_ _)); refine blk_put (cs := #[.slice none 0 0, .slice none 0 0]) ?_ 0 _ rfl; (with_reducible repeat (first | refine blk_drewN ?_ _ | refine blk_drew ?_ | refine blk_alloc ?_ _)); refine blk_far ?_ NB514_527.out _; (with_reducible repeat (first | refine blk_drewN ?_ _ | refine blk_drew ?_ | refine blk_alloc ?_ _)); exact BK514.out) Try.underlying40 rfl (by kernel_rfl)) rfl ?_
    exact ⟨_, _, zqR, by (with_reducible repeat (first | apply Kd.N_alloc | apply Kd.N_drewN | apply Kd.N_drew)); exact Kd.N_mono (Kd.N_far (p := ⟨gb514, 1, none⟩) (Kd.N_far (p := ⟨gb514, 0, none⟩) (Kd.N_far (p := ⟨gb527, 1, none⟩) (Kd.N_mono (Kd.N_mono HO520.out (fun k_ hk => (⟨hk, hk.1.2.2.2.2⟩ : _ ∧ k_ ≠ gb527))) (fun k_ hk => (⟨hk, hk.1.1.2.2.2.1⟩ : _ ∧ k_ ≠ gb514))) (fun _ hk => hk.1.2) (.slice Ao113 y543.length co113)) (fun _ hk => hk.2) (.slice Ao26 y518.length co26)) (fun _ hk => hk.2) (.slice Ao113 y543.length co113)) (fun _ hk => ⟨hk.1.1.1.1, hk.1.1.2⟩), by (with_reducible repeat (first | apply Kd.N_alloc | apply Kd.N_drewN | apply Kd.N_drew)); exact Kd.N_mono (Kd.N_far (p := ⟨gb514, 1, none⟩) (Kd.N_far (p := ⟨gb514, 0, none⟩) (Kd.N_far (p := ⟨gb527, 1, none⟩) (Kd.N_mono (Kd.N_mono HO545.out (fun k_ hk => (⟨hk, hk.2.2.2.2⟩ : _ ∧ k_ ≠ gb527))) (fun k_ hk => (⟨hk, hk.1.2.2.2.1⟩ : _ ∧ k_ ≠ gb514))) (fun _ hk => hk.1.2) (.slice Ao113 y543.length co113)) (fun _ hk => hk.2) (.slice Ao26 y518.length co26)) (fun _ hk => hk.2) (.slice Ao113 y543.length co113)) (fun _ hk => ⟨hk.1.1.1, hk.1.1.2.1⟩), zqI HB.out GE513.out GE514.out GE527.out⟩
   ·
    rw [if_neg c85] at H
    exact absurd H (by simp)
  ·
   replace c83 := Bool.eq_false_iff.mpr c83
   subst c83
   have H1 : (some (y518, y524)) = some (r1, r2) := by rw [if_neg (show ¬ (false = true) by decide)] at H; exact H
   clear H; have H := H1; clear H1
   simp only [Option.some.injEq, Prod.mk.injEq] at H
   obtain ⟨rfl, rfl⟩ := H
   have hnb140 := NB527_514.out
   have hnc140 := NB514_527.out
   have hcz141_0 : w24.cell? ⟨gb527, 0, none⟩ = some (.slice none 0 0) := (blk_cell BK527.out 0).trans rfl
   have hcz141_1 : w24.cell? ⟨gb527, 1, none⟩ = some (.slice none 0 0) := (blk_cell BK527.out 1).trans rfl
   have hfz141_0 := blk_frozen BK527.out 0
   have hfz141_1 := blk_frozen BK527.out 1
   have hcz142_0 : w24.cell? ⟨gb514, 0, none⟩ = some (.slice none 0 0) := (blk_cell BK514.out 0).trans rfl
   have hcz142_1 : w24.cell? ⟨gb514, 1, none⟩ = some (.slice none 0 0) := (blk_cell BK514.out 1).trans rfl
   have hfz142_0 := blk_frozen BK514.out 0
   have hfz142_1 := blk_frozen BK514.out 1
   try go_wp2
   refine bodyPost_ret (results_cell_row rfl _ _ gb514 40 #[.slice Ao26 y518.length co26, .slice Ao25 y524.length co25] (0, 0) _ rfl (by (with_reducible repeat (first | refine blk_drewN ?_ _ | refine blk_drew ?_ | refine blk_alloc ?_ _)); refine blk_put (cs := #[.slice Ao26 y518.length co26, .slice none 0 0]) ?_ 1 _ rfl; (with_reducible repeat (first | refine blk_drewN ?_ _ | refine blk_drew ?_ | refine blk_alloc ?_ _)); refine blk_put (cs := #[.slice none 0 0, .slice none 0 0]) ?_ 0 _ rfl; (with_reducible repeat (first | refine blk_drewN ?_ _ | refine blk_drew ?_ | refine blk_alloc ?_ _)); refine blk_far ?_ NB514_527.out _; (with_reducible repeat (first | refine blk_drewN ?_ _ | refine blk_drew ?_ | refine blk_alloc ?_ _)); refine blk_far ?_ NB514_527.out _; (with_reducible repeat (first | refine blk_drewN ?_ _ | refine blk_drew ?_ | refine blk_alloc ?_ _)); exact BK514.out) Try.underlying40 rfl (by kernel_rfl)) rfl ?_
   exact ⟨_, _, zqR, by (with_reducible repeat (first | apply Kd.N_alloc | apply Kd.N_drewN | apply Kd.N_drew)); exact Kd.N_mono (Kd.N_far (p := ⟨gb514, 1, none⟩) (Kd.N_far (p := ⟨gb514, 0, none⟩) (Kd.N_far (p := ⟨gb527, 1, none⟩) (Kd.N_far (p := ⟨gb527, 0, none⟩) (Kd.N_mono (Kd.N_mono HO520.out (fun k_ hk => (⟨hk, hk.2.2.2.2⟩ : _ ∧ k_ ≠ gb527))) (fun k_ hk => (⟨hk, hk.1.2.2.2.1⟩ : _ ∧ k_ ≠ gb514))) (fun _ hk => hk.1.2) (.slice Ao26 y518.length co26)) (fun _ hk => hk.1.2) (.slice Ao25 y524.length co25)) (fun _ hk => hk.2) (.slice Ao26 y518.length co26)) (fun _ hk => hk.2) (.slice Ao25 y524.length co25)) (fun _ hk => ⟨hk.1.1.1, hk.1.1.2.1⟩), by (with_reducible repeat (first | apply Kd.N_alloc | apply Kd.N_drewN | apply Kd.N_drew)); exact Kd.N_mono (Kd.N_far (p := ⟨gb514, 1, none⟩) (Kd.N_far (p := ⟨gb514, 0, none⟩) (Kd.N_far (p := ⟨gb527, 1, none⟩) (Kd.N_far (p := ⟨gb527, 0, none⟩) (Kd.N_mono (Kd.N_mono HO526.out (fun k_ hk => (⟨hk, hk.2.2.2.2⟩ : _ ∧ k_ ≠ gb527))) (fun k_ hk => (⟨hk, hk.1.2.2.2.1⟩ : _ ∧ k_ ≠ gb514))) (fun _ hk => hk.1.2) (.slice Ao26 y518.length co26)) (fun _ hk => hk.1.2) (.slice Ao25 y524.length co25)) (fun _ hk => hk.2) (.slice Ao26 y518.length co26)) (fun _ hk => hk.2) (.slice Ao25 y524.length co25)) (fun _ hk => ⟨hk.1.1.1, hk.1.1.2.1⟩), zqI HB.out GE513.out GE514.out GE527.out⟩
end Go.Proofs.Ythoeindopljmkaa.P
end
end
