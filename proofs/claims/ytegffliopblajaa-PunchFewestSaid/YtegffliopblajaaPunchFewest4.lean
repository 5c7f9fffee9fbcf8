/- Words and contracts for a claim. -/
import Derived.Test.YtegffliopblajaaPunchFewest3
import Derived.OpenShut
import Derived.Deep.Slices
import Derived.ChangeSame
section
namespace Go.Proofs.Ytegffliopblajaa.P
open Go.ChangeShapes Go.WideShapes Go.Deep Go.RowKit Go.Proofs.YtegffliopblajaaW.PrintWords
set_option maxRecDepth 100000
set_option linter.unusedVariables false
set_option linter.unusedSimpArgs false
section
variable {H : Type} {enc : TypeId × Value → H} {w : World} {base : Nat} {spare : Nat → Bool} {held : Bool}
theorem byte_of {fuel : Nat} {u : Value} {x : DataW H × List MemPlace} (h : DataW.trod enc Try.prog w base spare held fuel 5 [u] = some x) : ∃ a : Int, u = .int .u8 a ∧ (Lit.int .u8 a).wf = true := by
  obtain ⟨a, e0, _, w0⟩ := DataW.trod_int Try.underlying5 h
  injection e0 with e0
  exact ⟨a, e0, w0⟩
theorem pair_u8 {fuel : Nat} {cs : List Value} {x : DataW H × List MemPlace} (h : DataW.trod enc Try.prog w base spare held fuel 82 cs = some x) :
    ∃ a b : Int, cs = [.int .u8 a, .int .u8 b] ∧ (Lit.int .u8 a).wf = true ∧ (Lit.int .u8 b).wf = true := by
  obtain ⟨xs, m, _, hx, hcl, hxl, hg⟩ := DataW.trod_array Try.underlying82 h
  have hc : Try.prog.cellsOf 82 = 2 := by kernel_rfl
  have hc5 : Try.prog.cellsOf 5 = 1 := by kernel_rfl
  rw [hc] at hcl
  obtain ⟨c0, c1, rfl⟩ := list_two hcl
  obtain ⟨y0, y1, rfl⟩ := list_two hxl
  have h0 := hg 0 (by omega)
  have h1 := hg 1 (by omega)
  rw [hc5] at h0 h1
  obtain ⟨a, rfl, w0⟩ := byte_of (show DataW.trod enc Try.prog w base spare held m 5 [c0] = some y0 from h0)
  obtain ⟨b, rfl, w1⟩ := byte_of (show DataW.trod enc Try.prog w base spare held m 5 [c1] = some y1 from h1)
  exact ⟨a, b, rfl, w0, w1⟩
theorem open_sheet {r : Reach} {b0 : Nat} {v : Value} {d : DataW H} {p : List MemPlace} (hv : Value.okWide Try.prog w r b0 86 v) (h : DataW.Trod enc Try.prog w base spare held 86 v d p) :
    ∃ a b c e f : Int, v = .agg #[.int .u8 a, .int .u8 b, .int .u8 c, .int .u8 e, .int .u8 f] ∧ (Lit.int .u8 a).wf = true ∧ (Lit.int .u8 b).wf = true ∧ (Lit.int .u8 c).wf = true ∧ (Lit.int .u8 e).wf = true ∧ (Lit.int .u8 f).wf = true := by
  simp only [Value.okWide, Try.underlying86] at hv
  obtain ⟨cs, rfl, h2, _⟩ := hv
  obtain ⟨fuel, hf⟩ := h
  obtain ⟨xs, m, _, hx, hcl, hxl, hg⟩ := DataW.trod_struct Try.underlying86 hf
  have c86 : Try.prog.cellsOf 86 = 5 := by kernel_rfl
  have c82 : Try.prog.cellsOf 82 = 2 := by kernel_rfl
  have c5 : Try.prog.cellsOf 5 = 1 := by kernel_rfl
  rw [c86] at h2 hcl
  obtain ⟨l⟩ := cs
  obtain ⟨v0, v1, v2, v3, v4, rfl⟩ := list_five (show l.length = 5 from h2)
  obtain ⟨y0, y1, y2, y3, rfl⟩ := list_four (show xs.length = 4 from hxl)
  have g0 : DataW.trod enc Try.prog w base spare held m 82 (([v0, v1, v2, v3, v4].drop 0).take (Try.prog.cellsOf 82)) = some y0 := hg 0 _ rfl
  have g1 : DataW.trod enc Try.prog w base spare held m 5 (([v0, v1, v2, v3, v4].drop 2).take (Try.prog.cellsOf 5)) = some y1 := hg 1 _ rfl
  have g2 : DataW.trod enc Try.prog w base spare held m 5 (([v0, v1, v2, v3, v4].drop 3).take (Try.prog.cellsOf 5)) = some y2 := hg 2 _ rfl
  have g3 : DataW.trod enc Try.prog w base spare held m 5 (([v0, v1, v2, v3, v4].drop 4).take (Try.prog.cellsOf 5)) = some y3 := hg 3 _ rfl
  rw [c82] at g0
  rw [c5] at g1 g2 g3
  obtain ⟨a, b, e, wa, wb⟩ := pair_u8 (show DataW.trod enc Try.prog w base spare held m 82 [v0, v1] = some y0 from g0)
  injection e with e0 e
  injection e with e1 _
  subst e0 e1
  obtain ⟨c, rfl, wc⟩ := byte_of (show DataW.trod enc Try.prog w base spare held m 5 [v2] = some y1 from g1)
  obtain ⟨e, rfl, we⟩ := byte_of (show DataW.trod enc Try.prog w base spare held m 5 [v3] = some y2 from g2)
  obtain ⟨f, rfl, wf⟩ := byte_of (show DataW.trod enc Try.prog w base spare held m 5 [v4] = some y3 from g3)
  exact ⟨a, b, c, e, f, rfl, wa, wb, wc, we, wf⟩
end
end Go.Proofs.Ytegffliopblajaa.P
end
section
namespace Go.Proofs.Ytegffliopblajaa.P
open Go.RowKit Go.Proofs.YtegffliopblajaaW.PrintWords Go.Proofs.YtegffliopblajaaW.PrintLast Go.Proofs.YtegffliopblajaaW.PrintMore
attribute [local go_sem] max2_int min2_int max_two min_two max_three min_three max_four min_four
set_option linter.unusedVariables false
set_option linter.unusedSimpArgs false
attribute [local go_sem high] eqA47
def pianolalaw03_Sheet_made.f (a0_0 : Int) (a0_1 : Int) (a0_2 : Int) (a0_3 : Int) (a0_4 : Int) : Option (Int × Int × Int × Int × Int) := some (wrap64 (900 + (Int.tmod (wrap64 (a0_0)) 150)), wrap64 ((wrap64 (900 + (Int.tmod (wrap64 (a0_0)) 150))) + (Int.tmod (wrap64 (a0_1)) 50)), wrap64 (1 + (Int.tmod (wrap64 (a0_2)) 12)), wrap64 (1 + (Int.tmod (wrap64 (a0_3)) 6)), wrap64 (1 + (Int.tmod (wrap64 (a0_4)) 14)))
set_option maxHeartbeats 8000000 in
set_option maxRecDepth 100000 in
theorem pianolalaw03_Sheet_made.calls (a0_0 : Int) (a0_1 : Int) (a0_2 : Int) (a0_3 : Int) (a0_4 : Int) (r1 : Int) (r2 : Int) (r3 : Int) (r4 : Int) (r5 : Int) (w : World) (h : pianolalaw03_Sheet_made.f a0_0 a0_1 a0_2 a0_3 a0_4 = some (r1, r2, r3, r4, r5)) :
  Calls Try.prog 42 #[.agg #[.int .u8 a0_0, .int .u8 a0_1, .int .u8 a0_2, .int .u8 a0_3, .int .u8 a0_4]] w fun e w' => e = .returned (.agg #[.int .i64 r1, .int .i64 r2, .int .i64 r3, .int .i64 r4, .int .i64 r5]) ∧ Below w.heap.size w w' := by
 have hu86 := Try.underlying86
 have hu57 := Try.underlying57
 have hu55 := Try.underlying55
 have HB := zA (Below.refl w.heap.size w)
 have H : (some (wrap64 (900 + (Int.tmod (wrap64 (a0_0)) 150)), wrap64 ((wrap64 (900 + (Int.tmod (wrap64 (a0_0)) 150))) + (Int.tmod (wrap64 (a0_1)) 50)), wrap64 (1 + (Int.tmod (wrap64 (a0_2)) 12)), wrap64 (1 + (Int.tmod (wrap64 (a0_3)) 6)), wrap64 (1 + (Int.tmod (wrap64 (a0_4)) 14)))) = some (r1, r2, r3, r4, r5) := h
 clear h
 simp only [Option.some.injEq, Prod.mk.injEq] at H
 obtain ⟨rfl, rfl, rfl, rfl, rfl⟩ := H
 go_enter Try.func42, Try.ntmps42
 go_wp2_with (first | ((with_reducible refine gate_dst (N := 1) rfl ?_); refine box_event ?hg (N := 1) ?hd (cs := #[.int .u8 a0_0, .int .u8 a0_1, .int .u8 a0_2, .int .u8 a0_3, .int .u8 a0_4]) (t := 86) ?hr ?_; (case hd => rfl); (case hg => rfl); (case hr => first | (go_simp; done) | (go_simp; rfl)); intro gb587 hg w2 hbox hb; have n0_ := zA (below_step (zqA HB.out) hb); have n1_ := zA (hbox); have n2_ := zA ((by rw [hg]; exact (below_size (zqA HB.out)) : w.heap.size ≤ gb587)); have n3_ := zA ((by rw [hg]; exact (below_size (zqA HB.out)) : w.heap.size ≤ gb587)); clear HB; have HB := n0_; have BK587 := n1_; have GW587 := n2_; have GE587 := n3_; clear n0_ n1_ n2_ n3_; clear hb hbox hg) | ((with_reducible refine gate_dst (N := 2) rfl ?_); refine box_event ?hg (N := 2) ?hd (cs := #[.int .i64 0, .int .i64 0, .int .i64 0, .int .i64 0, .int .i64 0]) (t := 57) ?hr ?_; (case hd => rfl); (case hg => rfl); (case hr => first | (go_simp; done) | (go_simp; rfl)); intro gb588 hg w3 hbox hb; have n0_ := zA (blk_below (g := gb587) (o := .cells #[.int .u8 a0_0, .int .u8 a0_1, .int .u8 a0_2, .int .u8 a0_3, .int .u8 a0_4] 86 (0, 0)) (zqB BK587.out) hb); have n1_ := zA (below_step (zqG HB.out GE587.out) hb); have n2_ := zA (hbox); have n3_ := zA ((by rw [hg]; exact (below_size (zqG HB.out GE587.out)) : w.heap.size ≤ gb588)); have n4_ := zA ((by rw [hg]; exact (below_size (zqG HB.out GE587.out)) : w.heap.size ≤ gb588)); have n5_ := zA ((by rw [hg]; exact Nat.ne_of_lt (blk_lt (g := gb587) (o := .cells #[.int .u8 a0_0, .int .u8 a0_1, .int .u8 a0_2, .int .u8 a0_3, .int .u8 a0_4] 86 (0, 0)) (zqB BK587.out)) : gb587 ≠ gb588)); have n6_ := zA ((by rw [hg]; exact Nat.ne_of_gt (blk_lt (g := gb587) (o := .cells #[.int .u8 a0_0, .int .u8 a0_1, .int .u8 a0_2, .int .u8 a0_3, .int .u8 a0_4] 86 (0, 0)) (zqB BK587.out)) : gb588 ≠ gb587)); clear BK587; clear HB; have BK587 := n0_; have HB := n1_; have BK588 := n2_; have GW588 := n3_; have GE588 := n4_; have NB587_588 := n5_; have NB588_587 := n6_; clear n0_ n1_ n2_ n3_ n4_ n5_ n6_; clear hb hbox hg; have hnb4 := NB587_588.out; have hnc4 := NB588_587.out; have hcz5_0 : w3.cell? ⟨gb587, 0, none⟩ = some (.int .u8 a0_0) := (blk_cell BK587.out 0).trans rfl; have hcz5_1 : w3.cell? ⟨gb587, 1, none⟩ = some (.int .u8 a0_1) := (blk_cell BK587.out 1).trans rfl; have hcz5_2 : w3.cell? ⟨gb587, 2, none⟩ = some (.int .u8 a0_2) := (blk_cell BK587.out 2).trans rfl; have hcz5_3 : w3.cell? ⟨gb587, 3, none⟩ = some (.int .u8 a0_3) := (blk_cell BK587.out 3).trans rfl; have hcz5_4 : w3.cell? ⟨gb587, 4, none⟩ = some (.int .u8 a0_4) := (blk_cell BK587.out 4).trans rfl; have hfz5_0 := blk_frozen BK587.out 0; have hfz5_1 := blk_frozen BK587.out 1; have hfz5_2 := blk_frozen BK587.out 2; have hfz5_3 := blk_frozen BK587.out 3; have hfz5_4 := blk_frozen BK587.out 4; have hcz6_0 : w3.cell? ⟨gb588, 0, none⟩ = some (.int .i64 0) := (blk_cell BK588.out 0).trans rfl; have hcz6_1 : w3.cell? ⟨gb588, 1, none⟩ = some (.int .i64 0) := (blk_cell BK588.out 1).trans rfl; have hcz6_2 : w3.cell? ⟨gb588, 2, none⟩ = some (.int .i64 0) := (blk_cell BK588.out 2).trans rfl; have hcz6_3 : w3.cell? ⟨gb588, 3, none⟩ = some (.int .i64 0) := (blk_cell BK588.out 3).trans rfl; have hcz6_4 : w3.cell? ⟨gb588, 4, none⟩ = some (.int .i64 0) := (blk_cell BK588.out 4).trans rfl; have hfz6_0 := blk_frozen BK588.out 0; have hfz6_1 := blk_frozen BK588.out 1; have hfz6_2 := blk_frozen BK588.out 2; have hfz6_3 := blk_frozen BK588.out 3; have hfz6_4 := blk_frozen BK588.out 4))
 refine bodyPost_ret (results_cell_row rfl _ _ gb588 57 #[.int .i64 (wrap64 (900 + (Int.tmod (wrap64 (a0_0)) 150))), .int .i64 (wrap64 ((wrap64 (900 + (Int.tmod (wrap64 (a0_0)) 150))) + (Int.tmod (wrap64 (a0_1)) 50))), .int .i64 (wrap64 (1 + (Int.tmod (wrap64 (a0_2)) 12))), .int .i64 (wrap64 (1 + (Int.tmod (wrap64 (a0_3)) 6))), .int .i64 (wrap64 (1 + (Int.tmod (wrap64 (a0_4)) 14)))] (0, 0) _ rfl (by (with_reducible repeat (first | refine blk_drewN ?_ _ | refine blk_drew ?_ | refine blk_alloc ?_ _)); refine blk_put (cs := #[.int .i64 (wrap64 (900 + (Int.tmod (wrap64 (a0_0)) 150))), .int .i64 (wrap64 ((wrap64 (900 + (Int.tmod (wrap64 (a0_0)) 150))) + (Int.tmod (wrap64 (a0_1)) 50))), .int .i64 (wrap64 (1 + (Int.tmod (wrap64 (a0_2)) 12))), .int .i64 (wrap64 (1 + (Int.tmod (wrap64 (a0_3)) 6))), .int .i64 0]) ?_ 4 _ rfl; (with_reducible repeat (first | refine blk_drewN ?_ _ | refine blk_drew ?_ | refine blk_alloc ?_ _)); refine blk_put (cs := #[.int .i64 (wrap64 (900 + (Int.tmod (wrap64 (a0_0)) 150))), .int .i64 (wrap64 ((wrap64 (900 + (Int.tmod (wrap64 (a0_0)) 150))) + (Int.tmod (wrap64 (a0_1)) 50))), .int .i64 (wrap64 (1 + (Int.tmod (wrap64 (a0_2)) 12))), .int .i64 0, .int .i64 0]) ?_ 3 _ rfl; (with_reducible repeat (first | refine blk_drewN ?_ _ | refine blk_drew ?_ | refine blk_alloc ?_ _)); refine blk_put (cs := #[.int .i64 (wrap64 (900 + (Int.tmod (wrap64 (a0_0)) 150))), .int .i64 (wrap64 ((wrap64 (900 + (Int.tmod (wrap64 (a0_0)) 150))) + (Int.tmod (wrap64 (a0_1)) 50))), .int .i64 0, .int .i64 0, .int .i64 0]) ?_ 2 _ rfl; (with_reducible repeat (first | refine blk_drewN ?_ _ | refine blk_drew ?_ | refine blk_alloc ?_ _)); refine blk_put (cs := #[.int .i64 (wrap64 (900 + (Int.tmod (wrap64 (a0_0)) 150))), .int .i64 0, .int .i64 0, .int .i64 0, .int .i64 0]) ?_ 1 _ rfl; (with_reducible repeat (first | refine blk_drewN ?_ _ | refine blk_drew ?_ | refine blk_alloc ?_ _)); refine blk_put (cs := #[.int .i64 0, .int .i64 0, .int .i64 0, .int .i64 0, .int .i64 0]) ?_ 0 _ rfl; (with_reducible repeat (first | refine blk_drewN ?_ _ | refine blk_drew ?_ | refine blk_alloc ?_ _)); exact BK588.out) Try.underlying57 rfl (by kernel_rfl)) rfl ?_
 exact ⟨zqR, zqH HB.out GE587.out GE588.out⟩
mutual
def pianolalaw03_divided.l0 : Nat → Int → Int → Int → Int → Int → Int → Int → Option (Bool)
  | 0, _, _, _, _, _, _, _ => none
  | k + 1, x2, x3, x9, x604000, x604001, x605000, x605001 => if x9 ≤ x604001 then (pianolalaw03_divided.j1 k x2 x3 x9 (decide (x9 < x2)) x604000 x604001 x605000 x605001) else (pianolalaw03_divided.j1 k x2 x3 x9 false x604000 x604001 x605000 x605001)
def pianolalaw03_divided.j1 : Nat → Int → Int → Int → Bool → Int → Int → Int → Int → Option (Bool)
  | 0, _, _, _, _, _, _, _, _ => none
  | k + 1, x2, x3, x9, x33, x604000, x604001, x605000, x605001 => if x33 = true then (pianolalaw03_divided.l1 k x2 x3 x9 (mx 1 x605000) x604000 x604001 x605000 x605001) else (some false)
def pianolalaw03_divided.l1 : Nat → Int → Int → Int → Int → Int → Int → Int → Int → Option (Bool)
  | 0, _, _, _, _, _, _, _, _ => none
  | k + 1, x2, x3, x9, x10, x604000, x604001, x605000, x605001 => if x10 ≤ x605001 then (pianolalaw03_divided.j3 k x2 x3 x9 x10 (decide ((wrap64 (x9 + x10)) < x2)) x604000 x604001 x605000 x605001) else (pianolalaw03_divided.j3 k x2 x3 x9 x10 false x604000 x604001 x605000 x605001)
def pianolalaw03_divided.j3 : Nat → Int → Int → Int → Int → Bool → Int → Int → Int → Int → Option (Bool)
  | 0, _, _, _, _, _, _, _, _, _ => none
  | k + 1, x2, x3, x9, x10, x49, x604000, x604001, x605000, x605001 => if x49 = true then ((pianolalaw03_divided.f k x604000 x604001 x605000 x605001 (wrap64 ((wrap64 (x2 - x9)) - x10)) (wrap64 (x3 - 1))).bind fun t605 => (if t605 = true then (some true) else (pianolalaw03_divided.l1 k x2 x3 x9 (wrap64 (x10 + 1)) x604000 x604001 x605000 x605001))) else (pianolalaw03_divided.l0 k x2 x3 (wrap64 (x9 + 1)) x604000 x604001 x605000 x605001)
def pianolalaw03_divided.f : Nat → Int → Int → Int → Int → Int → Int → Option (Bool)
  | 0, _, _, _, _, _, _ => none
  | k + 1, a0_0, a0_1, a1_0, a1_1, a2, a3 => if a3 = 1 then (if a2 ≥ a0_0 then (some (decide (a2 ≤ a0_1))) else (some false)) else (pianolalaw03_divided.l0 k a2 a3 a0_0 a0_0 a0_1 a1_0 a1_1)
end
set_option maxHeartbeats 8000000 in
set_option maxRecDepth 100000 in
theorem pianolalaw03_divided.calls (k : Nat) : ∀ (a0_0 : Int) (a0_1 : Int) (a1_0 : Int) (a1_1 : Int) (a2 : Int) (a3 : Int) (r : Bool) (w : World) (h : pianolalaw03_divided.f k a0_0 a0_1 a1_0 a1_1 a2 a3 = some r),
  Calls Try.prog 45 #[.agg #[.int .i64 a0_0, .int .i64 a0_1], .agg #[.int .i64 a1_0, .int .i64 a1_1], .int .i64 a2, .int .i64 a3] w fun e w' => e = .returned (.bool r) ∧ Below w.heap.size w w' := by
 induction k using Nat.strongRecOn with
 | _ k ih =>
 intro a0_0 a0_1 a1_0 a1_1 a2 a3 r w h
 cases k with
 | zero => exact absurd h (by simp [pianolalaw03_divided.f])
 | succ k =>
 simp only [pianolalaw03_divided.f] at h
 have hu55 := Try.underlying55
 have HB := zA (Below.refl w.heap.size w)
 have H : (if a3 = 1 then (if a2 ≥ a0_0 then (some (decide (a2 ≤ a0_1))) else (some false)) else (pianolalaw03_divided.l0 k a2 a3 a0_0 a0_0 a0_1 a1_0 a1_1)) = some r := h
 clear h
 by_cases c5 : a3 = 1
 ·
  rw [if_pos c5] at H
  have c5b0 : (a3 == 1) = true := beq_iff_eq.mpr c5
  have c5b1 : (a3 != 1) = false := bne_eq_false_iff_eq.mpr c5
  clear c5
  by_cases c6 : a2 ≥ a0_0
  ·
   rw [if_pos c6] at H
   have c6b0 : decide (a0_0 ≤ a2) = true := decide_eq_true c6
   clear c6
   obtain rfl := Option.some.inj H
   go_enter Try.func45, Try.ntmps45
   go_wp2_with (first | ((with_reducible refine gate_dst (N := 4) rfl ?_); refine box_event ?hg (N := 4) ?hd (cs := #[.int .i64 a0_0, .int .i64 a0_1]) (t := 55) ?hr ?_; (case hd => rfl); (case hg => rfl); (case hr => first | (go_simp; done) | (go_simp; rfl)); intro gb603 hg w7 hbox hb; have n0_ := zA (below_step (zqA HB.out) hb); have n1_ := zA (hbox); have n2_ := zA ((by rw [hg]; exact (below_size (zqA HB.out)) : w.heap.size ≤ gb603)); have n3_ := zA ((by rw [hg]; exact (below_size (zqA HB.out)) : w.heap.size ≤ gb603)); clear HB; have HB := n0_; have BK603 := n1_; have GW603 := n2_; have GE603 := n3_; clear n0_ n1_ n2_ n3_; clear hb hbox hg) | ((with_reducible refine gate_dst (N := 5) rfl ?_); refine box_event ?hg (N := 5) ?hd (cs := #[.int .i64 a1_0, .int .i64 a1_1]) (t := 55) ?hr ?_; (case hd => rfl); (case hg => rfl); (case hr => first | (go_simp; done) | (go_simp; rfl)); intro gb604 hg w8 hbox hb; have n0_ := zA (blk_below (g := gb603) (o := .cells #[.int .i64 a0_0, .int .i64 a0_1] 55 (0, 0)) (zqB BK603.out) hb); have n1_ := zA (below_step (zqG HB.out GE603.out) hb); have n2_ := zA (hbox); have n3_ := zA ((by rw [hg]; exact (below_size (zqG HB.out GE603.out)) : w.heap.size ≤ gb604)); have n4_ := zA ((by rw [hg]; exact (below_size (zqG HB.out GE603.out)) : w.heap.size ≤ gb604)); have n5_ := zA ((by rw [hg]; exact Nat.ne_of_lt (blk_lt (g := gb603) (o := .cells #[.int .i64 a0_0, .int .i64 a0_1] 55 (0, 0)) (zqB BK603.out)) : gb603 ≠ gb604)); have n6_ := zA ((by rw [hg]; exact Nat.ne_of_gt (blk_lt (g := gb603) (o := .cells #[.int .i64 a0_0, .int .i64 a0_1] 55 (0, 0)) (zqB BK603.out)) : gb604 ≠ gb603)); clear BK603; clear HB; have BK603 := n0_; have HB := n1_; have BK604 := n2_; have GW604 := n3_; have GE604 := n4_; have NB603_604 := n5_; have NB604_603 := n6_; clear n0_ n1_ n2_ n3_ n4_ n5_ n6_; clear hb hbox hg; have hnb9 := NB603_604.out; have hnc9 := NB604_603.out; have hcz10_0 : w8.cell? ⟨gb603, 0, none⟩ = some (.int .i64 a0_0) := (blk_cell BK603.out 0).trans rfl; have hcz10_1 : w8.cell? ⟨gb603, 1, none⟩ = some (.int .i64 a0_1) := (blk_cell BK603.out 1).trans rfl; have hfz10_0 := blk_frozen BK603.out 0; have hfz10_1 := blk_frozen BK603.out 1))
   go_ret
   exact ⟨zqR, zqH HB.out GE603.out GE604.out⟩
  ·
   rw [if_neg c6] at H
   have c6b0 : decide (a0_0 ≤ a2) = false := decide_eq_false c6
   clear c6
   obtain rfl := Option.some.inj H
   go_enter Try.func45, Try.ntmps45
   go_wp2_with (first | ((with_reducible refine gate_dst (N := 4) rfl ?_); refine box_event ?hg (N := 4) ?hd (cs := #[.int .i64 a0_0, .int .i64 a0_1]) (t := 55) ?hr ?_; (case hd => rfl); (case hg => rfl); (case hr => first | (go_simp; done) | (go_simp; rfl)); intro gb603 hg w11 hbox hb; have n0_ := zA (below_step (zqA HB.out) hb); have n1_ := zA (hbox); have n2_ := zA ((by rw [hg]; exact (below_size (zqA HB.out)) : w.heap.size ≤ gb603)); have n3_ := zA ((by rw [hg]; exact (below_size (zqA HB.out)) : w.heap.size ≤ gb603)); clear HB; have HB := n0_; have BK603 := n1_; have GW603 := n2_; have GE603 := n3_; clear n0_ n1_ n2_ n3_; clear hb hbox hg) | ((with_reducible refine gate_dst (N := 5) rfl ?_); refine box_event ?hg (N := 5) ?hd (cs := #[.int .i64 a1_0, .int .i64 a1_1]) (t := 55) ?hr ?_; (case hd => rfl); (case hg => rfl); (case hr => first | (go_simp; done) | (go_simp; rfl)); intro gb604 hg w12 hbox hb; have n0_ := zA (blk_below (g := gb603) (o := .cells #[.int .i64 a0_0, .int .i64 a0_1] 55 (0, 0)) (zqB BK603.out) hb); have n1_ := zA (below_step (zqG HB.out GE603.out) hb); have n2_ := zA (hbox); have n3_ := zA ((by rw [hg]; exact (below_size (zqG HB.out GE603.out)) : w.heap.size ≤ gb604)); have n4_ := zA ((by rw [hg]; exact (below_size (zqG HB.out GE603.out)) : w.heap.size ≤ gb604)); have n5_ := zA ((by rw [hg]; exact Nat.ne_of_lt (blk_lt (g := gb603) (o := .cells #[.int .i64 a0_0, .int .i64 a0_1] 55 (0, 0)) (zqB BK603.out)) : gb603 ≠ gb604)); have n6_ := zA ((by rw [hg]; exact Nat.ne_of_gt (blk_lt (g := gb603) (o := .cells #[.int .i64 a0_0, .int .i64 a0_1] 55 (0, 0)) (zqB BK603.out)) : gb604 ≠ gb603)); clear BK603; clear HB; have BK603 := n0_; have HB := n1_; have BK604 := n2_; have GW604 := n3_; have GE604 := n4_; have NB603_604 := n5_; have NB604_603 := n6_; clear n0_ n1_ n2_ n3_ n4_ n5_ n6_; clear hb hbox hg; have hnb13 := NB603_604.out; have hnc13 := NB604_603.out; have hcz14_0 : w12.cell? ⟨gb603, 0, none⟩ = some (.int .i64 a0_0) := (blk_cell BK603.out 0).trans rfl; have hcz14_1 : w12.cell? ⟨gb603, 1, none⟩ = some (.int .i64 a0_1) := (blk_cell BK603.out 1).trans rfl; have hfz14_0 := blk_frozen BK603.out 0; have hfz14_1 := blk_frozen BK603.out 1))
   go_ret
   exact ⟨zqR, zqH HB.out GE603.out GE604.out⟩
 ·
  rw [if_neg c5] at H
  have c5b0 : (a3 == 1) = false := beq_eq_false_iff_ne.mpr c5
  have c5b1 : (a3 != 1) = true := bne_iff_ne.mpr c5
  have H' := zA H
  clear H
  go_enter Try.func45, Try.ntmps45
  go_wp2_with (first | ((with_reducible refine gate_dst (N := 4) rfl ?_); refine box_event ?hg (N := 4) ?hd (cs := #[.int .i64 a0_0, .int .i64 a0_1]) (t := 55) ?hr ?_; (case hd => rfl); (case hg => rfl); (case hr => first | (go_simp; done) | (go_simp; rfl)); intro gb603 hg w15 hbox hb; have n0_ := zA (below_step (zqA HB.out) hb); have n1_ := zA (hbox); have n2_ := zA ((by rw [hg]; exact (below_size (zqA HB.out)) : w.heap.size ≤ gb603)); have n3_ := zA ((by rw [hg]; exact (below_size (zqA HB.out)) : w.heap.size ≤ gb603)); clear HB; have HB := n0_; have BK603 := n1_; have GW603 := n2_; have GE603 := n3_; clear n0_ n1_ n2_ n3_; clear hb hbox hg) | ((with_reducible refine gate_dst (N := 5) rfl ?_); refine box_event ?hg (N := 5) ?hd (cs := #[.int .i64 a1_0, .int .i64 a1_1]) (t := 55) ?hr ?_; (case hd => rfl); (case hg => rfl); (case hr => first | (go_simp; done) | (go_simp; rfl)); intro gb604 hg w16 hbox hb; have n0_ := zA (blk_below (g := gb603) (o := .cells #[.int .i64 a0_0, .int .i64 a0_1] 55 (0, 0)) (zqB BK603.out) hb); have n1_ := zA (below_step (zqG HB.out GE603.out) hb); have n2_ := zA (hbox); have n3_ := zA ((by rw [hg]; exact (below_size (zqG HB.out GE603.out)) : w.heap.size ≤ gb604)); have n4_ := zA ((by rw [hg]; exact (below_size (zqG HB.out GE603.out)) : w.heap.size ≤ gb604)); have n5_ := zA ((by rw [hg]; exact Nat.ne_of_lt (blk_lt (g := gb603) (o := .cells #[.int .i64 a0_0, .int .i64 a0_1] 55 (0, 0)) (zqB BK603.out)) : gb603 ≠ gb604)); have n6_ := zA ((by rw [hg]; exact Nat.ne_of_gt (blk_lt (g := gb603) (o := .cells #[.int .i64 a0_0, .int .i64 a0_1] 55 (0, 0)) (zqB BK603.out)) : gb604 ≠ gb603)); clear BK603; clear HB; have BK603 := n0_; have HB := n1_; have BK604 := n2_; have GW604 := n3_; have GE604 := n4_; have NB603_604 := n5_; have NB604_603 := n6_; clear n0_ n1_ n2_ n3_ n4_ n5_ n6_; clear hb hbox hg; have hnb17 := NB603_604.out; have hnc17 := NB604_603.out; have hcz18_0 : w16.cell? ⟨gb603, 0, none⟩ = some (.int .i64 a0_0) := (blk_cell BK603.out 0).trans rfl; have hcz18_1 : w16.cell? ⟨gb603, 1, none⟩ = some (.int .i64 a0_1) := (blk_cell BK603.out 1).trans rfl; have hfz18_0 := blk_frozen BK603.out 0; have hfz18_1 := blk_frozen BK603.out 1))
  go_loopg [9] k (fun kq v9 w' => ∃ (x9_1 : Int), v9 = .int .i64 x9_1 ∧ Aside0 (pianolalaw03_divided.l0 kq a2 a3 x9_1 a0_0 a0_1 a1_0 a1_1 = some r) ∧ Aside0 (kq ≤ k) ∧ Aside0 (w'.heap[gb603]? = some (.cells #[.int .i64 a0_0, .int .i64 a0_1] 55 (0, 0))) ∧ Aside0 (w'.heap[gb604]? = some (.cells #[.int .i64 a1_0, .int .i64 a1_1] 55 (0, 0))) ∧ Aside0 (Below w.heap.size w w'))
  case atStart => exact ⟨(a0_0), zqQ, H', ⟨Nat.le_refl _⟩, ⟨zqB BK603.out⟩, ⟨zqB BK604.out⟩, ⟨zqH HB.out GE603.out GE604.out⟩⟩
  case round =>
   clear H'
   try clear c1
   try clear p2
   try clear c4
   try clear c5
   try clear c5b0
   try clear c5b1
   try clear c6
   try clear c6b0
   try clear c9
   try clear c13
   try clear c17
   try clear hcz10_0
   try clear hcz10_1
   try clear hcz14_0
   try clear hcz14_1
   try clear hcz18_0
   try clear hcz18_1
   try clear hfz10_0
   try clear hfz10_1
   try clear hfz14_0
   try clear hfz14_1
   try clear hfz18_0
   try clear hfz18_1
   obtain ⟨x9_1, rfl, HA, HK1, BK603, BK604, HB⟩ := hrel
   cases gk with
   | zero => exact absurd HA.out (by simp [pianolalaw03_divided.l0])
   | succ k1 =>
    have H := HA.out
    clear HA
    simp only [pianolalaw03_divided.l0] at H
    have HC19 := zA H
    clear H
    go_upto_region 4 with (fail)
    go_cut [33] (fun v33 wc => ∃ (kq : Nat) (x33_18 : Bool), v33 = .bool x33_18 ∧ Aside0 (pianolalaw03_divided.j1 kq a2 a3 x9_1 x33_18 a0_0 a0_1 a1_0 a1_1 = some r) ∧ Aside0 (kq ≤ k1) ∧ Aside0 (wc.heap[gb603]? = some (.cells #[.int .i64 a0_0, .int .i64 a0_1] 55 (0, 0))) ∧ Aside0 (wc.heap[gb604]? = some (.cells #[.int .i64 a1_0, .int .i64 a1_1] 55 (0, 0))) ∧ Aside0 (Below w.heap.size w wc))
    case first =>
     have H := HC19.out
     clear HC19
     by_cases c20 : x9_1 ≤ a0_1
     ·
      rw [if_pos c20] at H
      have c20b0 : decide (x9_1 ≤ a0_1) = true := decide_eq_true c20
      clear c20
      (first | rw [c20b0] | (simp only [i64_w, i32_w]; rw [c20b0]) | skip)
      have H' := zA H
      clear H
      have hnb21 := NB603_604.out
      have hnc21 := NB604_603.out
      have hcz22_0 : wr.cell? ⟨gb603, 0, none⟩ = some (.int .i64 a0_0) := (blk_cell BK603.out 0).trans rfl
      have hcz22_1 : wr.cell? ⟨gb603, 1, none⟩ = some (.int .i64 a0_1) := (blk_cell BK603.out 1).trans rfl
      have hfz22_0 := blk_frozen BK603.out 0
      have hfz22_1 := blk_frozen BK603.out 1
      go_wp2
      go_meet
      case rel => exact ⟨_, (decide (x9_1 < a2)), zqQ, H', ⟨by have := HK1.out; first | omega | exact Nat.le_refl _⟩, ⟨zqB BK603.out⟩, ⟨zqB BK604.out⟩, ⟨zqH HB.out GE603.out GE604.out⟩⟩
     ·
      rw [if_neg c20] at H
      have c20b0 : decide (x9_1 ≤ a0_1) = false := decide_eq_false c20
      clear c20
      (first | rw [c20b0] | (simp only [i64_w, i32_w]; rw [c20b0]) | skip)
      have H' := zA H
      clear H
      have hnb23 := NB603_604.out
      have hnc23 := NB604_603.out
      have hcz24_0 : wr.cell? ⟨gb603, 0, none⟩ = some (.int .i64 a0_0) := (blk_cell BK603.out 0).trans rfl
      have hcz24_1 : wr.cell? ⟨gb603, 1, none⟩ = some (.int .i64 a0_1) := (blk_cell BK603.out 1).trans rfl
      have hfz24_0 := blk_frozen BK603.out 0
      have hfz24_1 := blk_frozen BK603.out 1
      go_wp2
      go_meet
      case rel => exact ⟨_, (false), zqQ, H', ⟨by have := HK1.out; first | omega | exact Nat.le_refl _⟩, ⟨zqB BK603.out⟩, ⟨zqB BK604.out⟩, ⟨zqH HB.out GE603.out GE604.out⟩⟩
    case rest =>
     clear HC19
     try clear c1
     try clear c2
     try clear p2
     try clear c4
     try clear c5
     try clear c5b0
     try clear c5b1
     try clear c6
     try clear c6b0
     try clear c9
     try clear c13
     try clear c17
     try clear c20
     try clear c20b0
     try clear c21
     try clear c23
     try clear hcz10_0
     try clear hcz10_1
     try clear hcz14_0
     try clear hcz14_1
     try clear hcz18_0
     try clear hcz18_1
     try clear hcz22_0
     try clear hcz22_1
     try clear hcz24_0
     try clear hcz24_1
     try clear hfz10_0
     try clear hfz10_1
     try clear hfz14_0
     try clear hfz14_1
     try clear hfz18_0
     try clear hfz18_1
     try clear hfz22_0
     try clear hfz22_1
     try clear hfz24_0
     try clear hfz24_1
     try clear p2
     obtain ⟨kq, x33_18, rfl, HA, HJ18, BK603, BK604, HB⟩ := hcut
     cases kq with
     | zero => exact absurd HA.out (by simp [pianolalaw03_divided.j1])
     | succ kj18 =>
      have H := HA.out
      clear HA
      simp only [pianolalaw03_divided.j1] at H
      by_cases c25 : x33_18 = true
      ·
       subst c25
       have H1 : (pianolalaw03_divided.l1 kj18 a2 a3 x9_1 (mx 1 a1_0) a0_0 a0_1 a1_0 a1_1) = some r := by rw [if_pos rfl] at H; exact H
       clear H; have H := H1; clear H1
       obtain ⟨ji26, hji26⟩ : ∃ j_ : Int, (mx 1 a1_0) = j_ := ⟨_, rfl⟩
       replace H : (pianolalaw03_divided.l1 kj18 a2 a3 x9_1 ji26 a0_0 a0_1 a1_0 a1_1) = some r := by first | (rw [hji26] at H; exact H) | (simp only [hji26] at H ⊢; exact H)
       have hji26_ : (if 1 < a1_0 then a1_0 else 1) = ji26 := hji26
       have H' := zA H
       clear H
       have hnb27 := NB604_603.out
       have hnc27 := NB603_604.out
       have hcz28_0 : wc.cell? ⟨gb604, 0, none⟩ = some (.int .i64 a1_0) := (blk_cell BK604.out 0).trans rfl
       have hcz28_1 : wc.cell? ⟨gb604, 1, none⟩ = some (.int .i64 a1_1) := (blk_cell BK604.out 1).trans rfl
       have hfz28_0 := blk_frozen BK604.out 0
       have hfz28_1 := blk_frozen BK604.out 1
       go_wp2
       go_loopg [10] kj18 (fun kq v10 w' => ∃ (x10_3 : Int), v10 = .int .i64 x10_3 ∧ Aside0 (pianolalaw03_divided.l1 kq a2 a3 x9_1 x10_3 a0_0 a0_1 a1_0 a1_1 = some r) ∧ Aside0 (kq ≤ kj18) ∧ Aside0 (w'.heap[gb603]? = some (.cells #[.int .i64 a0_0, .int .i64 a0_1] 55 (0, 0))) ∧ Aside0 (w'.heap[gb604]? = some (.cells #[.int .i64 a1_0, .int .i64 a1_1] 55 (0, 0))) ∧ Aside0 (Below w.heap.size w w'))
       case atStart => exact ⟨(ji26), (by first | rfl | (simp; done) | (simp only [← hji26] <;> (first | rfl | simp)) | (simp [*]; done)), H', ⟨Nat.le_refl _⟩, ⟨zqB BK603.out⟩, ⟨zqB BK604.out⟩, ⟨zqH HB.out GE603.out GE604.out⟩⟩
       case round =>
        clear H'
        try clear c1
        try clear c2
        try clear p2
        try clear c4
        try clear c5
        try clear c5b0
        try clear c5b1
        try clear c6
        try clear c6b0
        try clear c9
        try clear c13
        try clear c17
        try clear c20
        try clear c20b0
        try clear c21
        try clear c23
        try clear c25
        try clear c27
        try clear hcz10_0
        try clear hcz10_1
        try clear hcz14_0
        try clear hcz14_1
        try clear hcz18_0
        try clear hcz18_1
        try clear hcz22_0
        try clear hcz22_1
        try clear hcz24_0
        try clear hcz24_1
        try clear hcz28_0
        try clear hcz28_1
        try clear hfz10_0
        try clear hfz10_1
        try clear hfz14_0
        try clear hfz14_1
        try clear hfz18_0
        try clear hfz18_1
        try clear hfz22_0
        try clear hfz22_1
        try clear hfz24_0
        try clear hfz24_1
        try clear hfz28_0
        try clear hfz28_1
        try clear p2
        obtain ⟨x10_3, rfl, HA, HK3, BK603, BK604, HB⟩ := hrel
        cases gk with
        | zero => exact absurd HA.out (by simp [pianolalaw03_divided.l1])
        | succ k3 =>
         have H := HA.out
         clear HA
         simp only [pianolalaw03_divided.l1] at H
         have HC29 := zA H
         clear H
         go_upto_region 7 with (fail)
         go_cut [49] (fun v49 wc => ∃ (kq : Nat) (x49_28 : Bool), v49 = .bool x49_28 ∧ Aside0 (pianolalaw03_divided.j3 kq a2 a3 x9_1 x10_3 x49_28 a0_0 a0_1 a1_0 a1_1 = some r) ∧ Aside0 (kq ≤ k3) ∧ Aside0 (wc.heap[gb603]? = some (.cells #[.int .i64 a0_0, .int .i64 a0_1] 55 (0, 0))) ∧ Aside0 (wc.heap[gb604]? = some (.cells #[.int .i64 a1_0, .int .i64 a1_1] 55 (0, 0))) ∧ Aside0 (Below w.heap.size w wc))
         case first =>
          have H := HC29.out
          clear HC29
          by_cases c30 : x10_3 ≤ a1_1
          ·
           rw [if_pos c30] at H
           have c30b0 : decide (x10_3 ≤ a1_1) = true := decide_eq_true c30
           clear c30
           (first | rw [c30b0] | (simp only [i64_w, i32_w]; rw [c30b0]) | skip)
           have H' := zA H
           clear H
           have hnb31 := NB604_603.out
           have hnc31 := NB603_604.out
           have hcz32_0 : wr.cell? ⟨gb604, 0, none⟩ = some (.int .i64 a1_0) := (blk_cell BK604.out 0).trans rfl
           have hcz32_1 : wr.cell? ⟨gb604, 1, none⟩ = some (.int .i64 a1_1) := (blk_cell BK604.out 1).trans rfl
           have hfz32_0 := blk_frozen BK604.out 0
           have hfz32_1 := blk_frozen BK604.out 1
           go_wp2
           go_meet
           case rel => exact ⟨_, (decide ((wrap64 (x9_1 + x10_3)) < a2)), zqQ, H', ⟨by have := HK1.out; have := HJ18.out; have := HK3.out; first | omega | exact Nat.le_refl _⟩, ⟨zqB BK603.out⟩, ⟨zqB BK604.out⟩, ⟨zqH HB.out GE603.out GE604.out⟩⟩
          ·
           rw [if_neg c30] at H
           have c30b0 : decide (x10_3 ≤ a1_1) = false := decide_eq_false c30
           clear c30
           (first | rw [c30b0] | (simp only [i64_w, i32_w]; rw [c30b0]) | skip)
           have H' := zA H
           clear H
           have hnb33 := NB604_603.out
           have hnc33 := NB603_604.out
           have hcz34_0 : wr.cell? ⟨gb604, 0, none⟩ = some (.int .i64 a1_0) := (blk_cell BK604.out 0).trans rfl
           have hcz34_1 : wr.cell? ⟨gb604, 1, none⟩ = some (.int .i64 a1_1) := (blk_cell BK604.out 1).trans rfl
           have hfz34_0 := blk_frozen BK604.out 0
           have hfz34_1 := blk_frozen BK604.out 1
           go_wp2
           go_meet
           case rel => exact ⟨_, (false), zqQ, H', ⟨by have := HK1.out; have := HJ18.out; have := HK3.out; first | omega | exact Nat.le_refl _⟩, ⟨zqB BK603.out⟩, ⟨zqB BK604.out⟩, ⟨zqH HB.out GE603.out GE604.out⟩⟩
         case rest =>
          clear HC29
          try clear c1
          try clear c2
          try clear p2
          try clear c3
          try clear c4
          try clear c5
          try clear c5b0
          try clear c5b1
          try clear c6
          try clear c6b0
          try clear p6
          try clear c9
          try clear c13
          try clear c17
          try clear c20
          try clear c20b0
          try clear c21
          try clear c23
          try clear c25
          try clear c27
          try clear c30
          try clear c30b0
          try clear c31
          try clear c33
          try clear hcz10_0
          try clear hcz10_1
          try clear hcz14_0
          try clear hcz14_1
          try clear hcz18_0
          try clear hcz18_1
          try clear hcz22_0
          try clear hcz22_1
          try clear hcz24_0
          try clear hcz24_1
          try clear hcz28_0
          try clear hcz28_1
          try clear hcz32_0
          try clear hcz32_1
          try clear hcz34_0
          try clear hcz34_1
          try clear hfz10_0
          try clear hfz10_1
          try clear hfz14_0
          try clear hfz14_1
          try clear hfz18_0
          try clear hfz18_1
          try clear hfz22_0
          try clear hfz22_1
          try clear hfz24_0
          try clear hfz24_1
          try clear hfz28_0
          try clear hfz28_1
          try clear hfz32_0
          try clear hfz32_1
          try clear hfz34_0
          try clear hfz34_1
          try clear p2
          obtain ⟨kq, x49_28, rfl, HA, HJ28, BK603, BK604, HB⟩ := hcut
          cases kq with
          | zero => exact absurd HA.out (by simp [pianolalaw03_divided.j3])
          | succ kj28 =>
           have H := HA.out
           clear HA
           simp only [pianolalaw03_divided.j3] at H
           by_cases c35 : x49_28 = true
           ·
            subst c35
            have H1 : ((pianolalaw03_divided.f kj28 a0_0 a0_1 a1_0 a1_1 (wrap64 ((wrap64 (a2 - x9_1)) - x10_3)) (wrap64 (a3 - 1))).bind fun t605 => (if t605 = true then (some true) else (pianolalaw03_divided.l1 kj28 a2 a3 x9_1 (wrap64 (x10_3 + 1)) a0_0 a0_1 a1_0 a1_1))) = some r := by rw [if_pos rfl] at H; exact H
            clear H; have H := H1; clear H1
            replace H := Option.bind_eq_some_iff.mp H
            obtain ⟨t605, A360, H⟩ := H
            replace H : (if t605 = true then (some true) else (pianolalaw03_divided.l1 kj28 a2 a3 x9_1 (wrap64 (x10_3 + 1)) a0_0 a0_1 a1_0 a1_1)) = some r := H
            have A36 := zA A360
            clear A360
            by_cases c37 : t605 = true
            ·
             subst c37
             have H1 : (some true) = some r := by rw [if_pos rfl] at H; exact H
             clear H; have H := H1; clear H1
             obtain rfl := Option.some.inj H
             have hnb38 := NB603_604.out
             have hnc38 := NB604_603.out
             have hcz39_0 : wc.cell? ⟨gb603, 0, none⟩ = some (.int .i64 a0_0) := (blk_cell BK603.out 0).trans rfl
             have hcz39_1 : wc.cell? ⟨gb603, 1, none⟩ = some (.int .i64 a0_1) := (blk_cell BK603.out 1).trans rfl
             have hfz39_0 := blk_frozen BK603.out 0
             have hfz39_1 := blk_frozen BK603.out 1
             have hcz40_0 : wc.cell? ⟨gb604, 0, none⟩ = some (.int .i64 a1_0) := (blk_cell BK604.out 0).trans rfl
             have hcz40_1 : wc.cell? ⟨gb604, 1, none⟩ = some (.int .i64 a1_1) := (blk_cell BK604.out 1).trans rfl
             have hfz40_0 := blk_frozen BK604.out 0
             have hfz40_1 := blk_frozen BK604.out 1
             go_wp2_with (first | ((with_reducible refine gate_callee (f := 45) rfl ?_); refine goesL_ (some 61) rfl rfl Try.func45 (by kernel_rfl) rfl #[.agg #[.int .i64 a0_0, .int .i64 a0_1], .agg #[.int .i64 a1_0, .int .i64 a1_1], .int .i64 (wrap64 ((wrap64 (a2 - x9_1)) - x10_3)), .int .i64 (wrap64 (a3 - 1))] rfl zqE ?_; (with_reducible refine (ih kj28 (by have := HK1.out; have := HJ18.out; have := HK3.out; have := HJ28.out; omega) a0_0 a0_1 a1_0 a1_1 (wrap64 ((wrap64 (a2 - x9_1)) - x10_3)) (wrap64 (a3 - 1)) true _ A36.out).mono ?_); rintro e w41 ⟨rfl, hb⟩; refine ⟨_, rfl, ?_⟩; have n0_ := zA (blk_below (g := gb603) (o := .cells #[.int .i64 a0_0, .int .i64 a0_1] 55 (0, 0)) (zqB BK603.out) hb); have n1_ := zA (blk_below (g := gb604) (o := .cells #[.int .i64 a1_0, .int .i64 a1_1] 55 (0, 0)) (zqB BK604.out) hb); have n2_ := zA (below_step (zqH HB.out GE603.out GE604.out) hb); clear BK603; clear BK604; clear HB; have BK603 := n0_; have BK604 := n1_; have HB := n2_; clear n0_ n1_ n2_; (try clear hb); (try clear hb2); (try clear hk); (try clear hi)))
             go_ret
             exact ⟨by first | rfl | (simp [errW_none, errW_some] <;> rfl) | (simp only [← hji26]; first | rfl | (simp [errW_none, errW_some] <;> rfl)) | (simp [*, errW_none, errW_some] <;> rfl), zqH HB.out GE603.out GE604.out⟩
            ·
             replace c37 := Bool.eq_false_iff.mpr c37
             subst c37
             have H1 : (pianolalaw03_divided.l1 kj28 a2 a3 x9_1 (wrap64 (x10_3 + 1)) a0_0 a0_1 a1_0 a1_1) = some r := by rw [if_neg (show ¬ (false = true) by decide)] at H; exact H
             clear H; have H := H1; clear H1
             have H' := zA H
             clear H
             have hnb42 := NB603_604.out
             have hnc42 := NB604_603.out
             have hcz43_0 : wc.cell? ⟨gb603, 0, none⟩ = some (.int .i64 a0_0) := (blk_cell BK603.out 0).trans rfl
             have hcz43_1 : wc.cell? ⟨gb603, 1, none⟩ = some (.int .i64 a0_1) := (blk_cell BK603.out 1).trans rfl
             have hfz43_0 := blk_frozen BK603.out 0
             have hfz43_1 := blk_frozen BK603.out 1
             have hcz44_0 : wc.cell? ⟨gb604, 0, none⟩ = some (.int .i64 a1_0) := (blk_cell BK604.out 0).trans rfl
             have hcz44_1 : wc.cell? ⟨gb604, 1, none⟩ = some (.int .i64 a1_1) := (blk_cell BK604.out 1).trans rfl
             have hfz44_0 := blk_frozen BK604.out 0
             have hfz44_1 := blk_frozen BK604.out 1
             go_wp2_with (first | ((with_reducible refine gate_callee (f := 45) rfl ?_); refine goesL_ (some 61) rfl rfl Try.func45 (by kernel_rfl) rfl #[.agg #[.int .i64 a0_0, .int .i64 a0_1], .agg #[.int .i64 a1_0, .int .i64 a1_1], .int .i64 (wrap64 ((wrap64 (a2 - x9_1)) - x10_3)), .int .i64 (wrap64 (a3 - 1))] rfl zqE ?_; (with_reducible refine (ih kj28 (by have := HK1.out; have := HJ18.out; have := HK3.out; have := HJ28.out; omega) a0_0 a0_1 a1_0 a1_1 (wrap64 ((wrap64 (a2 - x9_1)) - x10_3)) (wrap64 (a3 - 1)) false _ A36.out).mono ?_); rintro e w45 ⟨rfl, hb⟩; refine ⟨_, rfl, ?_⟩; have n0_ := zA (blk_below (g := gb603) (o := .cells #[.int .i64 a0_0, .int .i64 a0_1] 55 (0, 0)) (zqB BK603.out) hb); have n1_ := zA (blk_below (g := gb604) (o := .cells #[.int .i64 a1_0, .int .i64 a1_1] 55 (0, 0)) (zqB BK604.out) hb); have n2_ := zA (below_step (zqH HB.out GE603.out GE604.out) hb); clear BK603; clear BK604; clear HB; have BK603 := n0_; have BK604 := n1_; have HB := n2_; clear n0_ n1_ n2_; (try clear hb); (try clear hb2); (try clear hk); (try clear hi)))
             go_roundg kj28
             case measure => have := HK1.out; have := HJ18.out; have := HK3.out; have := HJ28.out; omega
             case rel => exact ⟨(wrap64 (x10_3 + 1)), zqQ, H', ⟨by have := HK1.out; have := HJ18.out; have := HK3.out; have := HJ28.out; omega⟩, ⟨zqB BK603.out⟩, ⟨zqB BK604.out⟩, ⟨zqH HB.out GE603.out GE604.out⟩⟩
           ·
            replace c35 := Bool.eq_false_iff.mpr c35
            subst c35
            have H1 : (pianolalaw03_divided.l0 kj28 a2 a3 (wrap64 (x9_1 + 1)) a0_0 a0_1 a1_0 a1_1) = some r := by rw [if_neg (show ¬ (false = true) by decide)] at H; exact H
            clear H; have H := H1; clear H1
            have H' := zA H
            clear H
            go_wp2
            go_roundg kj28
            case measure => have := HK1.out; have := HJ18.out; have := HK3.out; have := HJ28.out; omega
            case rel => exact ⟨(wrap64 (x9_1 + 1)), zqQ, H', ⟨by have := HK1.out; have := HJ18.out; have := HK3.out; have := HJ28.out; omega⟩, ⟨zqB BK603.out⟩, ⟨zqB BK604.out⟩, ⟨zqH HB.out GE603.out GE604.out⟩⟩
      ·
       replace c25 := Bool.eq_false_iff.mpr c25
       subst c25
       have H1 : (some false) = some r := by rw [if_neg (show ¬ (false = true) by decide)] at H; exact H
       clear H; have H := H1; clear H1
       obtain rfl := Option.some.inj H
       go_wp2
       go_ret
       exact ⟨zqR, zqH HB.out GE603.out GE604.out⟩
end Go.Proofs.Ytegffliopblajaa.P
end
