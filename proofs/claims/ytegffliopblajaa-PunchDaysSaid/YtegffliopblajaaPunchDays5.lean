/- Words and contracts for a claim. -/
import Derived.Test.YtegffliopblajaaPunchDays4
import Derived.OpenShut
import Derived.Deep.Slices
import Derived.ChangeSame
section
namespace Go.Proofs.Ytegffliopblajaa.P
open Go.ChangeShapes Go.WideShapes Go.Deep Go.RowKit Go.Proofs.YtegffliopblajaaW.PrintWords
set_option maxRecDepth 100000
set_option linter.unusedVariables false
set_option linter.unusedSimpArgs false
section
variable {H : Type} {enc : TypeId × Value → H} {w : World} {base : Nat} {spare : Nat → Bool} {held : Bool}
theorem byte_of {fuel : Nat} {u : Value} {x : DataW H × List MemPlace} (h : DataW.trod enc Try.prog w base spare held fuel 5 [u] = some x) : ∃ a : Int, u = .int .u8 a ∧ (Lit.int .u8 a).wf = true := by
  obtain ⟨a, e0, _, w0⟩ := DataW.trod_int Try.underlying5 h
  injection e0 with e0
  exact ⟨a, e0, w0⟩
theorem pair_u8 {fuel : Nat} {cs : List Value} {x : DataW H × List MemPlace} (h : DataW.trod enc Try.prog w base spare held fuel 82 cs = some x) :
    ∃ a b : Int, cs = [.int .u8 a, .int .u8 b] ∧ (Lit.int .u8 a).wf = true ∧ (Lit.int .u8 b).wf = true := by
  obtain ⟨xs, m, _, hx, hcl, hxl, hg⟩ := DataW.trod_array Try.underlying82 h
  have hc : Try.prog.cellsOf 82 = 2 := by kernel_rfl
  have hc5 : Try.prog.cellsOf 5 = 1 := by kernel_rfl
  rw [hc] at hcl
  obtain ⟨c0, c1, rfl⟩ := list_two hcl
  obtain ⟨y0, y1, rfl⟩ := list_two hxl
  have h0 := hg 0 (by omega)
  have h1 := hg 1 (by omega)
  rw [hc5] at h0 h1
  obtain ⟨a, rfl, w0⟩ := byte_of (show DataW.trod enc Try.prog w base spare held m 5 [c0] = some y0 from h0)
  obtain ⟨b, rfl, w1⟩ := byte_of (show DataW.trod enc Try.prog w base spare held m 5 [c1] = some y1 from h1)
  exact ⟨a, b, rfl, w0, w1⟩
theorem open_sheet {r : Reach} {b0 : Nat} {v : Value} {d : DataW H} {p : List MemPlace} (hv : Value.okWide Try.prog w r b0 86 v) (h : DataW.Trod enc Try.prog w base spare held 86 v d p) :
    ∃ a b c e f : Int, v = .agg #[.int .u8 a, .int .u8 b, .int .u8 c, .int .u8 e, .int .u8 f] ∧ (Lit.int .u8 a).wf = true ∧ (Lit.int .u8 b).wf = true ∧ (Lit.int .u8 c).wf = true ∧ (Lit.int .u8 e).wf = true ∧ (Lit.int .u8 f).wf = true := by
  simp only [Value.okWide, Try.underlying86] at hv
  obtain ⟨cs, rfl, h2, _⟩ := hv
  obtain ⟨fuel, hf⟩ := h
  obtain ⟨xs, m, _, hx, hcl, hxl, hg⟩ := DataW.trod_struct Try.underlying86 hf
  have c86 : Try.prog.cellsOf 86 = 5 := by kernel_rfl
  have c82 : Try.prog.cellsOf 82 = 2 := by kernel_rfl
  have c5 : Try.prog.cellsOf 5 = 1 := by kernel_rfl
  rw [c86] at h2 hcl
  obtain ⟨l⟩ := cs
  obtain ⟨v0, v1, v2, v3, v4, rfl⟩ := list_five (show l.length = 5 from h2)
  obtain ⟨y0, y1, y2, y3, rfl⟩ := list_four (show xs.length = 4 from hxl)
  have g0 : DataW.trod enc Try.prog w base spare held m 82 (([v0, v1, v2, v3, v4].drop 0).take (Try.prog.cellsOf 82)) = some y0 := hg 0 _ rfl
  have g1 : DataW.trod enc Try.prog w base spare held m 5 (([v0, v1, v2, v3, v4].drop 2).take (Try.prog.cellsOf 5)) = some y1 := hg 1 _ rfl
  have g2 : DataW.trod enc Try.prog w base spare held m 5 (([v0, v1, v2, v3, v4].drop 3).take (Try.prog.cellsOf 5)) = some y2 := hg 2 _ rfl
  have g3 : DataW.trod enc Try.prog w base spare held m 5 (([v0, v1, v2, v3, v4].drop 4).take (Try.prog.cellsOf 5)) = some y3 := hg 3 _ rfl
  rw [c82] at g0
  rw [c5] at g1 g2 g3
  obtain ⟨a, b, e, wa, wb⟩ := pair_u8 (show DataW.trod enc Try.prog w base spare held m 82 [v0, v1] = some y0 from g0)
  injection e with e0 e
  injection e with e1 _
  subst e0 e1
  obtain ⟨c, rfl, wc⟩ := byte_of (show DataW.trod enc Try.prog w base spare held m 5 [v2] = some y1 from g1)
  obtain ⟨e, rfl, we⟩ := byte_of (show DataW.trod enc Try.prog w base spare held m 5 [v3] = some y2 from g2)
  obtain ⟨f, rfl, wf⟩ := byte_of (show DataW.trod enc Try.prog w base spare held m 5 [v4] = some y3 from g3)
  exact ⟨a, b, c, e, f, rfl, wa, wb, wc, we, wf⟩
end
end Go.Proofs.Ytegffliopblajaa.P
end
section
namespace Go.Proofs.Ytegffliopblajaa.P
open Go.RowKit Go.Proofs.YtegffliopblajaaW.PrintWords Go.Proofs.YtegffliopblajaaW.PrintLast Go.Proofs.YtegffliopblajaaW.PrintMore
attribute [local go_sem] max2_int min2_int max_two min_two max_three min_three max_four min_four
set_option linter.unusedVariables false
set_option linter.unusedSimpArgs false
attribute [local go_sem high] eqA47
def pianolalaw03_Sheet_made.f (a0_0 : Int) (a0_1 : Int) (a0_2 : Int) (a0_3 : Int) (a0_4 : Int) : Option (Int × Int × Int × Int × Int) := some (wrap64 (900 + (Int.tmod (wrap64 (a0_0)) 150)), wrap64 ((wrap64 (900 + (Int.tmod (wrap64 (a0_0)) 150))) + (Int.tmod (wrap64 (a0_1)) 50)), wrap64 (1 + (Int.tmod (wrap64 (a0_2)) 12)), wrap64 (1 + (Int.tmod (wrap64 (a0_3)) 6)), wrap64 (1 + (Int.tmod (wrap64 (a0_4)) 14)))
set_option maxHeartbeats 8000000 in
set_option maxRecDepth 100000 in
theorem pianolalaw03_Sheet_made.calls (a0_0 : Int) (a0_1 : Int) (a0_2 : Int) (a0_3 : Int) (a0_4 : Int) (r1 : Int) (r2 : Int) (r3 : Int) (r4 : Int) (r5 : Int) (w : World) (h : pianolalaw03_Sheet_made.f a0_0 a0_1 a0_2 a0_3 a0_4 = some (r1, r2, r3, r4, r5)) :
  Calls Try.prog 42 #[.agg #[.int .u8 a0_0, .int .u8 a0_1, .int .u8 a0_2, .int .u8 a0_3, .int .u8 a0_4]] w fun e w' => e = .returned (.agg #[.int .i64 r1, .int .i64 r2, .int .i64 r3, .int .i64 r4, .int .i64 r5]) ∧ Below w.heap.size w w' := by
 have hu86 := Try.underlying86
 have hu57 := Try.underlying57
 have hu55 := Try.underlying55
 have HB := zA (Below.refl w.heap.size w)
 have H : (some (wrap64 (900 + (Int.tmod (wrap64 (a0_0)) 150)), wrap64 ((wrap64 (900 + (Int.tmod (wrap64 (a0_0)) 150))) + (Int.tmod (wrap64 (a0_1)) 50)), wrap64 (1 + (Int.tmod (wrap64 (a0_2)) 12)), wrap64 (1 + (Int.tmod (wrap64 (a0_3)) 6)), wrap64 (1 + (Int.tmod (wrap64 (a0_4)) 14)))) = some (r1, r2, r3, r4, r5) := h
 clear h
 simp only [Option.some.injEq, Prod.mk.injEq] at H
 obtain ⟨rfl, rfl, rfl, rfl, rfl⟩ := H
 go_enter Try.func42, Try.ntmps42
 go_wp2_with (first | ((with_reducible refine gate_dst (N := 1) rfl ?_); refine box_event ?hg (N := 1) ?hd (cs := #[.int .u8 a0_0, .int .u8 a0_1, .int .u8 a0_2, .int .u8 a0_3, .int .u8 a0_4]) (t := 86) ?hr ?_; (case hd => rfl); (case hg => rfl); (case hr => first | (go_simp; done) | (go_simp; rfl)); intro gb587 hg w2 hbox hb; have n0_ := zA (below_step (zqA HB.out) hb); have n1_ := zA (hbox); have n2_ := zA ((by rw [hg]; exact (below_size (zqA HB.out)) : w.heap.size ≤ gb587)); have n3_ := zA ((by rw [hg]; exact (below_size (zqA HB.out)) : w.heap.size ≤ gb587)); clear HB; have HB := n0_; have BK587 := n1_; have GW587 := n2_; have GE587 := n3_; clear n0_ n1_ n2_ n3_; clear hb hbox hg) | ((with_reducible refine gate_dst (N := 2) rfl ?_); refine box_event ?hg (N := 2) ?hd (cs := #[.int .i64 0, .int .i64 0, .int .i64 0, .int .i64 0, .int .i64 0]) (t := 57) ?hr ?_; (case hd => rfl); (case hg => rfl); (case hr => first | (go_simp; done) | (go_simp; rfl)); intro gb588 hg w3 hbox hb; have n0_ := zA (blk_below (g := gb587) (o := .cells #[.int .u8 a0_0, .int .u8 a0_1, .int .u8 a0_2, .int .u8 a0_3, .int .u8 a0_4] 86 (0, 0)) (zqB BK587.out) hb); have n1_ := zA (below_step (zqG HB.out GE587.out) hb); have n2_ := zA (hbox); have n3_ := zA ((by rw [hg]; exact (below_size (zqG HB.out GE587.out)) : w.heap.size ≤ gb588)); have n4_ := zA ((by rw [hg]; exact (below_size (zqG HB.out GE587.out)) : w.heap.size ≤ gb588)); have n5_ := zA ((by rw [hg]; exact Nat.ne_of_lt (blk_lt (g := gb587) (o := .cells #[.int .u8 a0_0, .int .u8 a0_1, .int .u8 a0_2, .int .u8 a0_3, .int .u8 a0_4] 86 (0, 0)) (zqB BK587.out)) : gb587 ≠ gb588)); have n6_ := zA ((by rw [hg]; exact Nat.ne_of_gt (blk_lt (g := gb587) (o := .cells #[.int .u8 a0_0, .int .u8 a0_1, .int .u8 a0_2, .int .u8 a0_3, .int .u8 a0_4] 86 (0, 0)) (zqB BK587.out)) : gb588 ≠ gb587)); clear BK587; clear HB; have BK587 := n0_; have HB := n1_; have BK588 := n2_; have GW588 := n3_; have GE588 := n4_; have NB587_588 := n5_; have NB588_587 := n6_; clear n0_ n1_ n2_ n3_ n4_ n5_ n6_; clear hb hbox hg; have hnb4 := NB587_588.out; have hnc4 := NB588_587.out; have hcz5_0 : w3.cell? ⟨gb587, 0, none⟩ = some (.int .u8 a0_0) := (blk_cell BK587.out 0).trans rfl; have hcz5_1 : w3.cell? ⟨gb587, 1, none⟩ = some (.int .u8 a0_1) := (blk_cell BK587.out 1).trans rfl; have hcz5_2 : w3.cell? ⟨gb587, 2, none⟩ = some (.int .u8 a0_2) := (blk_cell BK587.out 2).trans rfl; have hcz5_3 : w3.cell? ⟨gb587, 3, none⟩ = some (.int .u8 a0_3) := (blk_cell BK587.out 3).trans rfl; have hcz5_4 : w3.cell? ⟨gb587, 4, none⟩ = some (.int .u8 a0_4) := (blk_cell BK587.out 4).trans rfl; have hfz5_0 := blk_frozen BK587.out 0; have hfz5_1 := blk_frozen BK587.out 1; have hfz5_2 := blk_frozen BK587.out 2; have hfz5_3 := blk_frozen BK587.out 3; have hfz5_4 := blk_frozen BK587.out 4; have hcz6_0 : w3.cell? ⟨gb588, 0, none⟩ = some (.int .i64 0) := (blk_cell BK588.out 0).trans rfl; have hcz6_1 : w3.cell? ⟨gb588, 1, none⟩ = some (.int .i64 0) := (blk_cell BK588.out 1).trans rfl; have hcz6_2 : w3.cell? ⟨gb588, 2, none⟩ = some (.int .i64 0) := (blk_cell BK588.out 2).trans rfl; have hcz6_3 : w3.cell? ⟨gb588, 3, none⟩ = some (.int .i64 0) := (blk_cell BK588.out 3).trans rfl; have hcz6_4 : w3.cell? ⟨gb588, 4, none⟩ = some (.int .i64 0) := (blk_cell BK588.out 4).trans rfl; have hfz6_0 := blk_frozen BK588.out 0; have hfz6_1 := blk_frozen BK588.out 1; have hfz6_2 := blk_frozen BK588.out 2; have hfz6_3 := blk_frozen BK588.out 3; have hfz6_4 := blk_frozen BK588.out 4))
 refine bodyPost_ret (results_cell_row rfl _ _ gb588 57 #[.int .i64 (wrap64 (900 + (Int.tmod (wrap64 (a0_0)) 150))), .int .i64 (wrap64 ((wrap64 (900 + (Int.tmod (wrap64 (a0_0)) 150))) + (Int.tmod (wrap64 (a0_1)) 50))), .int .i64 (wrap64 (1 + (Int.tmod (wrap64 (a0_2)) 12))), .int .i64 (wrap64 (1 + (Int.tmod (wrap64 (a0_3)) 6))), .int .i64 (wrap64 (1 + (Int.tmod (wrap64 (a0_4)) 14)))] (0, 0) _ rfl (by (with_reducible repeat (first | refine blk_drewN ?_ _ | refine blk_drew ?_ | refine blk_alloc ?_ _)); refine blk_put (cs := #[.int .i64 (wrap64 (900 + (Int.tmod (wrap64 (a0_0)) 150))), .int .i64 (wrap64 ((wrap64 (900 + (Int.tmod (wrap64 (a0_0)) 150))) + (Int.tmod (wrap64 (a0_1)) 50))), .int .i64 (wrap64 (1 + (Int.tmod (wrap64 (a0_2)) 12))), .int .i64 (wrap64 (1 + (Int.tmod (wrap64 (a0_3)) 6))), .int .i64 0]) ?_ 4 _ rfl; (with_reducible repeat (first | refine blk_drewN ?_ _ | refine blk_drew ?_ | refine blk_alloc ?_ _)); refine blk_put (cs := #[.int .i64 (wrap64 (900 + (Int.tmod (wrap64 (a0_0)) 150))), .int .i64 (wrap64 ((wrap64 (900 + (Int.tmod (wrap64 (a0_0)) 150))) + (Int.tmod (wrap64 (a0_1)) 50))), .int .i64 (wrap64 (1 + (Int.tmod (wrap64 (a0_2)) 12))), .int .i64 0, .int .i64 0]) ?_ 3 _ rfl; (with_reducible repeat (first | refine blk_drewN ?_ _ | refine blk_drew ?_ | refine blk_alloc ?_ _)); refine blk_put (cs := #[.int .i64 (wrap64 (900 + (Int.tmod (wrap64 (a0_0)) 150))), .int .i64 (wrap64 ((wrap64 (900 + (Int.tmod (wrap64 (a0_0)) 150))) + (Int.tmod (wrap64 (a0_1)) 50))), .int .i64 0, .int .i64 0, .int .i64 0]) ?_ 2 _ rfl; (with_reducible repeat (first | refine blk_drewN ?_ _ | refine blk_drew ?_ | refine blk_alloc ?_ _)); refine blk_put (cs := #[.int .i64 (wrap64 (900 + (Int.tmod (wrap64 (a0_0)) 150))), .int .i64 0, .int .i64 0, .int .i64 0, .int .i64 0]) ?_ 1 _ rfl; (with_reducible repeat (first | refine blk_drewN ?_ _ | refine blk_drew ?_ | refine blk_alloc ?_ _)); refine blk_put (cs := #[.int .i64 0, .int .i64 0, .int .i64 0, .int .i64 0, .int .i64 0]) ?_ 0 _ rfl; (with_reducible repeat (first | refine blk_drewN ?_ _ | refine blk_drew ?_ | refine blk_alloc ?_ _)); exact BK588.out) Try.underlying57 rfl (by kernel_rfl)) rfl ?_
 exact ⟨zqR, zqH HB.out GE587.out GE588.out⟩
end Go.Proofs.Ytegffliopblajaa.P
end
section
namespace Go.Proofs.Ytegffliopblajaa.P
open Go.RowKit Go.Proofs.YtegffliopblajaaW.PrintWords Go.Proofs.YtegffliopblajaaW.PrintLast Go.Proofs.YtegffliopblajaaW.PrintMore
set_option linter.unusedVariables false
set_option linter.unusedSimpArgs false
def zb (n m : Nat) : Array Bool := ((List.range n).map fun i => Nat.testBit m i).toArray
theorem goesC_ {P : Program} {ops : Array Oper} {Q : Exit → Act → World → Prop} {oi : Oper} {N : Option Tmp} {a : Act} {w : World} {K : Act → World → Prop} {f : FuncId} {fn : Func} {t : Operand} {xs : Array Operand} {ts : Array TypeId} (cap : Array Value) (ht : a.eval t = .func (.func f) #[] cap) (hf : P.funcs[f]? = some fn) (hname : (fn.name == "runtime.NumGoroutine") = false) (hb : fn.body.isSome = true) (args : Array Value)
    (hw : Region.wanted oi (yielded ops a.tmps) = true) (hN : oi.dst = N) (hop : oi.op = .call { callee := .value t, args := xs, argTypes := ts }) (hargs : xs.map a.eval = args)
    (h : Calls P f (args ++ cap) w fun e w' => ∃ v, e = .returned v ∧ K (a.put N v) w') : if Region.wanted oi (yielded ops a.tmps) = true then Oper.wp P oi a w K Q else K (a.put N undef) w := by
  refine call_ f (args ++ cap) hw hN ?_ h
  have he := enters_ hf hname hb (args ++ cap) w
  unfold execOp
  simp [hop, resolve, Deferred.ofValue, invoke, ht, hargs, he]
def days_hole.f (n g a b c d e : Int) : Option Bool := some (decide (n ≥ 1) && decide (wrap64 (n * g) ≤ wrap64 (1000 * c)))
def days_bridge.f (n g a b c d e : Int) : Option Bool := some ((decide (n ≥ 1) && decide (wrap64 (n * g) ≥ wrap64 (1000 * d))) && decide (wrap64 (n * g) < wrap64 (1000 * e)))
set_option maxHeartbeats 2000000 in
set_option maxRecDepth 100000 in
theorem days_hole.calls (n g a b c d e : Int) (r : Bool) (gb : Nat) (w : World) (hb : w.heap[gb]? = some (.cells #[.int .i64 a, .int .i64 b, .int .i64 c, .int .i64 d, .int .i64 e] 57 (0, 0))) (h : days_hole.f n g a b c d e = some r) :
    Calls Try.prog 43 #[.int .i64 n, .int .i64 g, .pointer (some ⟨gb, 0, none⟩)] w fun e w' => e = .returned (.bool r) ∧ Below w.heap.size w w' := by
  have hu57 := Try.underlying57
  have c2 : w.cell? ⟨gb, 2, none⟩ = some (.int .i64 c) := (blk_cell hb 2).trans rfl
  unfold days_hole.f at h
  injection h with h
  subst h
  by_cases d1 : n ≥ 1
  · have d0 := decide_eq_true d1
    by_cases d2 : wrap64 (n * g) ≤ wrap64 (1000 * c)
    · have d3 := decide_eq_true d2
      rw [d0, d3]
      go_enter Try.func43, Try.ntmps43
      go_wp2
      go_ret
      exact ⟨by simp, Below.refl _ _⟩
    · have d3 := decide_eq_false d2
      rw [d0, d3]
      go_enter Try.func43, Try.ntmps43
      go_wp2
      go_ret
      exact ⟨by simp, Below.refl _ _⟩
  · have d0 := decide_eq_false d1
    rw [d0]
    go_enter Try.func43, Try.ntmps43
    go_wp2
    go_ret
    exact ⟨by simp, Below.refl _ _⟩
set_option maxHeartbeats 2000000 in
set_option maxRecDepth 100000 in
theorem days_bridge.calls (n g a b c d e : Int) (r : Bool) (gb : Nat) (w : World) (hb : w.heap[gb]? = some (.cells #[.int .i64 a, .int .i64 b, .int .i64 c, .int .i64 d, .int .i64 e] 57 (0, 0))) (h : days_bridge.f n g a b c d e = some r) :
    Calls Try.prog 44 #[.int .i64 n, .int .i64 g, .pointer (some ⟨gb, 0, none⟩)] w fun e w' => e = .returned (.bool r) ∧ Below w.heap.size w w' := by
  have hu57 := Try.underlying57
  have c3 : w.cell? ⟨gb, 3, none⟩ = some (.int .i64 d) := (blk_cell hb 3).trans rfl
  have c4 : w.cell? ⟨gb, 4, none⟩ = some (.int .i64 e) := (blk_cell hb 4).trans rfl
  unfold days_bridge.f at h
  injection h with h
  subst h
  by_cases d1 : n ≥ 1
  · have d0 := decide_eq_true d1
    by_cases d2 : wrap64 (n * g) ≥ wrap64 (1000 * d)
    · have d3 := decide_eq_true d2
      by_cases d4 : wrap64 (n * g) < wrap64 (1000 * e)
      · have d5 := decide_eq_true d4
        rw [d0, d3, d5]
        go_enter Try.func44, Try.ntmps44
        go_wp2
        go_ret
        exact ⟨by simp, Below.refl _ _⟩
      · have d5 := decide_eq_false d4
        rw [d0, d3, d5]
        go_enter Try.func44, Try.ntmps44
        go_wp2
        go_ret
        exact ⟨by simp, Below.refl _ _⟩
    · have d3 := decide_eq_false d2
      rw [d0, d3]
      go_enter Try.func44, Try.ntmps44
      go_wp2
      go_ret
      exact ⟨by simp, Below.refl _ _⟩
  · have d0 := decide_eq_false d1
    rw [d0]
    go_enter Try.func44, Try.ntmps44
    go_wp2
    go_ret
    exact ⟨by simp, Below.refl _ _⟩
theorem days_hole.callsC (n g a b c d e : Int) (r : Bool) (gb : Nat) (w : World) (hb : w.heap[gb]? = some (.cells #[.int .i64 a, .int .i64 b, .int .i64 c, .int .i64 d, .int .i64 e] 57 (0, 0))) (h : days_hole.f n g a b c d e = some r) :
    Calls Try.prog 43 (#[.int .i64 n, .int .i64 g] ++ #[.pointer (some ⟨gb, 0, none⟩)]) w fun e w' => e = .returned (.bool r) ∧ Below w.heap.size w w' := days_hole.calls n g a b c d e r gb w hb h
theorem days_bridge.callsC (n g a b c d e : Int) (r : Bool) (gb : Nat) (w : World) (hb : w.heap[gb]? = some (.cells #[.int .i64 a, .int .i64 b, .int .i64 c, .int .i64 d, .int .i64 e] 57 (0, 0))) (h : days_bridge.f n g a b c d e = some r) :
    Calls Try.prog 44 (#[.int .i64 n, .int .i64 g] ++ #[.pointer (some ⟨gb, 0, none⟩)]) w fun e w' => e = .returned (.bool r) ∧ Below w.heap.size w w' := days_bridge.calls n g a b c d e r gb w hb h
end Go.Proofs.Ytegffliopblajaa.P
end
section
namespace Go.Proofs.Ytegffliopblajaa.P
open Go.RowKit Go.Proofs.YtegffliopblajaaW.PrintWords Go.Proofs.YtegffliopblajaaW.PrintLast Go.Proofs.YtegffliopblajaaW.PrintMore
attribute [local go_sem] max2_int min2_int max_two min_two max_three min_three max_four min_four
set_option linter.unusedVariables false
set_option linter.unusedSimpArgs false
mutual
def pianolalaw03_PunchDays.l0 : Nat → Int → Int → Int → Int → Bool → Int → Int → Int → Int → Int → Int → Int → Int → Int → Int → Option (Bool)
  | 0, _, _, _, _, _, _, _, _, _, _, _, _, _, _, _ => none
  | k + 1, x1, x2, x10, x13, x16, x17, x156000, x156001, x156002, x156003, x156004, x162000, x162001, x163000, x163001 => if x17 < 40 then ((days_hole.f x17 x156000 x156000 x156001 x156002 x156003 x156004).bind fun t163 => (if t163 = true then ((days_hole.f x17 x156001 x156000 x156001 x156002 x156003 x156004).bind fun t164 => ((days_bridge.f x17 x156000 x156000 x156001 x156002 x156003 x156004).bind fun t165 => (if t165 = true then ((days_bridge.f x17 x156001 x156000 x156001 x156002 x156003 x156004).bind fun t166 => (pianolalaw03_PunchDays.j1 k x1 x2 x10 x13 x16 x17 t164 t166 x156000 x156001 x156002 x156003 x156004 x162000 x162001 x163000 x163001)) else (pianolalaw03_PunchDays.j1 k x1 x2 x10 x13 x16 x17 t164 false x156000 x156001 x156002 x156003 x156004 x162000 x162001 x163000 x163001)))) else ((days_bridge.f x17 x156000 x156000 x156001 x156002 x156003 x156004).bind fun t167 => (if t167 = true then ((days_bridge.f x17 x156001 x156000 x156001 x156002 x156003 x156004).bind fun t168 => (pianolalaw03_PunchDays.j1 k x1 x2 x10 x13 x16 x17 false t168 x156000 x156001 x156002 x156003 x156004 x162000 x162001 x163000 x163001)) else (pianolalaw03_PunchDays.j1 k x1 x2 x10 x13 x16 x17 false false x156000 x156001 x156002 x156003 x156004 x162000 x162001 x163000 x163001))))) else (if x16 = true then ((punch_Bridge.f k x156000 x156001 x156002 x156003 x156004 (wrap64 (x1)) (wrap64 ((wrap64 ((wrap64 (x1)) + 1)) + (Int.tmod (wrap64 (x2)) 60)))).bind fun bt174 => (if x13 = 0 then (if bt174.2 = 0 then (pianolalaw03_PunchDays.j4 k x10 bt174.1 bt174.2 false x156000 x156001 x156002 x156003 x156004 (wrap64 (x1)) (wrap64 ((wrap64 ((wrap64 (x1)) + 1)) + (Int.tmod (wrap64 (x2)) 60)))) else (pianolalaw03_PunchDays.j4 k x10 bt174.1 bt174.2 (bt174.2 != 20) x156000 x156001 x156002 x156003 x156004 (wrap64 (x1)) (wrap64 ((wrap64 ((wrap64 (x1)) + 1)) + (Int.tmod (wrap64 (x2)) 60))))) else (pianolalaw03_PunchDays.j4 k x10 bt174.1 bt174.2 true x156000 x156001 x156002 x156003 x156004 (wrap64 (x1)) (wrap64 ((wrap64 ((wrap64 (x1)) + 1)) + (Int.tmod (wrap64 (x2)) 60)))))) else (if x13 = 20 then ((pianolalaw03_works.f).bind fun t172 => (some t172)) else (some false)))
def pianolalaw03_PunchDays.j1 : Nat → Int → Int → Int → Int → Bool → Int → Bool → Bool → Int → Int → Int → Int → Int → Int → Int → Int → Int → Option (Bool)
  | 0, _, _, _, _, _, _, _, _, _, _, _, _, _, _, _, _, _ => none
  | k + 1, x1, x2, x10, x13, x16, x17, x18, x19, x156000, x156001, x156002, x156003, x156004, x162000, x162001, x163000, x163001 => if x16 = true then (pianolalaw03_PunchDays.j2 k x1 x2 x10 x13 true x17 x18 x19 x156000 x156001 x156002 x156003 x156004 x162000 x162001 x163000 x163001) else (pianolalaw03_PunchDays.j2 k x1 x2 x10 x13 x18 x17 x18 x19 x156000 x156001 x156002 x156003 x156004 x162000 x162001 x163000 x163001)
def pianolalaw03_PunchDays.j2 : Nat → Int → Int → Int → Int → Bool → Int → Bool → Bool → Int → Int → Int → Int → Int → Int → Int → Int → Int → Option (Bool)
  | 0, _, _, _, _, _, _, _, _, _, _, _, _, _, _, _, _, _ => none
  | k + 1, x1, x2, x10, x13, x16, x17, x18, x19, x156000, x156001, x156002, x156003, x156004, x162000, x162001, x163000, x163001 => if x13 = 0 then (if x17 ≥ 1 then (if x17 ≥ x162000 then (if (x18 != (decide (x17 ≤ x162001))) = true then (pianolalaw03_PunchDays.j3 k x1 x2 x10 x13 x16 x17 x18 x19 true x156000 x156001 x156002 x156003 x156004 x162000 x162001 x163000 x163001) else (if x17 ≥ x163000 then (pianolalaw03_PunchDays.j3 k x1 x2 x10 x13 x16 x17 x18 x19 (x19 != (decide (x17 ≤ x163001))) x156000 x156001 x156002 x156003 x156004 x162000 x162001 x163000 x163001) else (pianolalaw03_PunchDays.j3 k x1 x2 x10 x13 x16 x17 x18 x19 (x19 != false) x156000 x156001 x156002 x156003 x156004 x162000 x162001 x163000 x163001))) else (if (x18 != false) = true then (pianolalaw03_PunchDays.j3 k x1 x2 x10 x13 x16 x17 x18 x19 true x156000 x156001 x156002 x156003 x156004 x162000 x162001 x163000 x163001) else (if x17 ≥ x163000 then (pianolalaw03_PunchDays.j3 k x1 x2 x10 x13 x16 x17 x18 x19 (x19 != (decide (x17 ≤ x163001))) x156000 x156001 x156002 x156003 x156004 x162000 x162001 x163000 x163001) else (pianolalaw03_PunchDays.j3 k x1 x2 x10 x13 x16 x17 x18 x19 (x19 != false) x156000 x156001 x156002 x156003 x156004 x162000 x162001 x163000 x163001)))) else (if (x18 != false) = true then (pianolalaw03_PunchDays.j3 k x1 x2 x10 x13 x16 x17 x18 x19 true x156000 x156001 x156002 x156003 x156004 x162000 x162001 x163000 x163001) else (pianolalaw03_PunchDays.j3 k x1 x2 x10 x13 x16 x17 x18 x19 (x19 != false) x156000 x156001 x156002 x156003 x156004 x162000 x162001 x163000 x163001))) else (pianolalaw03_PunchDays.j3 k x1 x2 x10 x13 x16 x17 x18 x19 false x156000 x156001 x156002 x156003 x156004 x162000 x162001 x163000 x163001)
def pianolalaw03_PunchDays.j3 : Nat → Int → Int → Int → Int → Bool → Int → Bool → Bool → Bool → Int → Int → Int → Int → Int → Int → Int → Int → Int → Option (Bool)
  | 0, _, _, _, _, _, _, _, _, _, _, _, _, _, _, _, _, _, _ => none
  | k + 1, x1, x2, x10, x13, x16, x17, x18, x19, x123, x156000, x156001, x156002, x156003, x156004, x162000, x162001, x163000, x163001 => if x123 = true then (some false) else (if x18 = true then ((days_hole.f x17 x10 x156000 x156001 x156002 x156003 x156004).bind fun t169 => (if t169 = true then (if x19 = true then ((days_bridge.f x17 x10 x156000 x156001 x156002 x156003 x156004).bind fun t170 => (if t170 = true then (pianolalaw03_PunchDays.l0 k x1 x2 x10 x13 x16 (wrap64 (x17 + 1)) x156000 x156001 x156002 x156003 x156004 x162000 x162001 x163000 x163001) else (some false))) else (pianolalaw03_PunchDays.l0 k x1 x2 x10 x13 x16 (wrap64 (x17 + 1)) x156000 x156001 x156002 x156003 x156004 x162000 x162001 x163000 x163001)) else (some false))) else (if x19 = true then ((days_bridge.f x17 x10 x156000 x156001 x156002 x156003 x156004).bind fun t171 => (if t171 = true then (pianolalaw03_PunchDays.l0 k x1 x2 x10 x13 x16 (wrap64 (x17 + 1)) x156000 x156001 x156002 x156003 x156004 x162000 x162001 x163000 x163001) else (some false))) else (pianolalaw03_PunchDays.l0 k x1 x2 x10 x13 x16 (wrap64 (x17 + 1)) x156000 x156001 x156002 x156003 x156004 x162000 x162001 x163000 x163001)))
def pianolalaw03_PunchDays.j4 : Nat → Int → List (S47) → Int → Bool → Int → Int → Int → Int → Int → Int → Int → Option (Bool)
  | 0, _, _, _, _, _, _, _, _, _, _, _ => none
  | k + 1, x10, x21, x22, x174, x156000, x156001, x156002, x156003, x156004, x174000, x174001 => if x174 = true then (some false) else (if x22 = 20 then (if (x21.length : Int) = 0 then ((pianolalaw03_works.f).bind fun t178 => (some t178)) else (some false)) else (if (x21.length : Int) = 0 then (pianolalaw03_PunchDays.j5 k x10 x21 true x156000 x156001 x156002 x156003 x156004) else (if 0 < (x21.length : Int) then (if ((rd_T47 x21 0).f0) = x174000 then (if 0 ≤ (wrap64 ((x21.length : Int) - 1)) then (if (wrap64 ((x21.length : Int) - 1)) < (x21.length : Int) then (if ((rd_T47 x21 (wrap64 ((x21.length : Int) - 1))).f1) = x174001 then ((punch_Holds.f k x156000 x156001 x156002 x156003 x156004 x174000 x174001 x21).bind fun t181 => (pianolalaw03_PunchDays.j5 k x10 x21 (t181 != 0) x156000 x156001 x156002 x156003 x156004)) else (pianolalaw03_PunchDays.j5 k x10 x21 true x156000 x156001 x156002 x156003 x156004)) else (none)) else (none)) else (pianolalaw03_PunchDays.j5 k x10 x21 true x156000 x156001 x156002 x156003 x156004)) else (none))))
def pianolalaw03_PunchDays.j5 : Nat → Int → List (S47) → Bool → Int → Int → Int → Int → Int → Option (Bool)
  | 0, _, _, _, _, _, _, _, _ => none
  | k + 1, x10, x21, x213, x156000, x156001, x156002, x156003, x156004 => if x213 = true then (some false) else (pianolalaw03_PunchDays.l1 k x10 x21 x21 (x21.length : Int) 0 x156000 x156001 x156002 x156003 x156004)
def pianolalaw03_PunchDays.l1 : Nat → Int → List (S47) → List (S47) → Int → Int → Int → Int → Int → Int → Int → Option (Bool)
  | 0, _, _, _, _, _, _, _, _, _, _ => none
  | k + 1, x10, x21, x214, x215, x216, x156000, x156001, x156002, x156003, x156004 => if x216 < x215 then (if 0 ≤ x216 then (if x216 < (x214.length : Int) then ((days_hole.f (wrap64 (((rd_T47 x214 x216).f1) - ((rd_T47 x214 x216).f0))) x10 x156000 x156001 x156002 x156003 x156004).bind fun t185 => (if t185 = true then (if x216 > 0 then (if 0 ≤ (wrap64 (x216 - 1)) then (if (wrap64 (x216 - 1)) < (x21.length : Int) then ((days_bridge.f (wrap64 (((rd_T47 x214 x216).f0) - ((rd_T47 x21 (wrap64 (x216 - 1))).f1))) x10 x156000 x156001 x156002 x156003 x156004).bind fun t187 => (if t187 = true then (pianolalaw03_PunchDays.l1 k x10 x21 x214 x215 (wrap64 (x216 + 1)) x156000 x156001 x156002 x156003 x156004) else (some false))) else (none)) else (none)) else (pianolalaw03_PunchDays.l1 k x10 x21 x214 x215 (wrap64 (x216 + 1)) x156000 x156001 x156002 x156003 x156004)) else (some false))) else (none)) else (none)) else ((pianolalaw03_works.f).bind fun t182 => (some t182))
end
def pianolalaw03_PunchDays.f (k : Nat) (a0_0 : Int) (a0_1 : Int) (a0_2 : Int) (a0_3 : Int) (a0_4 : Int) (a1 : Int) (a2 : Int) (a3 : Int) : Option (Bool) := (pianolalaw03_Sheet_made.f a0_0 a0_1 a0_2 a0_3 a0_4).bind fun bt150 => (if (wrap64 ((wrap64 (bt150.2.1 - bt150.1)) + 1)) = 0 then (none) else ((punch_Bars.f bt150.1 bt150.2.1 bt150.2.2.1 bt150.2.2.2.1 bt150.2.2.2.2).bind fun bt156 => (pianolalaw03_PunchDays.l0 k a1 a2 (wrap64 (bt150.1 + (Int.tmod (wrap64 (a3)) (wrap64 ((wrap64 (bt150.2.1 - bt150.1)) + 1))))) bt156.2.2.2.2 false 0 bt150.1 bt150.2.1 bt150.2.2.1 bt150.2.2.2.1 bt150.2.2.2.2 bt156.1 bt156.2.1 bt156.2.2.1 bt156.2.2.2.1)))
def pianolalaw03_PunchDays.T2 : Bool × List (List Nat × List Nat) := (true, [([], []), ([0], [0]), ([1], [1]), ([], []), ([3], [3]), ([], []), ([5], [5]), ([6], [6]), ([], []), ([8], [8]), ([9], [9]), ([7, 10], [7, 10]), ([11], [11]), ([4, 12], [4, 12]), ([2, 13], [2, 13]), ([14, 0, 1, 2, 3, 4, 5, 6, 7, 8, 9, 10, 11, 12, 13, 14], [14])])
def pianolalaw03_PunchDays.B2 : List Nat := [0, 1, 3, 0, 8, 0, 32, 96, 0, 256, 768, 2016, 4064, 8184, 16383, 32767]
theorem pianolalaw03_PunchDays.tab2 : rtab .any (opsOf Try.f12 2) = pianolalaw03_PunchDays.T2 := by kernel_rfl
theorem pianolalaw03_PunchDays.bits2 : waitsOk pianolalaw03_PunchDays.T2.2 pianolalaw03_PunchDays.B2 = true := by kernel_rfl
def pianolalaw03_PunchDays.T10 : Bool × List (List Nat × List Nat) := (true, [([], []), ([], []), ([], []), ([2], [2]), ([3], [3]), ([0, 1, 4], [0, 1, 4]), ([5, 5], [5]), ([6], [6]), ([6], [6]), ([6], [6]), ([9, 6], [6, 9]), ([10, 6], [6, 10]), ([7, 8, 11, 6, 6], [6, 7, 8, 11]), ([6, 12], [6, 12]), ([], []), ([], []), ([], []), ([16], [16]), ([17], [17]), ([14, 15, 18, 12], [14, 15, 18]), ([19, 19], [19]), ([20], [20]), ([20], [20]), ([20], [20]), ([23, 20], [20, 23]), ([24, 20], [20, 24]), ([21, 22, 25, 20, 20], [20, 21, 22, 25]), ([20, 26], [20, 26]), ([13, 26, 0, 1, 2, 3, 4, 5, 6, 7, 8, 9, 10, 11, 12, 13], [13]), ([27, 28, 0, 1, 2, 3, 4, 5, 6, 7, 8, 9, 10, 11, 12, 13, 14, 15, 16, 17, 18, 19, 20, 21, 22, 23, 24, 25, 26, 27, 28], [27])])
def pianolalaw03_PunchDays.B10 : List Nat := [0, 0, 0, 4, 12, 31, 63, 127, 127, 127, 639, 1663, 4095, 8191, 0, 0, 0, 65536, 196608, 516095, 1040383, 2088959, 2088959, 2088959, 10477567, 27254783, 67100671, 134209535, 134217727, 536870911]
theorem pianolalaw03_PunchDays.tab10 : rtab .any (opsOf Try.f12 10) = pianolalaw03_PunchDays.T10 := by kernel_rfl
theorem pianolalaw03_PunchDays.bits10 : waitsOk pianolalaw03_PunchDays.T10.2 pianolalaw03_PunchDays.B10 = true := by kernel_rfl
def pianolalaw03_PunchDays.T24 : Bool × List (List Nat × List Nat) := (true, [([], []), ([0], [0]), ([1], [1]), ([2], [2]), ([3], [3]), ([4, 3], [3, 4]), ([5, 3], [3, 5]), ([6, 3], [3, 6]), ([3], [3]), ([8, 3], [3, 8]), ([7, 9, 3], [3, 7, 9]), ([3, 10], [3, 10]), ([11, 3], [11]), ([12], [12]), ([12], [12]), ([14, 12], [12, 14]), ([15, 12], [12, 15]), ([13, 16, 12], [12, 13, 16]), ([17, 12], [12, 17]), ([18, 12], [12, 18]), ([12], [12]), ([20, 12], [12, 20]), ([19, 21, 12], [12, 19, 21]), ([12, 22], [12, 22]), ([23, 12], [23]), ([24], [24]), ([24], [24]), ([24], [24]), ([25, 26, 27, 24, 24], [24, 25, 26, 27]), ([28, 24], [24, 28]), ([24, 29], [24, 29])])
def pianolalaw03_PunchDays.B24 : List Nat := [0, 1, 3, 7, 15, 31, 63, 127, 15, 271, 1023, 2047, 4095, 8191, 8191, 24575, 57343, 131071, 262143, 524287, 8191, 1056767, 4194303, 8388607, 16777215, 33554431, 33554431, 33554431, 268435455, 536870911, 1073741823]
theorem pianolalaw03_PunchDays.tab24 : rtab .any (opsOf Try.f12 24) = pianolalaw03_PunchDays.T24 := by kernel_rfl
theorem pianolalaw03_PunchDays.bits24 : waitsOk pianolalaw03_PunchDays.T24.2 pianolalaw03_PunchDays.B24 = true := by kernel_rfl
def pianolalaw03_PunchDays.T29 : Bool × List (List Nat × List Nat) := (true, [([], []), ([], []), ([1], [1]), ([], []), ([3], [3]), ([2, 4], [2, 4]), ([], []), ([0, 5, 6], [0, 5, 6]), ([7], [7]), ([8, 7], [8]), ([9], [9]), ([10, 9], [9, 10]), ([11, 9, 9], [9, 11]), ([12], [12]), ([12], [12]), ([14, 12], [12, 14]), ([12], [12]), ([12], [12]), ([17, 12], [12, 17]), ([16, 18, 12], [12, 16, 18]), ([19, 12], [12, 19]), ([20, 12], [12, 20]), ([15, 21, 12], [12, 15, 21]), ([12], [12]), ([13, 22, 23, 12, 12], [12, 13, 22, 23]), ([24, 12], [12, 24]), ([12, 25, 9], [9, 12, 25]), ([9, 26], [9, 26])])
def pianolalaw03_PunchDays.B29 : List Nat := [0, 0, 2, 0, 8, 30, 0, 127, 255, 511, 1023, 2047, 4095, 8191, 8191, 24575, 8191, 8191, 139263, 466943, 991231, 2039807, 4186111, 8191, 16777215, 33554431, 67108863, 134217727]
theorem pianolalaw03_PunchDays.tab29 : rtab .any (opsOf Try.f12 29) = pianolalaw03_PunchDays.T29 := by kernel_rfl
theorem pianolalaw03_PunchDays.bits29 : waitsOk pianolalaw03_PunchDays.T29.2 pianolalaw03_PunchDays.B29 = true := by kernel_rfl
theorem pianolalaw03_PunchDays.j3_no {r : Bool} : ∀ {k : Nat} {x1 : Int} {x2 : Int} {x10 : Int} {x13 : Int} {x16 : Bool} {x17 : Int} {x18 : Bool} {x19 : Bool} {x156000 : Int} {x156001 : Int} {x156002 : Int} {x156003 : Int} {x156004 : Int} {x162000 : Int} {x162001 : Int} {x163000 : Int} {x163001 : Int}, pianolalaw03_PunchDays.j3 k x1 x2 x10 x13 x16 x17 x18 x19 true x156000 x156001 x156002 x156003 x156004 x162000 x162001 x163000 x163001 = some r → r = true → False
  | 0, _, _, _, _, _, _, _, _, _, _, _, _, _, _, _, _, _ => by
    intro h
    simp [pianolalaw03_PunchDays.j3] at h
  | k + 1, _, _, _, _, _, _, _, _, _, _, _, _, _, _, _, _, _ => by
    intro h hr
    rw [pianolalaw03_PunchDays.j3, if_pos rfl] at h
    subst hr
    exact absurd (Option.some.inj h) (by decide)
theorem pianolalaw03_PunchDays.j4_no {r : Bool} : ∀ {k : Nat} {x10 : Int} {x21 : List (S47)} {x22 : Int} {x156000 : Int} {x156001 : Int} {x156002 : Int} {x156003 : Int} {x156004 : Int} {x174000 : Int} {x174001 : Int}, pianolalaw03_PunchDays.j4 k x10 x21 x22 true x156000 x156001 x156002 x156003 x156004 x174000 x174001 = some r → r = true → False
  | 0, _, _, _, _, _, _, _, _, _, _ => by
    intro h
    simp [pianolalaw03_PunchDays.j4] at h
  | k + 1, _, _, _, _, _, _, _, _, _, _ => by
    intro h hr
    rw [pianolalaw03_PunchDays.j4, if_pos rfl] at h
    subst hr
    exact absurd (Option.some.inj h) (by decide)
theorem pianolalaw03_PunchDays.j5_no {r : Bool} : ∀ {k : Nat} {x10 : Int} {x21 : List (S47)} {x156000 : Int} {x156001 : Int} {x156002 : Int} {x156003 : Int} {x156004 : Int}, pianolalaw03_PunchDays.j5 k x10 x21 true x156000 x156001 x156002 x156003 x156004 = some r → r = true → False
  | 0, _, _, _, _, _, _, _ => by
    intro h
    simp [pianolalaw03_PunchDays.j5] at h
  | k + 1, _, _, _, _, _, _, _ => by
    intro h hr
    rw [pianolalaw03_PunchDays.j5, if_pos rfl] at h
    subst hr
    exact absurd (Option.some.inj h) (by decide)
end Go.Proofs.Ytegffliopblajaa.P
end
