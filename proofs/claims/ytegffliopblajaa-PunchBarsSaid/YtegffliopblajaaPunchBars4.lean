/- Words and contracts for a claim. -/
import Derived.Test.YtegffliopblajaaPunchBars3
import Derived.Deep.SlicePairs
import Derived.ProofKit
section
namespace Go.Proofs.Ytegffliopblajaa.P
open Go.ChangeShapes Go.WideShapes Go.Deep Go.RowKit Go.Proofs.YtegffliopblajaaW.PrintWords
set_option linter.unusedVariables false
set_option linter.unusedSimpArgs false
set_option maxRecDepth 100000
theorem list_two {α : Type} {l : List α} (h : l.length = 2) : ∃ a b, l = [a, b] := by
  match l, h with
  | [a, b], _ => exact ⟨a, b, rfl⟩
theorem list_four {α : Type} {l : List α} (h : l.length = 4) : ∃ a b c d, l = [a, b, c, d] := by
  match l, h with
  | [a, b, c, d], _ => exact ⟨a, b, c, d, rfl⟩
theorem list_five {α : Type} {l : List α} (h : l.length = 5) : ∃ a b c d e, l = [a, b, c, d, e] := by
  match l, h with
  | [a, b, c, d, e], _ => exact ⟨a, b, c, d, e, rfl⟩
section
variable {H : Type} {enc : TypeId × Value → H} {w : World} {base : Nat} {spare : Nat → Bool} {held : Bool}
theorem int_of {fuel : Nat} {u : Value} {x : DataW H × List MemPlace} (h : DataW.trod enc Try.prog w base spare held fuel 3 [u] = some x) : ∃ a : Int, u = .int .i64 a ∧ (Lit.int .i64 a).wf = true := by
  obtain ⟨a, e0, _, w0⟩ := DataW.trod_int Try.underlying3 h
  injection e0 with e0
  exact ⟨a, e0, w0⟩
theorem open_slot {r : Reach} {b0 : Nat} {v : Value} {d : DataW H} {p : List MemPlace} (hv : Value.okWide Try.prog w r b0 47 v) (h : DataW.Trod enc Try.prog w base spare held 47 v d p) :
    ∃ a b : Int, v = .agg #[.int .i64 a, .int .i64 b] ∧ (Lit.int .i64 a).wf = true ∧ (Lit.int .i64 b).wf = true := by
  simp only [Value.okWide, Try.underlying47] at hv
  obtain ⟨cs, rfl, h2, _⟩ := hv
  obtain ⟨fuel, hf⟩ := h
  obtain ⟨xs, m, _, hx, hcl, hxl, hg⟩ := DataW.trod_struct Try.underlying47 hf
  have c47 : Try.prog.cellsOf 47 = 2 := by kernel_rfl
  have c3 : Try.prog.cellsOf 3 = 1 := by kernel_rfl
  rw [c47] at h2 hcl
  obtain ⟨l⟩ := cs
  obtain ⟨a, b, rfl⟩ := list_two (show l.length = 2 from h2)
  obtain ⟨y0, y1, rfl⟩ := list_two (show xs.length = 2 from hxl)
  have g0 : DataW.trod enc Try.prog w base spare held m 3 (([a, b].drop 0).take (Try.prog.cellsOf 3)) = some y0 := hg 0 _ rfl
  have g1 : DataW.trod enc Try.prog w base spare held m 3 (([a, b].drop 1).take (Try.prog.cellsOf 3)) = some y1 := hg 1 _ rfl
  rw [c3] at g0 g1
  obtain ⟨a, rfl, wa⟩ := int_of (show DataW.trod enc Try.prog w base spare held m 3 [a] = some y0 from g0)
  obtain ⟨b, rfl, wb⟩ := int_of (show DataW.trod enc Try.prog w base spare held m 3 [b] = some y1 from g1)
  exact ⟨a, b, rfl, wa, wb⟩
theorem open_55 {fuel : Nat} {a b : Value} {x : DataW H × List MemPlace} (h : DataW.trod enc Try.prog w base spare held fuel 55 [a, b] = some x) :
    ∃ x y : Int, a = .int .i64 x ∧ b = .int .i64 y ∧ (Lit.int .i64 x).wf = true ∧ (Lit.int .i64 y).wf = true := by
  obtain ⟨xs, m, _, hx, hcl, hxl, hg⟩ := DataW.trod_struct Try.underlying55 h
  have c3 : Try.prog.cellsOf 3 = 1 := by kernel_rfl
  obtain ⟨y0, y1, rfl⟩ := list_two (show xs.length = 2 from hxl)
  have g0 : DataW.trod enc Try.prog w base spare held m 3 (([a, b].drop 0).take (Try.prog.cellsOf 3)) = some y0 := hg 0 _ rfl
  have g1 : DataW.trod enc Try.prog w base spare held m 3 (([a, b].drop 1).take (Try.prog.cellsOf 3)) = some y1 := hg 1 _ rfl
  rw [c3] at g0 g1
  obtain ⟨a, rfl, wa⟩ := int_of (show DataW.trod enc Try.prog w base spare held m 3 [a] = some y0 from g0)
  obtain ⟨b, rfl, wb⟩ := int_of (show DataW.trod enc Try.prog w base spare held m 3 [b] = some y1 from g1)
  exact ⟨a, b, rfl, rfl, wa, wb⟩
theorem open_paper {r : Reach} {b0 : Nat} {v : Value} {d : DataW H} {p : List MemPlace} (hv : Value.okWide Try.prog w r b0 57 v) (h : DataW.Trod enc Try.prog w base spare held 57 v d p) :
    ∃ a b c e f : Int, v = .agg #[.int .i64 a, .int .i64 b, .int .i64 c, .int .i64 e, .int .i64 f] := by
  simp only [Value.okWide, Try.underlying57] at hv
  obtain ⟨cs, rfl, h2, _⟩ := hv
  obtain ⟨fuel, hf⟩ := h
  obtain ⟨xs, m, _, hx, hcl, hxl, hg⟩ := DataW.trod_struct Try.underlying57 hf
  have c57 : Try.prog.cellsOf 57 = 5 := by kernel_rfl
  have c55 : Try.prog.cellsOf 55 = 2 := by kernel_rfl
  have c3 : Try.prog.cellsOf 3 = 1 := by kernel_rfl
  rw [c57] at h2 hcl
  obtain ⟨l⟩ := cs
  obtain ⟨v0, v1, v2, v3, v4, rfl⟩ := list_five (show l.length = 5 from h2)
  obtain ⟨y0, y1, y2, y3, rfl⟩ := list_four (show xs.length = 4 from hxl)
  have g0 : DataW.trod enc Try.prog w base spare held m 55 (([v0, v1, v2, v3, v4].drop 0).take (Try.prog.cellsOf 55)) = some y0 := hg 0 _ rfl
  have g1 : DataW.trod enc Try.prog w base spare held m 3 (([v0, v1, v2, v3, v4].drop 2).take (Try.prog.cellsOf 3)) = some y1 := hg 1 _ rfl
  have g2 : DataW.trod enc Try.prog w base spare held m 3 (([v0, v1, v2, v3, v4].drop 3).take (Try.prog.cellsOf 3)) = some y2 := hg 2 _ rfl
  have g3 : DataW.trod enc Try.prog w base spare held m 3 (([v0, v1, v2, v3, v4].drop 4).take (Try.prog.cellsOf 3)) = some y3 := hg 3 _ rfl
  rw [c55] at g0
  rw [c3] at g1 g2 g3
  obtain ⟨a, b, rfl, rfl, _⟩ := open_55 (show DataW.trod enc Try.prog w base spare held m 55 [v0, v1] = some y0 from g0)
  obtain ⟨c, rfl, _⟩ := int_of (show DataW.trod enc Try.prog w base spare held m 3 [v2] = some y1 from g1)
  obtain ⟨e, rfl, _⟩ := int_of (show DataW.trod enc Try.prog w base spare held m 3 [v3] = some y2 from g2)
  obtain ⟨f, rfl, _⟩ := int_of (show DataW.trod enc Try.prog w base spare held m 3 [v4] = some y3 from g3)
  exact ⟨a, b, c, e, f, rfl⟩
end
end Go.Proofs.Ytegffliopblajaa.P
end
section
namespace Go.Proofs.Ytegffliopblajaa.P
open Go.RowKit Go.Proofs.YtegffliopblajaaW.PrintWords Go.Proofs.YtegffliopblajaaW.PrintLast Go.Proofs.YtegffliopblajaaW.PrintMore
attribute [local go_sem] max2_int min2_int max_two min_two max_three min_three max_four min_four
set_option linter.unusedVariables false
set_option linter.unusedSimpArgs false
def pianolaref01_Is.f (a0 : Int) (a1 : Int) (a2 : Int) : Option (Bool) := if a0 ≥ a1 then (some (decide (a0 ≤ a2))) else (some false)
set_option maxHeartbeats 8000000 in
set_option maxRecDepth 100000 in
theorem pianolaref01_Is.calls (a0 : Int) (a1 : Int) (a2 : Int) (r : Bool) (w : World) (h : pianolaref01_Is.f a0 a1 a2 = some r) :
    Calls Try.prog 78 #[.int .i64 a0, .int .i64 a1, .int .i64 a2] w fun e w' => e = .returned (.bool r) ∧ Drawn0 w w' := by
  have H : (if a0 ≥ a1 then (some (decide (a0 ≤ a2))) else (some false)) = some r := h
  clear h
  by_cases c4 : a0 ≥ a1
  · rw [if_pos c4] at H
    have c4b0 : decide (a1 ≤ a0) = true := decide_eq_true c4
    clear c4
    obtain rfl := Option.some.inj H
    go_enter Try.func78, Try.ntmps78
    go_wp2
    go_ret
    exact ⟨by first | rfl | (simp; done) | (simp [*]; done), by repeat (first | exact Drawn0.refl _ | apply Drawn0.step)⟩
  · rw [if_neg c4] at H
    have c4b0 : decide (a1 ≤ a0) = false := decide_eq_false c4
    clear c4
    obtain rfl := Option.some.inj H
    go_enter Try.func78, Try.ntmps78
    go_wp2
    go_ret
    exact ⟨by first | rfl | (simp; done) | (simp [*]; done), by repeat (first | exact Drawn0.refl _ | apply Drawn0.step)⟩
def pianolaref03_is.f (a0 : Int) (a1 : Int) (a2 : Int) : Option (Bool) := (pianolaref01_Is.f a0 a1 a2).bind fun t101 => (some t101)
set_option maxHeartbeats 8000000 in
set_option maxRecDepth 100000 in
theorem pianolaref03_is.calls (a0 : Int) (a1 : Int) (a2 : Int) (r : Bool) (w : World) (h : pianolaref03_is.f a0 a1 a2 = some r) :
    Calls Try.prog 55 #[.int .i64 a0, .int .i64 a1, .int .i64 a2] w fun e w' => e = .returned (.bool r) ∧ Drawn0 w w' := by
  have H : ((pianolaref01_Is.f a0 a1 a2).bind fun t101 => (some t101)) = some r := h
  clear h
  replace H := Option.bind_eq_some_iff.mp H
  obtain ⟨t101, A40, H⟩ := H
  replace H : (some t101) = some r := H
  have A4 := zA A40
  clear A40
  obtain rfl := Option.some.inj H
  go_enter Try.func55, Try.ntmps55
  go_wp2_with (first | ((with_reducible refine gate_callee (f := 78) rfl ?_); refine goesL_ (some 10) rfl rfl Try.func78 (by kernel_rfl) rfl #[.int .i64 a0, .int .i64 a1, .int .i64 a2] rfl zqE ?_; (with_reducible refine (pianolaref01_Is.calls a0 a1 a2 t101 _ A4.out).mono ?_); rintro e w' ⟨rfl, ⟨nd, rfl⟩⟩; refine ⟨_, rfl, ?_⟩))
  go_ret
  exact ⟨by first | rfl | (simp; done) | (simp [*]; done), by repeat (first | exact Drawn0.refl _ | apply Drawn0.step)⟩
def pianolaref03_slot.f (a0_0 : Int) (a0_1 : Int) : Option (Bool) := if a0_0 ≥ 0 then (if a0_0 < a0_1 then (some (decide (a0_1 ≤ 1000000))) else (some false)) else (some false)
set_option maxHeartbeats 8000000 in
set_option maxRecDepth 100000 in
theorem pianolaref03_slot.calls (a0_0 : Int) (a0_1 : Int) (r : Bool) (w : World) (h : pianolaref03_slot.f a0_0 a0_1 = some r) :
  Calls Try.prog 56 #[.agg #[.int .i64 a0_0, .int .i64 a0_1]] w fun e w' => e = .returned (.bool r) ∧ Below w.heap.size w w' := by
 have hu52 := Try.underlying52
 have HB := zA (Below.refl w.heap.size w)
 have H : (if a0_0 ≥ 0 then (if a0_0 < a0_1 then (some (decide (a0_1 ≤ 1000000))) else (some false)) else (some false)) = some r := h
 clear h
 by_cases c2 : a0_0 ≥ 0
 ·
  rw [if_pos c2] at H
  have c2b0 : decide (0 ≤ a0_0) = true := decide_eq_true c2
  clear c2
  by_cases c3 : a0_0 < a0_1
  ·
   rw [if_pos c3] at H
   have c3b0 : decide (a0_0 < a0_1) = true := decide_eq_true c3
   clear c3
   obtain rfl := Option.some.inj H
   go_enter Try.func56, Try.ntmps56
   go_wp2_with (first | ((with_reducible refine gate_dst (N := 1) rfl ?_); refine box_event ?hg (N := 1) ?hd (cs := #[.int .i64 a0_0, .int .i64 a0_1]) (t := 52) ?hr ?_; (case hd => rfl); (case hg => rfl); (case hr => first | (go_simp; done) | (go_simp; rfl)); intro gb102 hg w4 hbox hb; have n0_ := zA (below_step (zqA HB.out) hb); have n1_ := zA (hbox); have n2_ := zA ((by rw [hg]; exact (below_size (zqA HB.out)) : w.heap.size ≤ gb102)); have n3_ := zA ((by rw [hg]; exact (below_size (zqA HB.out)) : w.heap.size ≤ gb102)); clear HB; have HB := n0_; have BK102 := n1_; have GW102 := n2_; have GE102 := n3_; clear n0_ n1_ n2_ n3_; clear hb hbox hg; have hcz5_0 : w4.cell? ⟨gb102, 0, none⟩ = some (.int .i64 a0_0) := (blk_cell BK102.out 0).trans rfl; have hcz5_1 : w4.cell? ⟨gb102, 1, none⟩ = some (.int .i64 a0_1) := (blk_cell BK102.out 1).trans rfl; have hfz5_0 := blk_frozen BK102.out 0; have hfz5_1 := blk_frozen BK102.out 1))
   go_ret
   exact ⟨zqR, zqG HB.out GE102.out⟩
  ·
   rw [if_neg c3] at H
   have c3b0 : decide (a0_0 < a0_1) = false := decide_eq_false c3
   clear c3
   obtain rfl := Option.some.inj H
   go_enter Try.func56, Try.ntmps56
   go_wp2_with (first | ((with_reducible refine gate_dst (N := 1) rfl ?_); refine box_event ?hg (N := 1) ?hd (cs := #[.int .i64 a0_0, .int .i64 a0_1]) (t := 52) ?hr ?_; (case hd => rfl); (case hg => rfl); (case hr => first | (go_simp; done) | (go_simp; rfl)); intro gb102 hg w6 hbox hb; have n0_ := zA (below_step (zqA HB.out) hb); have n1_ := zA (hbox); have n2_ := zA ((by rw [hg]; exact (below_size (zqA HB.out)) : w.heap.size ≤ gb102)); have n3_ := zA ((by rw [hg]; exact (below_size (zqA HB.out)) : w.heap.size ≤ gb102)); clear HB; have HB := n0_; have BK102 := n1_; have GW102 := n2_; have GE102 := n3_; clear n0_ n1_ n2_ n3_; clear hb hbox hg; have hcz7_0 : w6.cell? ⟨gb102, 0, none⟩ = some (.int .i64 a0_0) := (blk_cell BK102.out 0).trans rfl; have hcz7_1 : w6.cell? ⟨gb102, 1, none⟩ = some (.int .i64 a0_1) := (blk_cell BK102.out 1).trans rfl; have hfz7_0 := blk_frozen BK102.out 0; have hfz7_1 := blk_frozen BK102.out 1))
   go_ret
   exact ⟨zqR, zqG HB.out GE102.out⟩
 ·
  rw [if_neg c2] at H
  have c2b0 : decide (0 ≤ a0_0) = false := decide_eq_false c2
  clear c2
  obtain rfl := Option.some.inj H
  go_enter Try.func56, Try.ntmps56
  go_wp2_with (first | ((with_reducible refine gate_dst (N := 1) rfl ?_); refine box_event ?hg (N := 1) ?hd (cs := #[.int .i64 a0_0, .int .i64 a0_1]) (t := 52) ?hr ?_; (case hd => rfl); (case hg => rfl); (case hr => first | (go_simp; done) | (go_simp; rfl)); intro gb102 hg w8 hbox hb; have n0_ := zA (below_step (zqA HB.out) hb); have n1_ := zA (hbox); have n2_ := zA ((by rw [hg]; exact (below_size (zqA HB.out)) : w.heap.size ≤ gb102)); have n3_ := zA ((by rw [hg]; exact (below_size (zqA HB.out)) : w.heap.size ≤ gb102)); clear HB; have HB := n0_; have BK102 := n1_; have GW102 := n2_; have GE102 := n3_; clear n0_ n1_ n2_ n3_; clear hb hbox hg; have hcz9_0 : w8.cell? ⟨gb102, 0, none⟩ = some (.int .i64 a0_0) := (blk_cell BK102.out 0).trans rfl; have hcz9_1 : w8.cell? ⟨gb102, 1, none⟩ = some (.int .i64 a0_1) := (blk_cell BK102.out 1).trans rfl; have hfz9_0 := blk_frozen BK102.out 0; have hfz9_1 := blk_frozen BK102.out 1))
  go_ret
  exact ⟨zqR, zqG HB.out GE102.out⟩
end Go.Proofs.Ytegffliopblajaa.P
end
section
namespace Go.Proofs.Ytegffliopblajaa.P
open Go.RowKit Go.Proofs.YtegffliopblajaaW.PrintWords Go.Proofs.YtegffliopblajaaW.PrintLast Go.Proofs.YtegffliopblajaaW.PrintMore
attribute [local go_sem] max2_int min2_int max_two min_two max_three min_three max_four min_four
set_option linter.unusedVariables false
set_option linter.unusedSimpArgs false
def pianolaref03_paper.f (a0_0 : Int) (a0_1 : Int) (a0_2 : Int) (a0_3 : Int) (a0_4 : Int) : Option (Int) := (pianolaref03_is.f a0_0 900 a0_1).bind fun t245 => (if t245 = true then (if a0_1 > 1100 then (some 3) else ((pianolaref03_is.f a0_2 1 1000).bind fun t246 => (if t246 = true then ((pianolaref03_is.f a0_3 1 1000).bind fun t247 => (if t247 = true then ((pianolaref03_is.f a0_4 1 1000).bind fun t248 => (if t248 = true then (some 0) else (some 3))) else (some 3))) else (some 3)))) else (some 3))
set_option maxHeartbeats 8000000 in
set_option maxRecDepth 100000 in
theorem pianolaref03_paper.calls (a0_0 : Int) (a0_1 : Int) (a0_2 : Int) (a0_3 : Int) (a0_4 : Int) (r : Int) (w : World) (h : pianolaref03_paper.f a0_0 a0_1 a0_2 a0_3 a0_4 = some r) :
  Calls Try.prog 71 #[.agg #[.int .i64 a0_0, .int .i64 a0_1, .int .i64 a0_2, .int .i64 a0_3, .int .i64 a0_4]] w fun e w' => e = .returned (.int .i64 r) ∧ Below w.heap.size w w' := by
 have hu58 := Try.underlying58
 have HB := zA (Below.refl w.heap.size w)
 have H : ((pianolaref03_is.f a0_0 900 a0_1).bind fun t245 => (if t245 = true then (if a0_1 > 1100 then (some 3) else ((pianolaref03_is.f a0_2 1 1000).bind fun t246 => (if t246 = true then ((pianolaref03_is.f a0_3 1 1000).bind fun t247 => (if t247 = true then ((pianolaref03_is.f a0_4 1 1000).bind fun t248 => (if t248 = true then (some 0) else (some 3))) else (some 3))) else (some 3)))) else (some 3))) = some r := h
 clear h
 replace H := Option.bind_eq_some_iff.mp H
 obtain ⟨t245, A20, H⟩ := H
 replace H : (if t245 = true then (if a0_1 > 1100 then (some 3) else ((pianolaref03_is.f a0_2 1 1000).bind fun t246 => (if t246 = true then ((pianolaref03_is.f a0_3 1 1000).bind fun t247 => (if t247 = true then ((pianolaref03_is.f a0_4 1 1000).bind fun t248 => (if t248 = true then (some 0) else (some 3))) else (some 3))) else (some 3)))) else (some 3)) = some r := H
 have A2 := zA A20
 clear A20
 by_cases c3 : t245 = true
 ·
  subst c3
  have H1 : (if a0_1 > 1100 then (some 3) else ((pianolaref03_is.f a0_2 1 1000).bind fun t246 => (if t246 = true then ((pianolaref03_is.f a0_3 1 1000).bind fun t247 => (if t247 = true then ((pianolaref03_is.f a0_4 1 1000).bind fun t248 => (if t248 = true then (some 0) else (some 3))) else (some 3))) else (some 3)))) = some r := by rw [if_pos rfl] at H; exact H
  clear H; have H := H1; clear H1
  by_cases c4 : a0_1 > 1100
  ·
   rw [if_pos c4] at H
   have c4b0 : decide (1100 < a0_1) = true := decide_eq_true c4
   clear c4
   obtain rfl := Option.some.inj H
   go_enter Try.func71, Try.ntmps71
   go_wp2_with (first | ((with_reducible refine gate_dst (N := 1) rfl ?_); refine box_event ?hg (N := 1) ?hd (cs := #[.int .i64 a0_0, .int .i64 a0_1, .int .i64 a0_2, .int .i64 a0_3, .int .i64 a0_4]) (t := 58) ?hr ?_; (case hd => rfl); (case hg => rfl); (case hr => first | (go_simp; done) | (go_simp; rfl)); intro gb244 hg w5 hbox hb; have n0_ := zA (below_step (zqA HB.out) hb); have n1_ := zA (hbox); have n2_ := zA ((by rw [hg]; exact (below_size (zqA HB.out)) : w.heap.size ≤ gb244)); have n3_ := zA ((by rw [hg]; exact (below_size (zqA HB.out)) : w.heap.size ≤ gb244)); clear HB; have HB := n0_; have BK244 := n1_; have GW244 := n2_; have GE244 := n3_; clear n0_ n1_ n2_ n3_; clear hb hbox hg; have hcz6_0 : w5.cell? ⟨gb244, 0, none⟩ = some (.int .i64 a0_0) := (blk_cell BK244.out 0).trans rfl; have hcz6_1 : w5.cell? ⟨gb244, 1, none⟩ = some (.int .i64 a0_1) := (blk_cell BK244.out 1).trans rfl; have hcz6_2 : w5.cell? ⟨gb244, 2, none⟩ = some (.int .i64 a0_2) := (blk_cell BK244.out 2).trans rfl; have hcz6_3 : w5.cell? ⟨gb244, 3, none⟩ = some (.int .i64 a0_3) := (blk_cell BK244.out 3).trans rfl; have hcz6_4 : w5.cell? ⟨gb244, 4, none⟩ = some (.int .i64 a0_4) := (blk_cell BK244.out 4).trans rfl; have hfz6_0 := blk_frozen BK244.out 0; have hfz6_1 := blk_frozen BK244.out 1; have hfz6_2 := blk_frozen BK244.out 2; have hfz6_3 := blk_frozen BK244.out 3; have hfz6_4 := blk_frozen BK244.out 4) | ((with_reducible refine gate_callee (f := 55) rfl ?_); refine goesL_ (some 9) rfl rfl Try.func55 (by kernel_rfl) rfl #[.int .i64 a0_0, .int .i64 900, .int .i64 a0_1] rfl zqE ?_; (with_reducible refine (pianolaref03_is.calls a0_0 900 a0_1 true _ A2.out).mono ?_); rintro e w' ⟨rfl, ⟨nd, rfl⟩⟩; refine ⟨_, rfl, ?_⟩))
   go_ret
   exact ⟨zqR, zqG HB.out GE244.out⟩
  ·
   rw [if_neg c4] at H
   have c4b0 : decide (1100 < a0_1) = false := decide_eq_false c4
   clear c4
   replace H := Option.bind_eq_some_iff.mp H
   obtain ⟨t246, A70, H⟩ := H
   replace H : (if t246 = true then ((pianolaref03_is.f a0_3 1 1000).bind fun t247 => (if t247 = true then ((pianolaref03_is.f a0_4 1 1000).bind fun t248 => (if t248 = true then (some 0) else (some 3))) else (some 3))) else (some 3)) = some r := H
   have A7 := zA A70
   clear A70
   by_cases c8 : t246 = true
   ·
    subst c8
    have H1 : ((pianolaref03_is.f a0_3 1 1000).bind fun t247 => (if t247 = true then ((pianolaref03_is.f a0_4 1 1000).bind fun t248 => (if t248 = true then (some 0) else (some 3))) else (some 3))) = some r := by rw [if_pos rfl] at H; exact H
    clear H; have H := H1; clear H1
    replace H := Option.bind_eq_some_iff.mp H
    obtain ⟨t247, A90, H⟩ := H
    replace H : (if t247 = true then ((pianolaref03_is.f a0_4 1 1000).bind fun t248 => (if t248 = true then (some 0) else (some 3))) else (some 3)) = some r := H
    have A9 := zA A90
    clear A90
    by_cases c10 : t247 = true
    ·
     subst c10
     have H1 : ((pianolaref03_is.f a0_4 1 1000).bind fun t248 => (if t248 = true then (some 0) else (some 3))) = some r := by rw [if_pos rfl] at H; exact H
     clear H; have H := H1; clear H1
     replace H := Option.bind_eq_some_iff.mp H
     obtain ⟨t248, A110, H⟩ := H
     replace H : (if t248 = true then (some 0) else (some 3)) = some r := H
     have A11 := zA A110
     clear A110
     by_cases c12 : t248 = true
     ·
      subst c12
      have H1 : (some 0) = some r := by rw [if_pos rfl] at H; exact H
      clear H; have H := H1; clear H1
      obtain rfl := Option.some.inj H
      go_enter Try.func71, Try.ntmps71
      go_wp2_with (first | ((with_reducible refine gate_dst (N := 1) rfl ?_); refine box_event ?hg (N := 1) ?hd (cs := #[.int .i64 a0_0, .int .i64 a0_1, .int .i64 a0_2, .int .i64 a0_3, .int .i64 a0_4]) (t := 58) ?hr ?_; (case hd => rfl); (case hg => rfl); (case hr => first | (go_simp; done) | (go_simp; rfl)); intro gb244 hg w13 hbox hb; have n0_ := zA (below_step (zqA HB.out) hb); have n1_ := zA (hbox); have n2_ := zA ((by rw [hg]; exact (below_size (zqA HB.out)) : w.heap.size ≤ gb244)); have n3_ := zA ((by rw [hg]; exact (below_size (zqA HB.out)) : w.heap.size ≤ gb244)); clear HB; have HB := n0_; have BK244 := n1_; have GW244 := n2_; have GE244 := n3_; clear n0_ n1_ n2_ n3_; clear hb hbox hg; have hcz14_0 : w13.cell? ⟨gb244, 0, none⟩ = some (.int .i64 a0_0) := (blk_cell BK244.out 0).trans rfl; have hcz14_1 : w13.cell? ⟨gb244, 1, none⟩ = some (.int .i64 a0_1) := (blk_cell BK244.out 1).trans rfl; have hcz14_2 : w13.cell? ⟨gb244, 2, none⟩ = some (.int .i64 a0_2) := (blk_cell BK244.out 2).trans rfl; have hcz14_3 : w13.cell? ⟨gb244, 3, none⟩ = some (.int .i64 a0_3) := (blk_cell BK244.out 3).trans rfl; have hcz14_4 : w13.cell? ⟨gb244, 4, none⟩ = some (.int .i64 a0_4) := (blk_cell BK244.out 4).trans rfl; have hfz14_0 := blk_frozen BK244.out 0; have hfz14_1 := blk_frozen BK244.out 1; have hfz14_2 := blk_frozen BK244.out 2; have hfz14_3 := blk_frozen BK244.out 3; have hfz14_4 := blk_frozen BK244.out 4) | ((with_reducible refine gate_callee (f := 55) rfl ?_); refine goesL_ (some 9) rfl rfl Try.func55 (by kernel_rfl) rfl #[.int .i64 a0_0, .int .i64 900, .int .i64 a0_1] rfl zqE ?_; (with_reducible refine (pianolaref03_is.calls a0_0 900 a0_1 true _ A2.out).mono ?_); rintro e w' ⟨rfl, ⟨nd, rfl⟩⟩; refine ⟨_, rfl, ?_⟩) | (go_at_call 55; (with_reducible refine (pianolaref03_is.calls a0_2 1 1000 true _ A7.out).mono ?_); rintro e w' ⟨rfl, ⟨nd, rfl⟩⟩) | (go_at_call 55; (with_reducible refine (pianolaref03_is.calls a0_3 1 1000 true _ A9.out).mono ?_); rintro e w' ⟨rfl, ⟨nd, rfl⟩⟩) | (go_at_call 55; (with_reducible refine (pianolaref03_is.calls a0_4 1 1000 true _ A11.out).mono ?_); rintro e w' ⟨rfl, ⟨nd, rfl⟩⟩))
      go_ret
      exact ⟨zqR, zqG HB.out GE244.out⟩
     ·
      replace c12 := Bool.eq_false_iff.mpr c12
      subst c12
      have H1 : (some 3) = some r := by rw [if_neg (show ¬ (false = true) by decide)] at H; exact H
      clear H; have H := H1; clear H1
      obtain rfl := Option.some.inj H
      go_enter Try.func71, Try.ntmps71
      go_wp2_with (first | ((with_reducible refine gate_dst (N := 1) rfl ?_); refine box_event ?hg (N := 1) ?hd (cs := #[.int .i64 a0_0, .int .i64 a0_1, .int .i64 a0_2, .int .i64 a0_3, .int .i64 a0_4]) (t := 58) ?hr ?_; (case hd => rfl); (case hg => rfl); (case hr => first | (go_simp; done) | (go_simp; rfl)); intro gb244 hg w15 hbox hb; have n0_ := zA (below_step (zqA HB.out) hb); have n1_ := zA (hbox); have n2_ := zA ((by rw [hg]; exact (below_size (zqA HB.out)) : w.heap.size ≤ gb244)); have n3_ := zA ((by rw [hg]; exact (below_size (zqA HB.out)) : w.heap.size ≤ gb244)); clear HB; have HB := n0_; have BK244 := n1_; have GW244 := n2_; have GE244 := n3_; clear n0_ n1_ n2_ n3_; clear hb hbox hg; have hcz16_0 : w15.cell? ⟨gb244, 0, none⟩ = some (.int .i64 a0_0) := (blk_cell BK244.out 0).trans rfl; have hcz16_1 : w15.cell? ⟨gb244, 1, none⟩ = some (.int .i64 a0_1) := (blk_cell BK244.out 1).trans rfl; have hcz16_2 : w15.cell? ⟨gb244, 2, none⟩ = some (.int .i64 a0_2) := (blk_cell BK244.out 2).trans rfl; have hcz16_3 : w15.cell? ⟨gb244, 3, none⟩ = some (.int .i64 a0_3) := (blk_cell BK244.out 3).trans rfl; have hcz16_4 : w15.cell? ⟨gb244, 4, none⟩ = some (.int .i64 a0_4) := (blk_cell BK244.out 4).trans rfl; have hfz16_0 := blk_frozen BK244.out 0; have hfz16_1 := blk_frozen BK244.out 1; have hfz16_2 := blk_frozen BK244.out 2; have hfz16_3 := blk_frozen BK244.out 3; have hfz16_4 := blk_frozen BK244.out 4) | ((with_reducible refine gate_callee (f := 55) rfl ?_); refine goesL_ (some 9) rfl rfl Try.func55 (by kernel_rfl) rfl #[.int .i64 a0_0, .int .i64 900, .int .i64 a0_1] rfl zqE ?_; (with_reducible refine (pianolaref03_is.calls a0_0 900 a0_1 true _ A2.out).mono ?_); rintro e w' ⟨rfl, ⟨nd, rfl⟩⟩; refine ⟨_, rfl, ?_⟩) | (go_at_call 55; (with_reducible refine (pianolaref03_is.calls a0_2 1 1000 true _ A7.out).mono ?_); rintro e w' ⟨rfl, ⟨nd, rfl⟩⟩) | (go_at_call 55; (with_reducible refine (pianolaref03_is.calls a0_3 1 1000 true _ A9.out).mono ?_); rintro e w' ⟨rfl, ⟨nd, rfl⟩⟩) | (go_at_call 55; (with_reducible refine (pianolaref03_is.calls a0_4 1 1000 false _ A11.out).mono ?_); rintro e w' ⟨rfl, ⟨nd, rfl⟩⟩))
      go_ret
      exact ⟨zqR, zqG HB.out GE244.out⟩
    ·
     replace c10 := Bool.eq_false_iff.mpr c10
     subst c10
     have H1 : (some 3) = some r := by rw [if_neg (show ¬ (false = true) by decide)] at H; exact H
     clear H; have H := H1; clear H1
     obtain rfl := Option.some.inj H
     go_enter Try.func71, Try.ntmps71
     go_wp2_with (first | ((with_reducible refine gate_dst (N := 1) rfl ?_); refine box_event ?hg (N := 1) ?hd (cs := #[.int .i64 a0_0, .int .i64 a0_1, .int .i64 a0_2, .int .i64 a0_3, .int .i64 a0_4]) (t := 58) ?hr ?_; (case hd => rfl); (case hg => rfl); (case hr => first | (go_simp; done) | (go_simp; rfl)); intro gb244 hg w17 hbox hb; have n0_ := zA (below_step (zqA HB.out) hb); have n1_ := zA (hbox); have n2_ := zA ((by rw [hg]; exact (below_size (zqA HB.out)) : w.heap.size ≤ gb244)); have n3_ := zA ((by rw [hg]; exact (below_size (zqA HB.out)) : w.heap.size ≤ gb244)); clear HB; have HB := n0_; have BK244 := n1_; have GW244 := n2_; have GE244 := n3_; clear n0_ n1_ n2_ n3_; clear hb hbox hg; have hcz18_0 : w17.cell? ⟨gb244, 0, none⟩ = some (.int .i64 a0_0) := (blk_cell BK244.out 0).trans rfl; have hcz18_1 : w17.cell? ⟨gb244, 1, none⟩ = some (.int .i64 a0_1) := (blk_cell BK244.out 1).trans rfl; have hcz18_2 : w17.cell? ⟨gb244, 2, none⟩ = some (.int .i64 a0_2) := (blk_cell BK244.out 2).trans rfl; have hcz18_3 : w17.cell? ⟨gb244, 3, none⟩ = some (.int .i64 a0_3) := (blk_cell BK244.out 3).trans rfl; have hcz18_4 : w17.cell? ⟨gb244, 4, none⟩ = some (.int .i64 a0_4) := (blk_cell BK244.out 4).trans rfl; have hfz18_0 := blk_frozen BK244.out 0; have hfz18_1 := blk_frozen BK244.out 1; have hfz18_2 := blk_frozen BK244.out 2; have hfz18_3 := blk_frozen BK244.out 3; have hfz18_4 := blk_frozen BK244.out 4) | ((with_reducible refine gate_callee (f := 55) rfl ?_); refine goesL_ (some 9) rfl rfl Try.func55 (by kernel_rfl) rfl #[.int .i64 a0_0, .int .i64 900, .int .i64 a0_1] rfl zqE ?_; (with_reducible refine (pianolaref03_is.calls a0_0 900 a0_1 true _ A2.out).mono ?_); rintro e w' ⟨rfl, ⟨nd, rfl⟩⟩; refine ⟨_, rfl, ?_⟩) | (go_at_call 55; (with_reducible refine (pianolaref03_is.calls a0_2 1 1000 true _ A7.out).mono ?_); rintro e w' ⟨rfl, ⟨nd, rfl⟩⟩) | (go_at_call 55; (with_reducible refine (pianolaref03_is.calls a0_3 1 1000 false _ A9.out).mono ?_); rintro e w' ⟨rfl, ⟨nd, rfl⟩⟩))
     go_ret
     exact ⟨zqR, zqG HB.out GE244.out⟩
   ·
    replace c8 := Bool.eq_false_iff.mpr c8
    subst c8
    have H1 : (some 3) = some r := by rw [if_neg (show ¬ (false = true) by decide)] at H; exact H
    clear H; have H := H1; clear H1
    obtain rfl := Option.some.inj H
    go_enter Try.func71, Try.ntmps71
    go_wp2_with (first | ((with_reducible refine gate_dst (N := 1) rfl ?_); refine box_event ?hg (N := 1) ?hd (cs := #[.int .i64 a0_0, .int .i64 a0_1, .int .i64 a0_2, .int .i64 a0_3, .int .i64 a0_4]) (t := 58) ?hr ?_; (case hd => rfl); (case hg => rfl); (case hr => first | (go_simp; done) | (go_simp; rfl)); intro gb244 hg w19 hbox hb; have n0_ := zA (below_step (zqA HB.out) hb); have n1_ := zA (hbox); have n2_ := zA ((by rw [hg]; exact (below_size (zqA HB.out)) : w.heap.size ≤ gb244)); have n3_ := zA ((by rw [hg]; exact (below_size (zqA HB.out)) : w.heap.size ≤ gb244)); clear HB; have HB := n0_; have BK244 := n1_; have GW244 := n2_; have GE244 := n3_; clear n0_ n1_ n2_ n3_; clear hb hbox hg; have hcz20_0 : w19.cell? ⟨gb244, 0, none⟩ = some (.int .i64 a0_0) := (blk_cell BK244.out 0).trans rfl; have hcz20_1 : w19.cell? ⟨gb244, 1, none⟩ = some (.int .i64 a0_1) := (blk_cell BK244.out 1).trans rfl; have hcz20_2 : w19.cell? ⟨gb244, 2, none⟩ = some (.int .i64 a0_2) := (blk_cell BK244.out 2).trans rfl; have hcz20_3 : w19.cell? ⟨gb244, 3, none⟩ = some (.int .i64 a0_3) := (blk_cell BK244.out 3).trans rfl; have hcz20_4 : w19.cell? ⟨gb244, 4, none⟩ = some (.int .i64 a0_4) := (blk_cell BK244.out 4).trans rfl; have hfz20_0 := blk_frozen BK244.out 0; have hfz20_1 := blk_frozen BK244.out 1; have hfz20_2 := blk_frozen BK244.out 2; have hfz20_3 := blk_frozen BK244.out 3; have hfz20_4 := blk_frozen BK244.out 4) | ((with_reducible refine gate_callee (f := 55) rfl ?_); refine goesL_ (some 9) rfl rfl Try.func55 (by kernel_rfl) rfl #[.int .i64 a0_0, .int .i64 900, .int .i64 a0_1] rfl zqE ?_; (with_reducible refine (pianolaref03_is.calls a0_0 900 a0_1 true _ A2.out).mono ?_); rintro e w' ⟨rfl, ⟨nd, rfl⟩⟩; refine ⟨_, rfl, ?_⟩) | (go_at_call 55; (with_reducible refine (pianolaref03_is.calls a0_2 1 1000 false _ A7.out).mono ?_); rintro e w' ⟨rfl, ⟨nd, rfl⟩⟩))
    go_ret
    exact ⟨zqR, zqG HB.out GE244.out⟩
 ·
  replace c3 := Bool.eq_false_iff.mpr c3
  subst c3
  have H1 : (some 3) = some r := by rw [if_neg (show ¬ (false = true) by decide)] at H; exact H
  clear H; have H := H1; clear H1
  obtain rfl := Option.some.inj H
  go_enter Try.func71, Try.ntmps71
  go_wp2_with (first | ((with_reducible refine gate_dst (N := 1) rfl ?_); refine box_event ?hg (N := 1) ?hd (cs := #[.int .i64 a0_0, .int .i64 a0_1, .int .i64 a0_2, .int .i64 a0_3, .int .i64 a0_4]) (t := 58) ?hr ?_; (case hd => rfl); (case hg => rfl); (case hr => first | (go_simp; done) | (go_simp; rfl)); intro gb244 hg w21 hbox hb; have n0_ := zA (below_step (zqA HB.out) hb); have n1_ := zA (hbox); have n2_ := zA ((by rw [hg]; exact (below_size (zqA HB.out)) : w.heap.size ≤ gb244)); have n3_ := zA ((by rw [hg]; exact (below_size (zqA HB.out)) : w.heap.size ≤ gb244)); clear HB; have HB := n0_; have BK244 := n1_; have GW244 := n2_; have GE244 := n3_; clear n0_ n1_ n2_ n3_; clear hb hbox hg; have hcz22_0 : w21.cell? ⟨gb244, 0, none⟩ = some (.int .i64 a0_0) := (blk_cell BK244.out 0).trans rfl; have hcz22_1 : w21.cell? ⟨gb244, 1, none⟩ = some (.int .i64 a0_1) := (blk_cell BK244.out 1).trans rfl; have hcz22_2 : w21.cell? ⟨gb244, 2, none⟩ = some (.int .i64 a0_2) := (blk_cell BK244.out 2).trans rfl; have hcz22_3 : w21.cell? ⟨gb244, 3, none⟩ = some (.int .i64 a0_3) := (blk_cell BK244.out 3).trans rfl; have hcz22_4 : w21.cell? ⟨gb244, 4, none⟩ = some (.int .i64 a0_4) := (blk_cell BK244.out 4).trans rfl; have hfz22_0 := blk_frozen BK244.out 0; have hfz22_1 := blk_frozen BK244.out 1; have hfz22_2 := blk_frozen BK244.out 2; have hfz22_3 := blk_frozen BK244.out 3; have hfz22_4 := blk_frozen BK244.out 4) | ((with_reducible refine gate_callee (f := 55) rfl ?_); refine goesL_ (some 9) rfl rfl Try.func55 (by kernel_rfl) rfl #[.int .i64 a0_0, .int .i64 900, .int .i64 a0_1] rfl zqE ?_; (with_reducible refine (pianolaref03_is.calls a0_0 900 a0_1 false _ A2.out).mono ?_); rintro e w' ⟨rfl, ⟨nd, rfl⟩⟩; refine ⟨_, rfl, ?_⟩))
  go_ret
  exact ⟨zqR, zqG HB.out GE244.out⟩
def pianolaref03_hole.f (a0_0 : Int) (a0_1 : Int) (a0_2 : Int) (a0_3 : Int) (a0_4 : Int) (a1 : Int) : Option (Bool) := some (decide ((wrap64 (a1 * a0_1)) ≤ (wrap64 (1000 * a0_2))))
set_option maxHeartbeats 8000000 in
set_option maxRecDepth 100000 in
theorem pianolaref03_hole.calls (a0_0 : Int) (a0_1 : Int) (a0_2 : Int) (a0_3 : Int) (a0_4 : Int) (a1 : Int) (r : Bool) (w : World) (h : pianolaref03_hole.f a0_0 a0_1 a0_2 a0_3 a0_4 a1 = some r) :
    Calls Try.prog 72 #[.agg #[.int .i64 a0_0, .int .i64 a0_1, .int .i64 a0_2, .int .i64 a0_3, .int .i64 a0_4], .int .i64 a1] w fun e w' => e = .returned (.bool r) ∧ Below w.heap.size w w' := by
  have hu58 := Try.underlying58
  have HB := zA (Below.refl w.heap.size w)
  have H : (some (decide ((wrap64 (a1 * a0_1)) ≤ (wrap64 (1000 * a0_2))))) = some r := h
  clear h
  obtain rfl := Option.some.inj H
  go_enter Try.func72, Try.ntmps72
  go_wp2_with (first | ((with_reducible refine gate_dst (N := 2) rfl ?_); refine box_event ?hg (N := 2) ?hd (cs := #[.int .i64 a0_0, .int .i64 a0_1, .int .i64 a0_2, .int .i64 a0_3, .int .i64 a0_4]) (t := 58) ?hr ?_; (case hd => rfl); (case hg => rfl); (case hr => first | (go_simp; done) | (go_simp; rfl)); intro gb249 hg w3 hbox hb; have n0_ := zA (below_step (zqA HB.out) hb); have n1_ := zA (hbox); have n2_ := zA ((by rw [hg]; exact (below_size (zqA HB.out)) : w.heap.size ≤ gb249)); have n3_ := zA ((by rw [hg]; exact (below_size (zqA HB.out)) : w.heap.size ≤ gb249)); clear HB; have HB := n0_; have BK249 := n1_; have GW249 := n2_; have GE249 := n3_; clear n0_ n1_ n2_ n3_; clear hb hbox hg; have hcz4_0 : w3.cell? ⟨gb249, 0, none⟩ = some (.int .i64 a0_0) := (blk_cell BK249.out 0).trans rfl; have hcz4_1 : w3.cell? ⟨gb249, 1, none⟩ = some (.int .i64 a0_1) := (blk_cell BK249.out 1).trans rfl; have hcz4_2 : w3.cell? ⟨gb249, 2, none⟩ = some (.int .i64 a0_2) := (blk_cell BK249.out 2).trans rfl; have hcz4_3 : w3.cell? ⟨gb249, 3, none⟩ = some (.int .i64 a0_3) := (blk_cell BK249.out 3).trans rfl; have hcz4_4 : w3.cell? ⟨gb249, 4, none⟩ = some (.int .i64 a0_4) := (blk_cell BK249.out 4).trans rfl; have hfz4_0 := blk_frozen BK249.out 0; have hfz4_1 := blk_frozen BK249.out 1; have hfz4_2 := blk_frozen BK249.out 2; have hfz4_3 := blk_frozen BK249.out 3; have hfz4_4 := blk_frozen BK249.out 4))
  go_ret
  exact ⟨zqR, zqG HB.out GE249.out⟩
def pianolaref03_bridge.f (a0_0 : Int) (a0_1 : Int) (a0_2 : Int) (a0_3 : Int) (a0_4 : Int) (a1 : Int) : Option (Bool) := if (wrap64 (a1 * a0_0)) ≥ (wrap64 (1000 * a0_3)) then (some (decide ((wrap64 (a1 * a0_1)) < (wrap64 (1000 * a0_4))))) else (some false)
set_option maxHeartbeats 8000000 in
set_option maxRecDepth 100000 in
theorem pianolaref03_bridge.calls (a0_0 : Int) (a0_1 : Int) (a0_2 : Int) (a0_3 : Int) (a0_4 : Int) (a1 : Int) (r : Bool) (w : World) (h : pianolaref03_bridge.f a0_0 a0_1 a0_2 a0_3 a0_4 a1 = some r) :
  Calls Try.prog 73 #[.agg #[.int .i64 a0_0, .int .i64 a0_1, .int .i64 a0_2, .int .i64 a0_3, .int .i64 a0_4], .int .i64 a1] w fun e w' => e = .returned (.bool r) ∧ Below w.heap.size w w' := by
 have hu58 := Try.underlying58
 have HB := zA (Below.refl w.heap.size w)
 have H : (if (wrap64 (a1 * a0_0)) ≥ (wrap64 (1000 * a0_3)) then (some (decide ((wrap64 (a1 * a0_1)) < (wrap64 (1000 * a0_4))))) else (some false)) = some r := h
 clear h
 by_cases c3 : (wrap64 (a1 * a0_0)) ≥ (wrap64 (1000 * a0_3))
 ·
  rw [if_pos c3] at H
  have c3b0 : decide ((wrap64 (1000 * a0_3)) ≤ (wrap64 (a1 * a0_0))) = true := decide_eq_true c3
  clear c3
  obtain rfl := Option.some.inj H
  go_enter Try.func73, Try.ntmps73
  go_wp2_with (first | ((with_reducible refine gate_dst (N := 2) rfl ?_); refine box_event ?hg (N := 2) ?hd (cs := #[.int .i64 a0_0, .int .i64 a0_1, .int .i64 a0_2, .int .i64 a0_3, .int .i64 a0_4]) (t := 58) ?hr ?_; (case hd => rfl); (case hg => rfl); (case hr => first | (go_simp; done) | (go_simp; rfl)); intro gb250 hg w4 hbox hb; have n0_ := zA (below_step (zqA HB.out) hb); have n1_ := zA (hbox); have n2_ := zA ((by rw [hg]; exact (below_size (zqA HB.out)) : w.heap.size ≤ gb250)); have n3_ := zA ((by rw [hg]; exact (below_size (zqA HB.out)) : w.heap.size ≤ gb250)); clear HB; have HB := n0_; have BK250 := n1_; have GW250 := n2_; have GE250 := n3_; clear n0_ n1_ n2_ n3_; clear hb hbox hg; have hcz5_0 : w4.cell? ⟨gb250, 0, none⟩ = some (.int .i64 a0_0) := (blk_cell BK250.out 0).trans rfl; have hcz5_1 : w4.cell? ⟨gb250, 1, none⟩ = some (.int .i64 a0_1) := (blk_cell BK250.out 1).trans rfl; have hcz5_2 : w4.cell? ⟨gb250, 2, none⟩ = some (.int .i64 a0_2) := (blk_cell BK250.out 2).trans rfl; have hcz5_3 : w4.cell? ⟨gb250, 3, none⟩ = some (.int .i64 a0_3) := (blk_cell BK250.out 3).trans rfl; have hcz5_4 : w4.cell? ⟨gb250, 4, none⟩ = some (.int .i64 a0_4) := (blk_cell BK250.out 4).trans rfl; have hfz5_0 := blk_frozen BK250.out 0; have hfz5_1 := blk_frozen BK250.out 1; have hfz5_2 := blk_frozen BK250.out 2; have hfz5_3 := blk_frozen BK250.out 3; have hfz5_4 := blk_frozen BK250.out 4))
  go_ret
  exact ⟨zqR, zqG HB.out GE250.out⟩
 ·
  rw [if_neg c3] at H
  have c3b0 : decide ((wrap64 (1000 * a0_3)) ≤ (wrap64 (a1 * a0_0))) = false := decide_eq_false c3
  clear c3
  obtain rfl := Option.some.inj H
  go_enter Try.func73, Try.ntmps73
  go_wp2_with (first | ((with_reducible refine gate_dst (N := 2) rfl ?_); refine box_event ?hg (N := 2) ?hd (cs := #[.int .i64 a0_0, .int .i64 a0_1, .int .i64 a0_2, .int .i64 a0_3, .int .i64 a0_4]) (t := 58) ?hr ?_; (case hd => rfl); (case hg => rfl); (case hr => first | (go_simp; done) | (go_simp; rfl)); intro gb250 hg w6 hbox hb; have n0_ := zA (below_step (zqA HB.out) hb); have n1_ := zA (hbox); have n2_ := zA ((by rw [hg]; exact (below_size (zqA HB.out)) : w.heap.size ≤ gb250)); have n3_ := zA ((by rw [hg]; exact (below_size (zqA HB.out)) : w.heap.size ≤ gb250)); clear HB; have HB := n0_; have BK250 := n1_; have GW250 := n2_; have GE250 := n3_; clear n0_ n1_ n2_ n3_; clear hb hbox hg; have hcz7_0 : w6.cell? ⟨gb250, 0, none⟩ = some (.int .i64 a0_0) := (blk_cell BK250.out 0).trans rfl; have hcz7_1 : w6.cell? ⟨gb250, 1, none⟩ = some (.int .i64 a0_1) := (blk_cell BK250.out 1).trans rfl; have hcz7_2 : w6.cell? ⟨gb250, 2, none⟩ = some (.int .i64 a0_2) := (blk_cell BK250.out 2).trans rfl; have hcz7_3 : w6.cell? ⟨gb250, 3, none⟩ = some (.int .i64 a0_3) := (blk_cell BK250.out 3).trans rfl; have hcz7_4 : w6.cell? ⟨gb250, 4, none⟩ = some (.int .i64 a0_4) := (blk_cell BK250.out 4).trans rfl; have hfz7_0 := blk_frozen BK250.out 0; have hfz7_1 := blk_frozen BK250.out 1; have hfz7_2 := blk_frozen BK250.out 2; have hfz7_3 := blk_frozen BK250.out 3; have hfz7_4 := blk_frozen BK250.out 4))
  go_ret
  exact ⟨zqR, zqG HB.out GE250.out⟩
mutual
def pianolaref03_Bars.l0 : Nat → Int → Int → Int → Int → Int → Int → Int → Int → Int → Int → Option (Int × Int × Int × Int × Int)
  | 0, _, _, _, _, _, _, _, _, _, _ => none
  | k + 1, x8, x252000, x252001, x252002, x252003, x252004, x256000, x256001, x257000, x257001 => if x8 ≤ 1200 then ((pianolaref03_hole.f x252000 x252001 x252002 x252003 x252004 x8).bind fun t257 => (if t257 = true then (pianolaref03_Bars.j1 k x8 x252000 x252001 x252002 x252003 x252004 1 x8 x257000 x257001) else (pianolaref03_Bars.j1 k x8 x252000 x252001 x252002 x252003 x252004 x256000 x256001 x257000 x257001))) else (if x256001 = 0 then (some (0, 0, 0, 0, 20)) else (some (x256000, x256001, x257000, x257001, 0)))
def pianolaref03_Bars.j1 : Nat → Int → Int → Int → Int → Int → Int → Int → Int → Int → Int → Option (Int × Int × Int × Int × Int)
  | 0, _, _, _, _, _, _, _, _, _, _ => none
  | k + 1, x8, x252000, x252001, x252002, x252003, x252004, x256000, x256001, x257000, x257001 => (pianolaref03_bridge.f x252000 x252001 x252002 x252003 x252004 x8).bind fun t258 => (if t258 = true then (if x257000 = 0 then (pianolaref03_Bars.l0 k (wrap64 (x8 + 1)) x252000 x252001 x252002 x252003 x252004 x256000 x256001 x8 x8) else (pianolaref03_Bars.l0 k (wrap64 (x8 + 1)) x252000 x252001 x252002 x252003 x252004 x256000 x256001 x257000 x8)) else (pianolaref03_Bars.l0 k (wrap64 (x8 + 1)) x252000 x252001 x252002 x252003 x252004 x256000 x256001 x257000 x257001))
end
def pianolaref03_Bars.f (k : Nat) (a0_0 : Int) (a0_1 : Int) (a0_2 : Int) (a0_3 : Int) (a0_4 : Int) : Option (Int × Int × Int × Int × Int) := (pianolaref03_paper.f a0_0 a0_1 a0_2 a0_3 a0_4).bind fun t254 => (if t254 = 0 then (pianolaref03_Bars.l0 k 1 a0_0 a0_1 a0_2 a0_3 a0_4 0 0 0 0) else (some (0, 0, 0, 0, t254)))
set_option maxHeartbeats 8000000 in
set_option maxRecDepth 100000 in
theorem pianolaref03_Bars.calls (k : Nat) (a0_0 : Int) (a0_1 : Int) (a0_2 : Int) (a0_3 : Int) (a0_4 : Int) (r1 : Int) (r2 : Int) (r3 : Int) (r4 : Int) (r5 : Int) (w : World) (h : pianolaref03_Bars.f k a0_0 a0_1 a0_2 a0_3 a0_4 = some (r1, r2, r3, r4, r5)) :
  Calls Try.prog 31 #[.agg #[.int .i64 a0_0, .int .i64 a0_1, .int .i64 a0_2, .int .i64 a0_3, .int .i64 a0_4]] w fun e w' => e = .returned (.tuple #[.agg #[.int .i64 r1, .int .i64 r2], .agg #[.int .i64 r3, .int .i64 r4], .int .i64 r5]) ∧ Below w.heap.size w w' := by
 have hu58 := Try.underlying58
 have hu55 := Try.underlying55
 have HB := zA (Below.refl w.heap.size w)
 have H : ((pianolaref03_paper.f a0_0 a0_1 a0_2 a0_3 a0_4).bind fun t254 => (if t254 = 0 then (pianolaref03_Bars.l0 k 1 a0_0 a0_1 a0_2 a0_3 a0_4 0 0 0 0) else (some (0, 0, 0, 0, t254)))) = some (r1, r2, r3, r4, r5) := h
 clear h
 replace H := Option.bind_eq_some_iff.mp H
 obtain ⟨t254, A20, H⟩ := H
 replace H : (if t254 = 0 then (pianolaref03_Bars.l0 k 1 a0_0 a0_1 a0_2 a0_3 a0_4 0 0 0 0) else (some (0, 0, 0, 0, t254))) = some (r1, r2, r3, r4, r5) := H
 have A2 := zA A20
 clear A20
 by_cases c3 : t254 = 0
 ·
  rw [if_pos c3] at H
  have c3b0 : (t254 == 0) = true := beq_iff_eq.mpr c3
  have c3b1 : (t254 != 0) = false := bne_eq_false_iff_eq.mpr c3
  clear c3
  have H' := zA H
  clear H
  go_enter Try.func31, Try.ntmps31
  go_wp2_with (first | ((with_reducible refine gate_dst (N := 1) rfl ?_); refine box_event ?hg (N := 1) ?hd (cs := #[.int .i64 a0_0, .int .i64 a0_1, .int .i64 a0_2, .int .i64 a0_3, .int .i64 a0_4]) (t := 58) ?hr ?_; (case hd => rfl); (case hg => rfl); (case hr => first | (go_simp; done) | (go_simp; rfl)); intro gb251 hg w4 hbox hb; have n0_ := zA (below_step (zqA HB.out) hb); have n1_ := zA (hbox); have n2_ := zA ((by rw [hg]; exact (below_size (zqA HB.out)) : w.heap.size ≤ gb251)); have n3_ := zA ((by rw [hg]; exact (below_size (zqA HB.out)) : w.heap.size ≤ gb251)); clear HB; have HB := n0_; have BK251 := n1_; have GW251 := n2_; have GE251 := n3_; clear n0_ n1_ n2_ n3_; clear hb hbox hg) | ((with_reducible refine gate_dst (N := 2) rfl ?_); refine box_event ?hg (N := 2) ?hd (cs := #[.int .i64 0, .int .i64 0]) (t := 55) ?hr ?_; (case hd => rfl); (case hg => rfl); (case hr => first | (go_simp; done) | (go_simp; rfl)); intro gb252 hg w5 hbox hb; have n0_ := zA (blk_below (g := gb251) (o := .cells #[.int .i64 a0_0, .int .i64 a0_1, .int .i64 a0_2, .int .i64 a0_3, .int .i64 a0_4] 58 (0, 0)) (zqB BK251.out) hb); have n1_ := zA (below_step (zqG HB.out GE251.out) hb); have n2_ := zA (hbox); have n3_ := zA ((by rw [hg]; exact (below_size (zqG HB.out GE251.out)) : w.heap.size ≤ gb252)); have n4_ := zA ((by rw [hg]; exact (below_size (zqG HB.out GE251.out)) : w.heap.size ≤ gb252)); have n5_ := zA ((by rw [hg]; exact Nat.ne_of_lt (blk_lt (g := gb251) (o := .cells #[.int .i64 a0_0, .int .i64 a0_1, .int .i64 a0_2, .int .i64 a0_3, .int .i64 a0_4] 58 (0, 0)) (zqB BK251.out)) : gb251 ≠ gb252)); have n6_ := zA ((by rw [hg]; exact Nat.ne_of_gt (blk_lt (g := gb251) (o := .cells #[.int .i64 a0_0, .int .i64 a0_1, .int .i64 a0_2, .int .i64 a0_3, .int .i64 a0_4] 58 (0, 0)) (zqB BK251.out)) : gb252 ≠ gb251)); clear BK251; clear HB; have BK251 := n0_; have HB := n1_; have BK252 := n2_; have GW252 := n3_; have GE252 := n4_; have NB251_252 := n5_; have NB252_251 := n6_; clear n0_ n1_ n2_ n3_ n4_ n5_ n6_; clear hb hbox hg) | ((with_reducible refine gate_dst (N := 3) rfl ?_); refine box_event ?hg (N := 3) ?hd (cs := #[.int .i64 0, .int .i64 0]) (t := 55) ?hr ?_; (case hd => rfl); (case hg => rfl); (case hr => first | (go_simp; done) | (go_simp; rfl)); intro gb253 hg w6 hbox hb; have n0_ := zA (blk_below (g := gb251) (o := .cells #[.int .i64 a0_0, .int .i64 a0_1, .int .i64 a0_2, .int .i64 a0_3, .int .i64 a0_4] 58 (0, 0)) (zqB BK251.out) hb); have n1_ := zA (blk_below (g := gb252) (o := .cells #[.int .i64 0, .int .i64 0] 55 (0, 0)) (zqB BK252.out) hb); have n2_ := zA (below_step (zqH HB.out GE251.out GE252.out) hb); have n3_ := zA (hbox); have n4_ := zA ((by rw [hg]; exact (below_size (zqH HB.out GE251.out GE252.out)) : w.heap.size ≤ gb253)); have n5_ := zA ((by rw [hg]; exact (below_size (zqH HB.out GE251.out GE252.out)) : w.heap.size ≤ gb253)); have n6_ := zA ((by rw [hg]; exact Nat.ne_of_lt (blk_lt (g := gb251) (o := .cells #[.int .i64 a0_0, .int .i64 a0_1, .int .i64 a0_2, .int .i64 a0_3, .int .i64 a0_4] 58 (0, 0)) (zqB BK251.out)) : gb251 ≠ gb253)); have n7_ := zA ((by rw [hg]; exact Nat.ne_of_gt (blk_lt (g := gb251) (o := .cells #[.int .i64 a0_0, .int .i64 a0_1, .int .i64 a0_2, .int .i64 a0_3, .int .i64 a0_4] 58 (0, 0)) (zqB BK251.out)) : gb253 ≠ gb251)); have n8_ := zA ((by rw [hg]; exact Nat.ne_of_lt (blk_lt (g := gb252) (o := .cells #[.int .i64 0, .int .i64 0] 55 (0, 0)) (zqB BK252.out)) : gb252 ≠ gb253)); have n9_ := zA ((by rw [hg]; exact Nat.ne_of_gt (blk_lt (g := gb252) (o := .cells #[.int .i64 0, .int .i64 0] 55 (0, 0)) (zqB BK252.out)) : gb253 ≠ gb252)); clear BK251; clear BK252; clear HB; have BK251 := n0_; have BK252 := n1_; have HB := n2_; have BK253 := n3_; have GW253 := n4_; have GE253 := n5_; have NB251_253 := n6_; have NB253_251 := n7_; have NB252_253 := n8_; have NB253_252 := n9_; clear n0_ n1_ n2_ n3_ n4_ n5_ n6_ n7_ n8_ n9_; clear hb hbox hg; have hnb7 := NB251_252.out; have hnc7 := NB252_251.out; have hnb8 := NB251_253.out; have hnc8 := NB253_251.out; have hcz9_0 : w6.cell? ⟨gb251, 0, none⟩ = some (.int .i64 a0_0) := (blk_cell BK251.out 0).trans rfl; have hcz9_1 : w6.cell? ⟨gb251, 1, none⟩ = some (.int .i64 a0_1) := (blk_cell BK251.out 1).trans rfl; have hcz9_2 : w6.cell? ⟨gb251, 2, none⟩ = some (.int .i64 a0_2) := (blk_cell BK251.out 2).trans rfl; have hcz9_3 : w6.cell? ⟨gb251, 3, none⟩ = some (.int .i64 a0_3) := (blk_cell BK251.out 3).trans rfl; have hcz9_4 : w6.cell? ⟨gb251, 4, none⟩ = some (.int .i64 a0_4) := (blk_cell BK251.out 4).trans rfl; have hfz9_0 := blk_frozen BK251.out 0; have hfz9_1 := blk_frozen BK251.out 1; have hfz9_2 := blk_frozen BK251.out 2; have hfz9_3 := blk_frozen BK251.out 3; have hfz9_4 := blk_frozen BK251.out 4) | ((with_reducible refine gate_callee (f := 71) rfl ?_); refine goesL_ (some 10) rfl rfl Try.func71 (by kernel_rfl) rfl #[.agg #[.int .i64 a0_0, .int .i64 a0_1, .int .i64 a0_2, .int .i64 a0_3, .int .i64 a0_4]] rfl zqE ?_; (with_reducible refine (pianolaref03_paper.calls a0_0 a0_1 a0_2 a0_3 a0_4 t254 _ A2.out).mono ?_); rintro e w10 ⟨rfl, hb⟩; refine ⟨_, rfl, ?_⟩; have n0_ := zA (blk_below (g := gb251) (o := .cells #[.int .i64 a0_0, .int .i64 a0_1, .int .i64 a0_2, .int .i64 a0_3, .int .i64 a0_4] 58 (0, 0)) (zqB BK251.out) hb); have n1_ := zA (blk_below (g := gb252) (o := .cells #[.int .i64 0, .int .i64 0] 55 (0, 0)) (zqB BK252.out) hb); have n2_ := zA (blk_below (g := gb253) (o := .cells #[.int .i64 0, .int .i64 0] 55 (0, 0)) (zqB BK253.out) hb); have n3_ := zA (below_step (zqI HB.out GE251.out GE252.out GE253.out) hb); clear BK251; clear BK252; clear BK253; clear HB; have BK251 := n0_; have BK252 := n1_; have BK253 := n2_; have HB := n3_; clear n0_ n1_ n2_ n3_; (try clear hb); (try clear hb2); (try clear hk); (try clear hi)) | ((with_reducible refine gate_dst (N := 6) rfl ?_); refine box_event ?hg (N := 6) ?hd (cs := #[.int .i64 0, .int .i64 0]) (t := 55) ?hr ?_; (case hd => rfl); (case hg => rfl); (case hr => first | (go_simp; done) | (go_simp; rfl)); intro gb255 hg w11 hbox hb; have n0_ := zA (blk_below (g := gb251) (o := .cells #[.int .i64 a0_0, .int .i64 a0_1, .int .i64 a0_2, .int .i64 a0_3, .int .i64 a0_4] 58 (0, 0)) (zqB BK251.out) hb); have n1_ := zA (blk_below (g := gb252) (o := .cells #[.int .i64 0, .int .i64 0] 55 (0, 0)) (zqB BK252.out) hb); have n2_ := zA (blk_below (g := gb253) (o := .cells #[.int .i64 0, .int .i64 0] 55 (0, 0)) (zqB BK253.out) hb); have n3_ := zA (below_step (zqI HB.out GE251.out GE252.out GE253.out) hb); have n4_ := zA (hbox); have n5_ := zA ((by rw [hg]; exact (below_size (zqI HB.out GE251.out GE252.out GE253.out)) : w.heap.size ≤ gb255)); have n6_ := zA ((by rw [hg]; exact (below_size (zqI HB.out GE251.out GE252.out GE253.out)) : w.heap.size ≤ gb255)); have n7_ := zA ((by rw [hg]; exact Nat.ne_of_lt (blk_lt (g := gb251) (o := .cells #[.int .i64 a0_0, .int .i64 a0_1, .int .i64 a0_2, .int .i64 a0_3, .int .i64 a0_4] 58 (0, 0)) (zqB BK251.out)) : gb251 ≠ gb255)); have n8_ := zA ((by rw [hg]; exact Nat.ne_of_gt (blk_lt (g := gb251) (o := .cells #[.int .i64 a0_0, .int .i64 a0_1, .int .i64 a0_2, .int .i64 a0_3, .int .i64 a0_4] 58 (0, 0)) (zqB BK251.out)) : gb255 ≠ gb251)); have n9_ := zA ((by rw [hg]; exact Nat.ne_of_lt (blk_lt (g := gb252) (o := .cells #[.int .i64 0, .int .i64 0] 55 (0, 0)) (zqB BK252.out)) : gb252 ≠ gb255)); have n10_ := zA ((by rw [hg]; exact Nat.ne_of_gt (blk_lt (g := gb252) (o := .cells #[.int .i64 0, .int .i64 0] 55 (0, 0)) (zqB BK252.out)) : gb255 ≠ gb252)); have n11_ := zA ((by rw [hg]; exact Nat.ne_of_lt (blk_lt (g := gb253) (o := .cells #[.int .i64 0, .int .i64 0] 55 (0, 0)) (zqB BK253.out)) : gb253 ≠ gb255)); have n12_ := zA ((by rw [hg]; exact Nat.ne_of_gt (blk_lt (g := gb253) (o := .cells #[.int .i64 0, .int .i64 0] 55 (0, 0)) (zqB BK253.out)) : gb255 ≠ gb253)); clear BK251; clear BK252; clear BK253; clear HB; have BK251 := n0_; have BK252 := n1_; have BK253 := n2_; have HB := n3_; have BK255 := n4_; have GW255 := n5_; have GE255 := n6_; have NB251_255 := n7_; have NB255_251 := n8_; have NB252_255 := n9_; have NB255_252 := n10_; have NB253_255 := n11_; have NB255_253 := n12_; clear n0_ n1_ n2_ n3_ n4_ n5_ n6_ n7_ n8_ n9_ n10_ n11_ n12_; clear hb hbox hg) | ((with_reducible refine gate_dst (N := 7) rfl ?_); refine box_event ?hg (N := 7) ?hd (cs := #[.int .i64 0, .int .i64 0]) (t := 55) ?hr ?_; (case hd => rfl); (case hg => rfl); (case hr => first | (go_simp; done) | (go_simp; rfl)); intro gb256 hg w12 hbox hb; have n0_ := zA (blk_below (g := gb251) (o := .cells #[.int .i64 a0_0, .int .i64 a0_1, .int .i64 a0_2, .int .i64 a0_3, .int .i64 a0_4] 58 (0, 0)) (zqB BK251.out) hb); have n1_ := zA (blk_below (g := gb252) (o := .cells #[.int .i64 0, .int .i64 0] 55 (0, 0)) (zqB BK252.out) hb); have n2_ := zA (blk_below (g := gb253) (o := .cells #[.int .i64 0, .int .i64 0] 55 (0, 0)) (zqB BK253.out) hb); have n3_ := zA (blk_below (g := gb255) (o := .cells #[.int .i64 0, .int .i64 0] 55 (0, 0)) (zqB BK255.out) hb); have n4_ := zA (below_step (zqJ HB.out GE251.out GE252.out GE253.out GE255.out) hb); have n5_ := zA (hbox); have n6_ := zA ((by rw [hg]; exact (below_size (zqJ HB.out GE251.out GE252.out GE253.out GE255.out)) : w.heap.size ≤ gb256)); have n7_ := zA ((by rw [hg]; exact (below_size (zqJ HB.out GE251.out GE252.out GE253.out GE255.out)) : w.heap.size ≤ gb256)); have n8_ := zA ((by rw [hg]; exact Nat.ne_of_lt (blk_lt (g := gb251) (o := .cells #[.int .i64 a0_0, .int .i64 a0_1, .int .i64 a0_2, .int .i64 a0_3, .int .i64 a0_4] 58 (0, 0)) (zqB BK251.out)) : gb251 ≠ gb256)); have n9_ := zA ((by rw [hg]; exact Nat.ne_of_gt (blk_lt (g := gb251) (o := .cells #[.int .i64 a0_0, .int .i64 a0_1, .int .i64 a0_2, .int .i64 a0_3, .int .i64 a0_4] 58 (0, 0)) (zqB BK251.out)) : gb256 ≠ gb251)); have n10_ := zA ((by rw [hg]; exact Nat.ne_of_lt (blk_lt (g := gb252) (o := .cells #[.int .i64 0, .int .i64 0] 55 (0, 0)) (zqB BK252.out)) : gb252 ≠ gb256)); have n11_ := zA ((by rw [hg]; exact Nat.ne_of_gt (blk_lt (g := gb252) (o := .cells #[.int .i64 0, .int .i64 0] 55 (0, 0)) (zqB BK252.out)) : gb256 ≠ gb252)); have n12_ := zA ((by rw [hg]; exact Nat.ne_of_lt (blk_lt (g := gb253) (o := .cells #[.int .i64 0, .int .i64 0] 55 (0, 0)) (zqB BK253.out)) : gb253 ≠ gb256)); have n13_ := zA ((by rw [hg]; exact Nat.ne_of_gt (blk_lt (g := gb253) (o := .cells #[.int .i64 0, .int .i64 0] 55 (0, 0)) (zqB BK253.out)) : gb256 ≠ gb253)); have n14_ := zA ((by rw [hg]; exact Nat.ne_of_lt (blk_lt (g := gb255) (o := .cells #[.int .i64 0, .int .i64 0] 55 (0, 0)) (zqB BK255.out)) : gb255 ≠ gb256)); have n15_ := zA ((by rw [hg]; exact Nat.ne_of_gt (blk_lt (g := gb255) (o := .cells #[.int .i64 0, .int .i64 0] 55 (0, 0)) (zqB BK255.out)) : gb256 ≠ gb255)); clear BK251; clear BK252; clear BK253; clear BK255; clear HB; have BK251 := n0_; have BK252 := n1_; have BK253 := n2_; have BK255 := n3_; have HB := n4_; have BK256 := n5_; have GW256 := n6_; have GE256 := n7_; have NB251_256 := n8_; have NB256_251 := n9_; have NB252_256 := n10_; have NB256_252 := n11_; have NB253_256 := n12_; have NB256_253 := n13_; have NB255_256 := n14_; have NB256_255 := n15_; clear n0_ n1_ n2_ n3_ n4_ n5_ n6_ n7_ n8_ n9_ n10_ n11_ n12_ n13_ n14_ n15_; clear hb hbox hg))
  go_loopg [8] k (fun kq v8 w' => ∃ (x8_1 : Int) (x256000_1 : Int) (x256001_1 : Int) (x257000_1 : Int) (x257001_1 : Int), v8 = .int .i64 x8_1 ∧ Aside0 (pianolaref03_Bars.l0 kq x8_1 a0_0 a0_1 a0_2 a0_3 a0_4 x256000_1 x256001_1 x257000_1 x257001_1 = some (r1, r2, r3, r4, r5)) ∧ Aside0 (kq ≤ k) ∧ Aside0 (w'.heap[gb251]? = some (.cells #[.int .i64 a0_0, .int .i64 a0_1, .int .i64 a0_2, .int .i64 a0_3, .int .i64 a0_4] 58 (0, 0))) ∧ Aside0 (w'.heap[gb252]? = some (.cells #[.int .i64 0, .int .i64 0] 55 (0, 0))) ∧ Aside0 (w'.heap[gb253]? = some (.cells #[.int .i64 0, .int .i64 0] 55 (0, 0))) ∧ Aside0 (w'.heap[gb255]? = some (.cells #[.int .i64 x256000_1, .int .i64 x256001_1] 55 (0, 0))) ∧ Aside0 (w'.heap[gb256]? = some (.cells #[.int .i64 x257000_1, .int .i64 x257001_1] 55 (0, 0))) ∧ Aside0 (Below w.heap.size w w'))
  case atStart => exact ⟨(1), (0), (0), (0), (0), zqQ, H', ⟨Nat.le_refl _⟩, ⟨zqB BK251.out⟩, ⟨zqB BK252.out⟩, ⟨zqB BK253.out⟩, ⟨zqB BK255.out⟩, ⟨zqB BK256.out⟩, ⟨by repeat (first | (with_reducible first | exact HB.out | apply below_alloc | apply pw_below_drewN | apply below_drew1 | refine below_set ?_ GE251.out | refine below_set ?_ GE252.out | refine below_set ?_ GE253.out | refine below_set ?_ GE255.out | refine below_set ?_ GE256.out) | exact HB.out)⟩⟩
  case round =>
   clear H'
   try clear p2
   try clear c3
   try clear c3b0
   try clear c3b1
   try clear c7
   try clear c8
   try clear hcz9_0
   try clear hcz9_1
   try clear hcz9_2
   try clear hcz9_3
   try clear hcz9_4
   try clear hfz9_0
   try clear hfz9_1
   try clear hfz9_2
   try clear hfz9_3
   try clear hfz9_4
   obtain ⟨x8_1, x256000_1, x256001_1, x257000_1, x257001_1, rfl, HA, HK1, BK251, BK252, BK253, BK255, BK256, HB⟩ := hrel
   cases gk with
   | zero => exact absurd HA.out (by simp [pianolaref03_Bars.l0])
   | succ k1 =>
    have H := HA.out
    clear HA
    simp only [pianolaref03_Bars.l0] at H
    by_cases c13 : x8_1 ≤ 1200
    ·
     rw [if_pos c13] at H
     have c13b0 : decide (x8_1 ≤ 1200) = true := decide_eq_true c13
     clear c13
     replace H := Option.bind_eq_some_iff.mp H
     obtain ⟨t257, A140, H⟩ := H
     replace H : (if t257 = true then (pianolaref03_Bars.j1 k1 x8_1 a0_0 a0_1 a0_2 a0_3 a0_4 1 x8_1 x257000_1 x257001_1) else (pianolaref03_Bars.j1 k1 x8_1 a0_0 a0_1 a0_2 a0_3 a0_4 x256000_1 x256001_1 x257000_1 x257001_1)) = some (r1, r2, r3, r4, r5) := H
     have A14 := zA A140
     clear A140
     have HC15 := zA H
     clear H
     have hnb16 := NB251_252.out
     have hnc16 := NB252_251.out
     have hnb17 := NB251_253.out
     have hnc17 := NB253_251.out
     have hnb18 := NB251_255.out
     have hnc18 := NB255_251.out
     have hnb19 := NB251_256.out
     have hnc19 := NB256_251.out
     have hcz20_0 : wr.cell? ⟨gb251, 0, none⟩ = some (.int .i64 a0_0) := (blk_cell BK251.out 0).trans rfl
     have hcz20_1 : wr.cell? ⟨gb251, 1, none⟩ = some (.int .i64 a0_1) := (blk_cell BK251.out 1).trans rfl
     have hcz20_2 : wr.cell? ⟨gb251, 2, none⟩ = some (.int .i64 a0_2) := (blk_cell BK251.out 2).trans rfl
     have hcz20_3 : wr.cell? ⟨gb251, 3, none⟩ = some (.int .i64 a0_3) := (blk_cell BK251.out 3).trans rfl
     have hcz20_4 : wr.cell? ⟨gb251, 4, none⟩ = some (.int .i64 a0_4) := (blk_cell BK251.out 4).trans rfl
     have hfz20_0 := blk_frozen BK251.out 0
     have hfz20_1 := blk_frozen BK251.out 1
     have hfz20_2 := blk_frozen BK251.out 2
     have hfz20_3 := blk_frozen BK251.out 3
     have hfz20_4 := blk_frozen BK251.out 4
     go_upto_if 22 with (first | ((with_reducible refine gate_callee (f := 72) rfl ?_); refine goesL_ (some 22) rfl rfl Try.func72 (by kernel_rfl) rfl #[.agg #[.int .i64 a0_0, .int .i64 a0_1, .int .i64 a0_2, .int .i64 a0_3, .int .i64 a0_4], .int .i64 x8_1] rfl zqE ?_; (with_reducible refine (pianolaref03_hole.calls a0_0 a0_1 a0_2 a0_3 a0_4 x8_1 t257 _ A14.out).mono ?_); rintro e w21 ⟨rfl, hb⟩; refine ⟨_, rfl, ?_⟩; have n0_ := zA (blk_below (g := gb251) (o := .cells #[.int .i64 a0_0, .int .i64 a0_1, .int .i64 a0_2, .int .i64 a0_3, .int .i64 a0_4] 58 (0, 0)) (zqB BK251.out) hb); have n1_ := zA (blk_below (g := gb252) (o := .cells #[.int .i64 0, .int .i64 0] 55 (0, 0)) (zqB BK252.out) hb); have n2_ := zA (blk_below (g := gb253) (o := .cells #[.int .i64 0, .int .i64 0] 55 (0, 0)) (zqB BK253.out) hb); have n3_ := zA (blk_below (g := gb255) (o := .cells #[.int .i64 x256000_1, .int .i64 x256001_1] 55 (0, 0)) (zqB BK255.out) hb); have n4_ := zA (blk_below (g := gb256) (o := .cells #[.int .i64 x257000_1, .int .i64 x257001_1] 55 (0, 0)) (zqB BK256.out) hb); have n5_ := zA (below_step (by repeat (first | (with_reducible first | exact HB.out | apply below_alloc | apply pw_below_drewN | apply below_drew1 | refine below_set ?_ GE251.out | refine below_set ?_ GE252.out | refine below_set ?_ GE253.out | refine below_set ?_ GE255.out | refine below_set ?_ GE256.out) | exact HB.out)) hb); clear BK251; clear BK252; clear BK253; clear BK255; clear BK256; clear HB; have BK251 := n0_; have BK252 := n1_; have BK253 := n2_; have BK255 := n3_; have BK256 := n4_; have HB := n5_; clear n0_ n1_ n2_ n3_ n4_ n5_; (try clear hb); (try clear hb2); (try clear hk); (try clear hi)))
     (try simp only [Act.put, List.setIfInBounds_toArray, List.set_cons_zero, List.set_cons_succ])
     go_cut [] (fun wc => ∃ (kq : Nat) (x256000_14 : Int) (x256001_14 : Int), Aside0 (pianolaref03_Bars.j1 kq x8_1 a0_0 a0_1 a0_2 a0_3 a0_4 x256000_14 x256001_14 x257000_1 x257001_1 = some (r1, r2, r3, r4, r5)) ∧ Aside0 (kq ≤ k1) ∧ Aside0 (wc.heap[gb251]? = some (.cells #[.int .i64 a0_0, .int .i64 a0_1, .int .i64 a0_2, .int .i64 a0_3, .int .i64 a0_4] 58 (0, 0))) ∧ Aside0 (wc.heap[gb252]? = some (.cells #[.int .i64 0, .int .i64 0] 55 (0, 0))) ∧ Aside0 (wc.heap[gb253]? = some (.cells #[.int .i64 0, .int .i64 0] 55 (0, 0))) ∧ Aside0 (wc.heap[gb255]? = some (.cells #[.int .i64 x256000_14, .int .i64 x256001_14] 55 (0, 0))) ∧ Aside0 (wc.heap[gb256]? = some (.cells #[.int .i64 x257000_1, .int .i64 x257001_1] 55 (0, 0))) ∧ Aside0 (Below w.heap.size w wc))
     case first =>
      have H := HC15.out
      clear HC15
      by_cases c22 : t257 = true
      ·
       subst c22
       have H1 : (pianolaref03_Bars.j1 k1 x8_1 a0_0 a0_1 a0_2 a0_3 a0_4 1 x8_1 x257000_1 x257001_1) = some (r1, r2, r3, r4, r5) := by rw [if_pos rfl] at H; exact H
       clear H; have H := H1; clear H1
       have H' := zA H
       clear H
       have hnb23 := NB255_251.out
       have hnc23 := NB251_255.out
       have hnb24 := NB255_252.out
       have hnc24 := NB252_255.out
       have hnb25 := NB255_253.out
       have hnc25 := NB253_255.out
       have hnb26 := NB255_256.out
       have hnc26 := NB256_255.out
       have hcz27_0 : w21.cell? ⟨gb255, 0, none⟩ = some (.int .i64 x256000_1) := (blk_cell BK255.out 0).trans rfl
       have hcz27_1 : w21.cell? ⟨gb255, 1, none⟩ = some (.int .i64 x256001_1) := (blk_cell BK255.out 1).trans rfl
       have hfz27_0 := blk_frozen BK255.out 0
       have hfz27_1 := blk_frozen BK255.out 1
       go_wp2
       go_meet
       case rel => exact ⟨_, (1), (x8_1), H', ⟨by have := HK1.out; first | omega | exact Nat.le_refl _⟩, ⟨by (with_reducible repeat (first | refine blk_drewN ?_ _ | refine blk_drew ?_ | refine blk_alloc ?_ _)); refine blk_far ?_ NB251_255.out _; (with_reducible repeat (first | refine blk_drewN ?_ _ | refine blk_drew ?_ | refine blk_alloc ?_ _)); refine blk_far ?_ NB251_255.out _; (with_reducible repeat (first | refine blk_drewN ?_ _ | refine blk_drew ?_ | refine blk_alloc ?_ _)); exact BK251.out⟩, ⟨by (with_reducible repeat (first | refine blk_drewN ?_ _ | refine blk_drew ?_ | refine blk_alloc ?_ _)); refine blk_far ?_ NB252_255.out _; (with_reducible repeat (first | refine blk_drewN ?_ _ | refine blk_drew ?_ | refine blk_alloc ?_ _)); refine blk_far ?_ NB252_255.out _; (with_reducible repeat (first | refine blk_drewN ?_ _ | refine blk_drew ?_ | refine blk_alloc ?_ _)); exact BK252.out⟩, ⟨by (with_reducible repeat (first | refine blk_drewN ?_ _ | refine blk_drew ?_ | refine blk_alloc ?_ _)); refine blk_far ?_ NB253_255.out _; (with_reducible repeat (first | refine blk_drewN ?_ _ | refine blk_drew ?_ | refine blk_alloc ?_ _)); refine blk_far ?_ NB253_255.out _; (with_reducible repeat (first | refine blk_drewN ?_ _ | refine blk_drew ?_ | refine blk_alloc ?_ _)); exact BK253.out⟩, ⟨by (with_reducible repeat (first | refine blk_drewN ?_ _ | refine blk_drew ?_ | refine blk_alloc ?_ _)); refine blk_put (cs := #[.int .i64 1, .int .i64 x256001_1]) ?_ 1 _ rfl; (with_reducible repeat (first | refine blk_drewN ?_ _ | refine blk_drew ?_ | refine blk_alloc ?_ _)); refine blk_put (cs := #[.int .i64 x256000_1, .int .i64 x256001_1]) ?_ 0 _ rfl; (with_reducible repeat (first | refine blk_drewN ?_ _ | refine blk_drew ?_ | refine blk_alloc ?_ _)); exact BK255.out⟩, ⟨by (with_reducible repeat (first | refine blk_drewN ?_ _ | refine blk_drew ?_ | refine blk_alloc ?_ _)); refine blk_far ?_ NB256_255.out _; (with_reducible repeat (first | refine blk_drewN ?_ _ | refine blk_drew ?_ | refine blk_alloc ?_ _)); refine blk_far ?_ NB256_255.out _; (with_reducible repeat (first | refine blk_drewN ?_ _ | refine blk_drew ?_ | refine blk_alloc ?_ _)); exact BK256.out⟩, ⟨by repeat (first | (with_reducible first | exact HB.out | apply below_alloc | apply pw_below_drewN | apply below_drew1 | refine below_set ?_ GE251.out | refine below_set ?_ GE252.out | refine below_set ?_ GE253.out | refine below_set ?_ GE255.out | refine below_set ?_ GE256.out) | exact HB.out)⟩⟩
      ·
       replace c22 := Bool.eq_false_iff.mpr c22
       subst c22
       have H1 : (pianolaref03_Bars.j1 k1 x8_1 a0_0 a0_1 a0_2 a0_3 a0_4 x256000_1 x256001_1 x257000_1 x257001_1) = some (r1, r2, r3, r4, r5) := by rw [if_neg (show ¬ (false = true) by decide)] at H; exact H
       clear H; have H := H1; clear H1
       have H' := zA H
       clear H
       go_wp2
       go_meet
       case rel => exact ⟨_, (x256000_1), (x256001_1), H', ⟨by have := HK1.out; first | omega | exact Nat.le_refl _⟩, ⟨zqB BK251.out⟩, ⟨zqB BK252.out⟩, ⟨zqB BK253.out⟩, ⟨zqB BK255.out⟩, ⟨zqB BK256.out⟩, ⟨by repeat (first | (with_reducible first | exact HB.out | apply below_alloc | apply pw_below_drewN | apply below_drew1 | refine below_set ?_ GE251.out | refine below_set ?_ GE252.out | refine below_set ?_ GE253.out | refine below_set ?_ GE255.out | refine below_set ?_ GE256.out) | exact HB.out)⟩⟩
     case rest =>
      clear HC15
      try clear c1
      try clear c2
      try clear p2
      try clear c3
      try clear c3b0
      try clear c3b1
      try clear c7
      try clear c8
      try clear c13
      try clear c13b0
      try clear c16
      try clear c17
      try clear c18
      try clear c19
      try clear c22
      try clear c23
      try clear c24
      try clear c25
      try clear c26
      try clear hcz20_0
      try clear hcz20_1
      try clear hcz20_2
      try clear hcz20_3
      try clear hcz20_4
      try clear hcz27_0
      try clear hcz27_1
      try clear hcz9_0
      try clear hcz9_1
      try clear hcz9_2
      try clear hcz9_3
      try clear hcz9_4
      try clear hfz20_0
      try clear hfz20_1
      try clear hfz20_2
      try clear hfz20_3
      try clear hfz20_4
      try clear hfz27_0
      try clear hfz27_1
      try clear hfz9_0
      try clear hfz9_1
      try clear hfz9_2
      try clear hfz9_3
      try clear hfz9_4
      try clear p2
      obtain ⟨kq, x256000_14, x256001_14, HA, HJ14, BK251, BK252, BK253, BK255, BK256, HB⟩ := hcut
      cases kq with
      | zero => exact absurd HA.out (by simp [pianolaref03_Bars.j1])
      | succ kj14 =>
       have H := HA.out
       clear HA
       simp only [pianolaref03_Bars.j1] at H
       replace H := Option.bind_eq_some_iff.mp H
       obtain ⟨t258, A280, H⟩ := H
       replace H : (if t258 = true then (if x257000_1 = 0 then (pianolaref03_Bars.l0 kj14 (wrap64 (x8_1 + 1)) a0_0 a0_1 a0_2 a0_3 a0_4 x256000_14 x256001_14 x8_1 x8_1) else (pianolaref03_Bars.l0 kj14 (wrap64 (x8_1 + 1)) a0_0 a0_1 a0_2 a0_3 a0_4 x256000_14 x256001_14 x257000_1 x8_1)) else (pianolaref03_Bars.l0 kj14 (wrap64 (x8_1 + 1)) a0_0 a0_1 a0_2 a0_3 a0_4 x256000_14 x256001_14 x257000_1 x257001_1)) = some (r1, r2, r3, r4, r5) := H
       have A28 := zA A280
       clear A280
       by_cases c29 : t258 = true
       ·
        subst c29
        have H1 : (if x257000_1 = 0 then (pianolaref03_Bars.l0 kj14 (wrap64 (x8_1 + 1)) a0_0 a0_1 a0_2 a0_3 a0_4 x256000_14 x256001_14 x8_1 x8_1) else (pianolaref03_Bars.l0 kj14 (wrap64 (x8_1 + 1)) a0_0 a0_1 a0_2 a0_3 a0_4 x256000_14 x256001_14 x257000_1 x8_1)) = some (r1, r2, r3, r4, r5) := by rw [if_pos rfl] at H; exact H
        clear H; have H := H1; clear H1
        by_cases c30 : x257000_1 = 0
        ·
         rw [if_pos c30] at H
         have c30b0 : (x257000_1 == 0) = true := beq_iff_eq.mpr c30
         have c30b1 : (x257000_1 != 0) = false := bne_eq_false_iff_eq.mpr c30
         clear c30
         have H' := zA H
         clear H
         have hnb31 := NB251_252.out
         have hnc31 := NB252_251.out
         have hnb32 := NB251_253.out
         have hnc32 := NB253_251.out
         have hnb33 := NB251_255.out
         have hnc33 := NB255_251.out
         have hnb34 := NB251_256.out
         have hnc34 := NB256_251.out
         have hcz35_0 : wc.cell? ⟨gb251, 0, none⟩ = some (.int .i64 a0_0) := (blk_cell BK251.out 0).trans rfl
         have hcz35_1 : wc.cell? ⟨gb251, 1, none⟩ = some (.int .i64 a0_1) := (blk_cell BK251.out 1).trans rfl
         have hcz35_2 : wc.cell? ⟨gb251, 2, none⟩ = some (.int .i64 a0_2) := (blk_cell BK251.out 2).trans rfl
         have hcz35_3 : wc.cell? ⟨gb251, 3, none⟩ = some (.int .i64 a0_3) := (blk_cell BK251.out 3).trans rfl
         have hcz35_4 : wc.cell? ⟨gb251, 4, none⟩ = some (.int .i64 a0_4) := (blk_cell BK251.out 4).trans rfl
         have hfz35_0 := blk_frozen BK251.out 0
         have hfz35_1 := blk_frozen BK251.out 1
         have hfz35_2 := blk_frozen BK251.out 2
         have hfz35_3 := blk_frozen BK251.out 3
         have hfz35_4 := blk_frozen BK251.out 4
         go_wp2_with (first | ((with_reducible refine gate_callee (f := 73) rfl ?_); refine goesL_ (some 27) rfl rfl Try.func73 (by kernel_rfl) rfl #[.agg #[.int .i64 a0_0, .int .i64 a0_1, .int .i64 a0_2, .int .i64 a0_3, .int .i64 a0_4], .int .i64 x8_1] rfl zqE ?_; (with_reducible refine (pianolaref03_bridge.calls a0_0 a0_1 a0_2 a0_3 a0_4 x8_1 true _ A28.out).mono ?_); rintro e w36 ⟨rfl, hb⟩; refine ⟨_, rfl, ?_⟩; have n0_ := zA (blk_below (g := gb251) (o := .cells #[.int .i64 a0_0, .int .i64 a0_1, .int .i64 a0_2, .int .i64 a0_3, .int .i64 a0_4] 58 (0, 0)) (zqB BK251.out) hb); have n1_ := zA (blk_below (g := gb252) (o := .cells #[.int .i64 0, .int .i64 0] 55 (0, 0)) (zqB BK252.out) hb); have n2_ := zA (blk_below (g := gb253) (o := .cells #[.int .i64 0, .int .i64 0] 55 (0, 0)) (zqB BK253.out) hb); have n3_ := zA (blk_below (g := gb255) (o := .cells #[.int .i64 x256000_14, .int .i64 x256001_14] 55 (0, 0)) (zqB BK255.out) hb); have n4_ := zA (blk_below (g := gb256) (o := .cells #[.int .i64 x257000_1, .int .i64 x257001_1] 55 (0, 0)) (zqB BK256.out) hb); have n5_ := zA (below_step (by repeat (first | (with_reducible first | exact HB.out | apply below_alloc | apply pw_below_drewN | apply below_drew1 | refine below_set ?_ GE251.out | refine below_set ?_ GE252.out | refine below_set ?_ GE253.out | refine below_set ?_ GE255.out | refine below_set ?_ GE256.out) | exact HB.out)) hb); clear BK251; clear BK252; clear BK253; clear BK255; clear BK256; clear HB; have BK251 := n0_; have BK252 := n1_; have BK253 := n2_; have BK255 := n3_; have BK256 := n4_; have HB := n5_; clear n0_ n1_ n2_ n3_ n4_ n5_; (try clear hb); (try clear hb2); (try clear hk); (try clear hi); have hnb37 := NB256_252.out; have hnc37 := NB252_256.out; have hnb38 := NB256_253.out; have hnc38 := NB253_256.out; have hnb39 := NB256_255.out; have hnc39 := NB255_256.out; have hcz40_0 : w36.cell? ⟨gb256, 0, none⟩ = some (.int .i64 x257000_1) := (blk_cell BK256.out 0).trans rfl; have hcz40_1 : w36.cell? ⟨gb256, 1, none⟩ = some (.int .i64 x257001_1) := (blk_cell BK256.out 1).trans rfl; have hfz40_0 := blk_frozen BK256.out 0; have hfz40_1 := blk_frozen BK256.out 1))
         go_roundg kj14
         case measure => have := HK1.out; have := HJ14.out; omega
         case rel => exact ⟨(wrap64 (x8_1 + 1)), (x256000_14), (x256001_14), (x8_1), (x8_1), zqQ, H', ⟨by have := HK1.out; have := HJ14.out; omega⟩, ⟨by (with_reducible repeat (first | refine blk_drewN ?_ _ | refine blk_drew ?_ | refine blk_alloc ?_ _)); refine blk_far ?_ NB251_256.out _; (with_reducible repeat (first | refine blk_drewN ?_ _ | refine blk_drew ?_ | refine blk_alloc ?_ _)); refine blk_far ?_ NB251_256.out _; (with_reducible repeat (first | refine blk_drewN ?_ _ | refine blk_drew ?_ | refine blk_alloc ?_ _)); exact BK251.out⟩, ⟨by (with_reducible repeat (first | refine blk_drewN ?_ _ | refine blk_drew ?_ | refine blk_alloc ?_ _)); refine blk_far ?_ NB252_256.out _; (with_reducible repeat (first | refine blk_drewN ?_ _ | refine blk_drew ?_ | refine blk_alloc ?_ _)); refine blk_far ?_ NB252_256.out _; (with_reducible repeat (first | refine blk_drewN ?_ _ | refine blk_drew ?_ | refine blk_alloc ?_ _)); exact BK252.out⟩, ⟨by (with_reducible repeat (first | refine blk_drewN ?_ _ | refine blk_drew ?_ | refine blk_alloc ?_ _)); refine blk_far ?_ NB253_256.out _; (with_reducible repeat (first | refine blk_drewN ?_ _ | refine blk_drew ?_ | refine blk_alloc ?_ _)); refine blk_far ?_ NB253_256.out _; (with_reducible repeat (first | refine blk_drewN ?_ _ | refine blk_drew ?_ | refine blk_alloc ?_ _)); exact BK253.out⟩, ⟨by (with_reducible repeat (first | refine blk_drewN ?_ _ | refine blk_drew ?_ | refine blk_alloc ?_ _)); refine blk_far ?_ NB255_256.out _; (with_reducible repeat (first | refine blk_drewN ?_ _ | refine blk_drew ?_ | refine blk_alloc ?_ _)); refine blk_far ?_ NB255_256.out _; (with_reducible repeat (first | refine blk_drewN ?_ _ | refine blk_drew ?_ | refine blk_alloc ?_ _)); exact BK255.out⟩, ⟨by (with_reducible repeat (first | refine blk_drewN ?_ _ | refine blk_drew ?_ | refine blk_alloc ?_ _)); refine blk_put (cs := #[.int .i64 x8_1, .int .i64 x257001_1]) ?_ 1 _ rfl; (with_reducible repeat (first | refine blk_drewN ?_ _ | refine blk_drew ?_ | refine blk_alloc ?_ _)); refine blk_put (cs := #[.int .i64 x257000_1, .int .i64 x257001_1]) ?_ 0 _ rfl; (with_reducible repeat (first | refine blk_drewN ?_ _ | refine blk_drew ?_ | refine blk_alloc ?_ _)); exact BK256.out⟩, ⟨by repeat (first | (with_reducible first | exact HB.out | apply below_alloc | apply pw_below_drewN | apply below_drew1 | refine below_set ?_ GE251.out | refine below_set ?_ GE252.out | refine below_set ?_ GE253.out | refine below_set ?_ GE255.out | refine below_set ?_ GE256.out) | exact HB.out)⟩⟩
        ·
         rw [if_neg c30] at H
         have c30b0 : (x257000_1 == 0) = false := beq_eq_false_iff_ne.mpr c30
         have c30b1 : (x257000_1 != 0) = true := bne_iff_ne.mpr c30
         have H' := zA H
         clear H
         have hnb41 := NB251_252.out
         have hnc41 := NB252_251.out
         have hnb42 := NB251_253.out
         have hnc42 := NB253_251.out
         have hnb43 := NB251_255.out
         have hnc43 := NB255_251.out
         have hnb44 := NB251_256.out
         have hnc44 := NB256_251.out
         have hcz45_0 : wc.cell? ⟨gb251, 0, none⟩ = some (.int .i64 a0_0) := (blk_cell BK251.out 0).trans rfl
         have hcz45_1 : wc.cell? ⟨gb251, 1, none⟩ = some (.int .i64 a0_1) := (blk_cell BK251.out 1).trans rfl
         have hcz45_2 : wc.cell? ⟨gb251, 2, none⟩ = some (.int .i64 a0_2) := (blk_cell BK251.out 2).trans rfl
         have hcz45_3 : wc.cell? ⟨gb251, 3, none⟩ = some (.int .i64 a0_3) := (blk_cell BK251.out 3).trans rfl
         have hcz45_4 : wc.cell? ⟨gb251, 4, none⟩ = some (.int .i64 a0_4) := (blk_cell BK251.out 4).trans rfl
         have hfz45_0 := blk_frozen BK251.out 0
         have hfz45_1 := blk_frozen BK251.out 1
         have hfz45_2 := blk_frozen BK251.out 2
         have hfz45_3 := blk_frozen BK251.out 3
         have hfz45_4 := blk_frozen BK251.out 4
         go_wp2_with (first | ((with_reducible refine gate_callee (f := 73) rfl ?_); refine goesL_ (some 27) rfl rfl Try.func73 (by kernel_rfl) rfl #[.agg #[.int .i64 a0_0, .int .i64 a0_1, .int .i64 a0_2, .int .i64 a0_3, .int .i64 a0_4], .int .i64 x8_1] rfl zqE ?_; (with_reducible refine (pianolaref03_bridge.calls a0_0 a0_1 a0_2 a0_3 a0_4 x8_1 true _ A28.out).mono ?_); rintro e w46 ⟨rfl, hb⟩; refine ⟨_, rfl, ?_⟩; have n0_ := zA (blk_below (g := gb251) (o := .cells #[.int .i64 a0_0, .int .i64 a0_1, .int .i64 a0_2, .int .i64 a0_3, .int .i64 a0_4] 58 (0, 0)) (zqB BK251.out) hb); have n1_ := zA (blk_below (g := gb252) (o := .cells #[.int .i64 0, .int .i64 0] 55 (0, 0)) (zqB BK252.out) hb); have n2_ := zA (blk_below (g := gb253) (o := .cells #[.int .i64 0, .int .i64 0] 55 (0, 0)) (zqB BK253.out) hb); have n3_ := zA (blk_below (g := gb255) (o := .cells #[.int .i64 x256000_14, .int .i64 x256001_14] 55 (0, 0)) (zqB BK255.out) hb); have n4_ := zA (blk_below (g := gb256) (o := .cells #[.int .i64 x257000_1, .int .i64 x257001_1] 55 (0, 0)) (zqB BK256.out) hb); have n5_ := zA (below_step (by repeat (first | (with_reducible first | exact HB.out | apply below_alloc | apply pw_below_drewN | apply below_drew1 | refine below_set ?_ GE251.out | refine below_set ?_ GE252.out | refine below_set ?_ GE253.out | refine below_set ?_ GE255.out | refine below_set ?_ GE256.out) | exact HB.out)) hb); clear BK251; clear BK252; clear BK253; clear BK255; clear BK256; clear HB; have BK251 := n0_; have BK252 := n1_; have BK253 := n2_; have BK255 := n3_; have BK256 := n4_; have HB := n5_; clear n0_ n1_ n2_ n3_ n4_ n5_; (try clear hb); (try clear hb2); (try clear hk); (try clear hi); have hnb47 := NB256_252.out; have hnc47 := NB252_256.out; have hnb48 := NB256_253.out; have hnc48 := NB253_256.out; have hnb49 := NB256_255.out; have hnc49 := NB255_256.out; have hcz50_0 : w46.cell? ⟨gb256, 0, none⟩ = some (.int .i64 x257000_1) := (blk_cell BK256.out 0).trans rfl; have hcz50_1 : w46.cell? ⟨gb256, 1, none⟩ = some (.int .i64 x257001_1) := (blk_cell BK256.out 1).trans rfl; have hfz50_0 := blk_frozen BK256.out 0; have hfz50_1 := blk_frozen BK256.out 1))
         go_roundg kj14
         case measure => have := HK1.out; have := HJ14.out; omega
         case rel => exact ⟨(wrap64 (x8_1 + 1)), (x256000_14), (x256001_14), (x257000_1), (x8_1), zqQ, H', ⟨by have := HK1.out; have := HJ14.out; omega⟩, ⟨by (with_reducible repeat (first | refine blk_drewN ?_ _ | refine blk_drew ?_ | refine blk_alloc ?_ _)); refine blk_far ?_ NB251_256.out _; (with_reducible repeat (first | refine blk_drewN ?_ _ | refine blk_drew ?_ | refine blk_alloc ?_ _)); exact BK251.out⟩, ⟨by (with_reducible repeat (first | refine blk_drewN ?_ _ | refine blk_drew ?_ | refine blk_alloc ?_ _)); refine blk_far ?_ NB252_256.out _; (with_reducible repeat (first | refine blk_drewN ?_ _ | refine blk_drew ?_ | refine blk_alloc ?_ _)); exact BK252.out⟩, ⟨by (with_reducible repeat (first | refine blk_drewN ?_ _ | refine blk_drew ?_ | refine blk_alloc ?_ _)); refine blk_far ?_ NB253_256.out _; (with_reducible repeat (first | refine blk_drewN ?_ _ | refine blk_drew ?_ | refine blk_alloc ?_ _)); exact BK253.out⟩, ⟨by (with_reducible repeat (first | refine blk_drewN ?_ _ | refine blk_drew ?_ | refine blk_alloc ?_ _)); refine blk_far ?_ NB255_256.out _; (with_reducible repeat (first | refine blk_drewN ?_ _ | refine blk_drew ?_ | refine blk_alloc ?_ _)); exact BK255.out⟩, ⟨by (with_reducible repeat (first | refine blk_drewN ?_ _ | refine blk_drew ?_ | refine blk_alloc ?_ _)); refine blk_put (cs := #[.int .i64 x257000_1, .int .i64 x257001_1]) ?_ 1 _ rfl; (with_reducible repeat (first | refine blk_drewN ?_ _ | refine blk_drew ?_ | refine blk_alloc ?_ _)); exact BK256.out⟩, ⟨by repeat (first | (with_reducible first | exact HB.out | apply below_alloc | apply pw_below_drewN | apply below_drew1 | refine below_set ?_ GE251.out | refine below_set ?_ GE252.out | refine below_set ?_ GE253.out | refine below_set ?_ GE255.out | refine below_set ?_ GE256.out) | exact HB.out)⟩⟩
       ·
        replace c29 := Bool.eq_false_iff.mpr c29
        subst c29
        have H1 : (pianolaref03_Bars.l0 kj14 (wrap64 (x8_1 + 1)) a0_0 a0_1 a0_2 a0_3 a0_4 x256000_14 x256001_14 x257000_1 x257001_1) = some (r1, r2, r3, r4, r5) := by rw [if_neg (show ¬ (false = true) by decide)] at H; exact H
        clear H; have H := H1; clear H1
        have H' := zA H
        clear H
        have hnb51 := NB251_252.out
        have hnc51 := NB252_251.out
        have hnb52 := NB251_253.out
        have hnc52 := NB253_251.out
        have hnb53 := NB251_255.out
        have hnc53 := NB255_251.out
        have hnb54 := NB251_256.out
        have hnc54 := NB256_251.out
        have hcz55_0 : wc.cell? ⟨gb251, 0, none⟩ = some (.int .i64 a0_0) := (blk_cell BK251.out 0).trans rfl
        have hcz55_1 : wc.cell? ⟨gb251, 1, none⟩ = some (.int .i64 a0_1) := (blk_cell BK251.out 1).trans rfl
        have hcz55_2 : wc.cell? ⟨gb251, 2, none⟩ = some (.int .i64 a0_2) := (blk_cell BK251.out 2).trans rfl
        have hcz55_3 : wc.cell? ⟨gb251, 3, none⟩ = some (.int .i64 a0_3) := (blk_cell BK251.out 3).trans rfl
        have hcz55_4 : wc.cell? ⟨gb251, 4, none⟩ = some (.int .i64 a0_4) := (blk_cell BK251.out 4).trans rfl
        have hfz55_0 := blk_frozen BK251.out 0
        have hfz55_1 := blk_frozen BK251.out 1
        have hfz55_2 := blk_frozen BK251.out 2
        have hfz55_3 := blk_frozen BK251.out 3
        have hfz55_4 := blk_frozen BK251.out 4
        go_wp2_with (first | ((with_reducible refine gate_callee (f := 73) rfl ?_); refine goesL_ (some 27) rfl rfl Try.func73 (by kernel_rfl) rfl #[.agg #[.int .i64 a0_0, .int .i64 a0_1, .int .i64 a0_2, .int .i64 a0_3, .int .i64 a0_4], .int .i64 x8_1] rfl zqE ?_; (with_reducible refine (pianolaref03_bridge.calls a0_0 a0_1 a0_2 a0_3 a0_4 x8_1 false _ A28.out).mono ?_); rintro e w56 ⟨rfl, hb⟩; refine ⟨_, rfl, ?_⟩; have n0_ := zA (blk_below (g := gb251) (o := .cells #[.int .i64 a0_0, .int .i64 a0_1, .int .i64 a0_2, .int .i64 a0_3, .int .i64 a0_4] 58 (0, 0)) (zqB BK251.out) hb); have n1_ := zA (blk_below (g := gb252) (o := .cells #[.int .i64 0, .int .i64 0] 55 (0, 0)) (zqB BK252.out) hb); have n2_ := zA (blk_below (g := gb253) (o := .cells #[.int .i64 0, .int .i64 0] 55 (0, 0)) (zqB BK253.out) hb); have n3_ := zA (blk_below (g := gb255) (o := .cells #[.int .i64 x256000_14, .int .i64 x256001_14] 55 (0, 0)) (zqB BK255.out) hb); have n4_ := zA (blk_below (g := gb256) (o := .cells #[.int .i64 x257000_1, .int .i64 x257001_1] 55 (0, 0)) (zqB BK256.out) hb); have n5_ := zA (below_step (by repeat (first | (with_reducible first | exact HB.out | apply below_alloc | apply pw_below_drewN | apply below_drew1 | refine below_set ?_ GE251.out | refine below_set ?_ GE252.out | refine below_set ?_ GE253.out | refine below_set ?_ GE255.out | refine below_set ?_ GE256.out) | exact HB.out)) hb); clear BK251; clear BK252; clear BK253; clear BK255; clear BK256; clear HB; have BK251 := n0_; have BK252 := n1_; have BK253 := n2_; have BK255 := n3_; have BK256 := n4_; have HB := n5_; clear n0_ n1_ n2_ n3_ n4_ n5_; (try clear hb); (try clear hb2); (try clear hk); (try clear hi)))
        go_roundg kj14
        case measure => have := HK1.out; have := HJ14.out; omega
        case rel => exact ⟨(wrap64 (x8_1 + 1)), (x256000_14), (x256001_14), (x257000_1), (x257001_1), zqQ, H', ⟨by have := HK1.out; have := HJ14.out; omega⟩, ⟨zqB BK251.out⟩, ⟨zqB BK252.out⟩, ⟨zqB BK253.out⟩, ⟨zqB BK255.out⟩, ⟨zqB BK256.out⟩, ⟨by repeat (first | (with_reducible first | exact HB.out | apply below_alloc | apply pw_below_drewN | apply below_drew1 | refine below_set ?_ GE251.out | refine below_set ?_ GE252.out | refine below_set ?_ GE253.out | refine below_set ?_ GE255.out | refine below_set ?_ GE256.out) | exact HB.out)⟩⟩
    ·
     rw [if_neg c13] at H
     have c13b0 : decide (x8_1 ≤ 1200) = false := decide_eq_false c13
     clear c13
     by_cases c57 : x256001_1 = 0
     ·
      rw [if_pos c57] at H
      have c57b0 : (x256001_1 == 0) = true := beq_iff_eq.mpr c57
      have c57b1 : (x256001_1 != 0) = false := bne_eq_false_iff_eq.mpr c57
      clear c57
      simp only [Option.some.injEq, Prod.mk.injEq] at H
      obtain ⟨rfl, rfl, rfl, rfl, rfl⟩ := H
      have hnb58 := NB255_251.out
      have hnc58 := NB251_255.out
      have hnb59 := NB255_252.out
      have hnc59 := NB252_255.out
      have hnb60 := NB255_253.out
      have hnc60 := NB253_255.out
      have hnb61 := NB255_256.out
      have hnc61 := NB256_255.out
      have hcz62_0 : wr.cell? ⟨gb255, 0, none⟩ = some (.int .i64 x256000_1) := (blk_cell BK255.out 0).trans rfl
      have hcz62_1 : wr.cell? ⟨gb255, 1, none⟩ = some (.int .i64 x256001_1) := (blk_cell BK255.out 1).trans rfl
      have hfz62_0 := blk_frozen BK255.out 0
      have hfz62_1 := blk_frozen BK255.out 1
      have hnb63 := NB252_251.out
      have hnc63 := NB251_252.out
      have hnb64 := NB252_253.out
      have hnc64 := NB253_252.out
      have hnb65 := NB252_256.out
      have hnc65 := NB256_252.out
      have hcz66_0 : wr.cell? ⟨gb252, 0, none⟩ = some (.int .i64 0) := (blk_cell BK252.out 0).trans rfl
      have hcz66_1 : wr.cell? ⟨gb252, 1, none⟩ = some (.int .i64 0) := (blk_cell BK252.out 1).trans rfl
      have hfz66_0 := blk_frozen BK252.out 0
      have hfz66_1 := blk_frozen BK252.out 1
      have hnb67 := NB253_251.out
      have hnc67 := NB251_253.out
      have hnb68 := NB253_256.out
      have hnc68 := NB256_253.out
      have hcz69_0 : wr.cell? ⟨gb253, 0, none⟩ = some (.int .i64 0) := (blk_cell BK253.out 0).trans rfl
      have hcz69_1 : wr.cell? ⟨gb253, 1, none⟩ = some (.int .i64 0) := (blk_cell BK253.out 1).trans rfl
      have hfz69_0 := blk_frozen BK253.out 0
      have hfz69_1 := blk_frozen BK253.out 1
      go_wp2
      refine bodyPost_ret (results_list (rs := [.cell 2 55, .cell 3 55, .tmp 4]) rfl (by simp) (.cell gb252 55 #[.int .i64 0, .int .i64 0] (0, 0) _ rfl (by (with_reducible repeat (first | refine blk_drewN ?_ _ | refine blk_drew ?_ | refine blk_alloc ?_ _)); refine blk_far ?_ NB252_253.out _; (with_reducible repeat (first | refine blk_drewN ?_ _ | refine blk_drew ?_ | refine blk_alloc ?_ _)); refine blk_far ?_ NB252_253.out _; (with_reducible repeat (first | refine blk_drewN ?_ _ | refine blk_drew ?_ | refine blk_alloc ?_ _)); refine blk_put (cs := #[.int .i64 0, .int .i64 0]) ?_ 1 _ rfl; (with_reducible repeat (first | refine blk_drewN ?_ _ | refine blk_drew ?_ | refine blk_alloc ?_ _)); refine blk_put (cs := #[.int .i64 0, .int .i64 0]) ?_ 0 _ rfl; (with_reducible repeat (first | refine blk_drewN ?_ _ | refine blk_drew ?_ | refine blk_alloc ?_ _)); exact BK252.out) Try.underlying55 rfl (by kernel_rfl) (.cell gb253 55 #[.int .i64 0, .int .i64 0] (0, 0) _ rfl (by (with_reducible repeat (first | refine blk_drewN ?_ _ | refine blk_drew ?_ | refine blk_alloc ?_ _)); refine blk_put (cs := #[.int .i64 0, .int .i64 0]) ?_ 1 _ rfl; (with_reducible repeat (first | refine blk_drewN ?_ _ | refine blk_drew ?_ | refine blk_alloc ?_ _)); refine blk_put (cs := #[.int .i64 0, .int .i64 0]) ?_ 0 _ rfl; (with_reducible repeat (first | refine blk_drewN ?_ _ | refine blk_drew ?_ | refine blk_alloc ?_ _)); refine blk_far ?_ NB253_252.out _; (with_reducible repeat (first | refine blk_drewN ?_ _ | refine blk_drew ?_ | refine blk_alloc ?_ _)); refine blk_far ?_ NB253_252.out _; (with_reducible repeat (first | refine blk_drewN ?_ _ | refine blk_drew ?_ | refine blk_alloc ?_ _)); exact BK253.out) Try.underlying55 rfl (by kernel_rfl) (.tmp .nil)))) rfl ?_
      exact ⟨zqR, by repeat (first | (with_reducible first | exact HB.out | apply below_alloc | apply pw_below_drewN | apply below_drew1 | refine below_set ?_ GE251.out | refine below_set ?_ GE252.out | refine below_set ?_ GE253.out | refine below_set ?_ GE255.out | refine below_set ?_ GE256.out) | exact HB.out)⟩
     ·
      rw [if_neg c57] at H
      have c57b0 : (x256001_1 == 0) = false := beq_eq_false_iff_ne.mpr c57
      have c57b1 : (x256001_1 != 0) = true := bne_iff_ne.mpr c57
      simp only [Option.some.injEq, Prod.mk.injEq] at H
      obtain ⟨rfl, rfl, rfl, rfl, rfl⟩ := H
      have hnb70 := NB255_251.out
      have hnc70 := NB251_255.out
      have hnb71 := NB255_252.out
      have hnc71 := NB252_255.out
      have hnb72 := NB255_253.out
      have hnc72 := NB253_255.out
      have hnb73 := NB255_256.out
      have hnc73 := NB256_255.out
      have hcz74_0 : wr.cell? ⟨gb255, 0, none⟩ = some (.int .i64 x256000_1) := (blk_cell BK255.out 0).trans rfl
      have hcz74_1 : wr.cell? ⟨gb255, 1, none⟩ = some (.int .i64 x256001_1) := (blk_cell BK255.out 1).trans rfl
      have hfz74_0 := blk_frozen BK255.out 0
      have hfz74_1 := blk_frozen BK255.out 1
      try go_wp2
      have n0_ := zA (blk_drew BK251.out); have n1_ := zA (blk_drew BK252.out); have n2_ := zA (blk_drew BK253.out); have n3_ := zA (blk_drew BK255.out); have n4_ := zA (blk_drew BK256.out); have n5_ := zA (below_drew1 HB.out); clear BK251 BK252 BK253 BK255 BK256 HB; have BK251 := n0_; have BK252 := n1_; have BK253 := n2_; have BK255 := n3_; have BK256 := n4_; have HB := n5_; clear n0_ n1_ n2_ n3_ n4_ n5_
      refine start_ (n := 5) (S := fun w' => w'.cell? ⟨gb255, 0, none⟩ = some (.int .i64 x256000_1) ∧ w'.cell? ⟨gb255, 1, none⟩ = some (.int .i64 x256001_1) ∧ w'.cell? ⟨gb256, 0, none⟩ = some (.int .i64 x257000_1) ∧ w'.cell? ⟨gb256, 1, none⟩ = some (.int .i64 x257001_1)) (ds := []) #[false, false, false, false, false] (by kernel_rfl) rfl rfl ⟨(blk_cell BK255.out 0).trans rfl, (blk_cell BK255.out 1).trans rfl, (blk_cell BK256.out 0).trans rfl, (blk_cell BK256.out 1).trans rfl⟩ (fun hHeld => ?_)
      generalize wr.drew = w75 at BK251 BK252 BK253 BK255 BK256 HB hHeld ⊢
      refine take_ (i := 0) (N := some 40) (v := ?_) (a' := ?_) #[true, false, false, false, false] rfl rfl (by kernel_rfl) (fun _ _ _ h => h) (Or.inl ⟨by rfl, ?_⟩) hHeld ?_ ?_
      rotate_left
      ·
       rintro w' ⟨s0, s1, s2, s3⟩
       go_simp
       with_reducible rfl
      rotate_left
      · simp only [Act.put, List.setIfInBounds_toArray, List.set_cons_zero, List.set_cons_succ, i64_w, i32_w]; rfl
      refine take_ (i := 1) (N := some 41) (v := ?_) (a' := ?_) #[true, true, false, false, false] rfl rfl (by kernel_rfl) (fun _ _ _ h => h) (Or.inl ⟨by rfl, ?_⟩) hHeld ?_ ?_
      rotate_left
      ·
       rintro w' ⟨s0, s1, s2, s3⟩
       go_simp
       with_reducible rfl
      rotate_left
      · simp only [Act.put, List.setIfInBounds_toArray, List.set_cons_zero, List.set_cons_succ, i64_w, i32_w]; rfl
      refine one_ (i := 2) (N := none) #[true, true, true, false, false] rfl rfl (by kernel_rfl) (by decide) (fun K hK => ?_)
      have hs76 : w75.cell? ⟨gb252, 0, none⟩ = some (.int .i64 0) := (blk_cell BK252.out 0).trans rfl
      have hfs76 := blk_frozen BK252.out 0
      have hns76_0 := NB251_252.out
      have hns76_2 := NB253_252.out
      have hns76_3 := NB255_252.out
      have hns76_4 := NB256_252.out
      have hms76_0 := NB252_251.out
      have hms76_2 := NB252_253.out
      have hms76_3 := NB252_255.out
      have hms76_4 := NB252_256.out
      have hs77 : w75.cell? ⟨gb252, 1, none⟩ = some (.int .i64 0) := (blk_cell BK252.out 1).trans rfl
      have hfs77 := blk_frozen BK252.out 1
      have hns77_0 := NB251_252.out
      have hns77_2 := NB253_252.out
      have hns77_3 := NB255_252.out
      have hns77_4 := NB256_252.out
      have hms77_0 := NB252_251.out
      have hms77_2 := NB252_253.out
      have hms77_3 := NB252_255.out
      have hms77_4 := NB252_256.out
      refine skip_ (w1 := ?_) (by rfl) rfl ?_ ?_
      rotate_left
      ·
       go_simp
       rfl
      refine hK.out _ _ ⟨((cell_far (p := ⟨gb252, _, none⟩) NB255_252.out _).trans (((cell_far (p := ⟨gb252, _, none⟩) NB255_252.out _).trans (hHeld.1)))), ((cell_far (p := ⟨gb252, _, none⟩) NB255_252.out _).trans (((cell_far (p := ⟨gb252, _, none⟩) NB255_252.out _).trans (hHeld.2.1)))), ((cell_far (p := ⟨gb252, _, none⟩) NB256_252.out _).trans (((cell_far (p := ⟨gb252, _, none⟩) NB256_252.out _).trans (hHeld.2.2.1)))), ((cell_far (p := ⟨gb252, _, none⟩) NB256_252.out _).trans (((cell_far (p := ⟨gb252, _, none⟩) NB256_252.out _).trans (hHeld.2.2.2))))⟩ (fun hHeld => ?_)
      clear hK K
      refine one_ (i := 3) (N := none) #[true, true, true, true, false] rfl rfl (by kernel_rfl) (by decide) (fun K hK => ?_)
      have hs78 : w75.cell? ⟨gb253, 0, none⟩ = some (.int .i64 0) := (blk_cell BK253.out 0).trans rfl
      have hfs78 := blk_frozen BK253.out 0
      have hns78_0 := NB251_253.out
      have hns78_1 := NB252_253.out
      have hns78_3 := NB255_253.out
      have hns78_4 := NB256_253.out
      have hms78_0 := NB253_251.out
      have hms78_1 := NB253_252.out
      have hms78_3 := NB253_255.out
      have hms78_4 := NB253_256.out
      have hs79 : w75.cell? ⟨gb253, 1, none⟩ = some (.int .i64 0) := (blk_cell BK253.out 1).trans rfl
      have hfs79 := blk_frozen BK253.out 1
      have hns79_0 := NB251_253.out
      have hns79_1 := NB252_253.out
      have hns79_3 := NB255_253.out
      have hns79_4 := NB256_253.out
      have hms79_0 := NB253_251.out
      have hms79_1 := NB253_252.out
      have hms79_3 := NB253_255.out
      have hms79_4 := NB253_256.out
      refine skip_ (w1 := ?_) (by rfl) rfl ?_ ?_
      rotate_left
      ·
       go_simp
       rfl
      refine hK.out _ _ ⟨((cell_far (p := ⟨gb253, _, none⟩) NB255_253.out _).trans (((cell_far (p := ⟨gb253, _, none⟩) NB255_253.out _).trans (hHeld.1)))), ((cell_far (p := ⟨gb253, _, none⟩) NB255_253.out _).trans (((cell_far (p := ⟨gb253, _, none⟩) NB255_253.out _).trans (hHeld.2.1)))), ((cell_far (p := ⟨gb253, _, none⟩) NB256_253.out _).trans (((cell_far (p := ⟨gb253, _, none⟩) NB256_253.out _).trans (hHeld.2.2.1)))), ((cell_far (p := ⟨gb253, _, none⟩) NB256_253.out _).trans (((cell_far (p := ⟨gb253, _, none⟩) NB256_253.out _).trans (hHeld.2.2.2))))⟩ (fun hHeld => ?_)
      clear hK K
      refine pure_ (i := 4) (N := some 4) (v := ?_) (a' := ?_) #[true, true, true, true, true] rfl rfl (by kernel_rfl) (fun _ _ _ h => h) (Or.inl ⟨by rfl, ?_⟩) ?_ ?_
      rotate_left
      ·
       intro w'
       go_simp
       with_reducible rfl
      rotate_left
      · simp only [Act.put, List.setIfInBounds_toArray, List.set_cons_zero, List.set_cons_succ, i64_w, i32_w]; rfl
      refine done_ (by kernel_rfl) ?_
      try go_wp2
      refine bodyPost_ret (results_list (rs := [.cell 2 55, .cell 3 55, .tmp 4]) rfl (by simp) (.cell gb252 55 #[.int .i64 x256000_1, .int .i64 x256001_1] (0, 0) _ rfl (by (with_reducible repeat (first | refine blk_drewN ?_ _ | refine blk_drew ?_ | refine blk_alloc ?_ _)); refine blk_far ?_ NB252_253.out _; (with_reducible repeat (first | refine blk_drewN ?_ _ | refine blk_drew ?_ | refine blk_alloc ?_ _)); refine blk_far ?_ NB252_253.out _; (with_reducible repeat (first | refine blk_drewN ?_ _ | refine blk_drew ?_ | refine blk_alloc ?_ _)); refine blk_put (cs := #[.int .i64 x256000_1, .int .i64 0]) ?_ 1 _ rfl; (with_reducible repeat (first | refine blk_drewN ?_ _ | refine blk_drew ?_ | refine blk_alloc ?_ _)); refine blk_put (cs := #[.int .i64 0, .int .i64 0]) ?_ 0 _ rfl; (with_reducible repeat (first | refine blk_drewN ?_ _ | refine blk_drew ?_ | refine blk_alloc ?_ _)); exact BK252.out) Try.underlying55 rfl (by kernel_rfl) (.cell gb253 55 #[.int .i64 x257000_1, .int .i64 x257001_1] (0, 0) _ rfl (by (with_reducible repeat (first | refine blk_drewN ?_ _ | refine blk_drew ?_ | refine blk_alloc ?_ _)); refine blk_put (cs := #[.int .i64 x257000_1, .int .i64 0]) ?_ 1 _ rfl; (with_reducible repeat (first | refine blk_drewN ?_ _ | refine blk_drew ?_ | refine blk_alloc ?_ _)); refine blk_put (cs := #[.int .i64 0, .int .i64 0]) ?_ 0 _ rfl; (with_reducible repeat (first | refine blk_drewN ?_ _ | refine blk_drew ?_ | refine blk_alloc ?_ _)); refine blk_far ?_ NB253_252.out _; (with_reducible repeat (first | refine blk_drewN ?_ _ | refine blk_drew ?_ | refine blk_alloc ?_ _)); refine blk_far ?_ NB253_252.out _; (with_reducible repeat (first | refine blk_drewN ?_ _ | refine blk_drew ?_ | refine blk_alloc ?_ _)); exact BK253.out) Try.underlying55 rfl (by kernel_rfl) (.tmp .nil)))) rfl ?_
      exact ⟨zqR, by repeat (first | (with_reducible first | exact HB.out | apply below_alloc | apply pw_below_drewN | apply below_drew1 | refine below_set ?_ GE251.out | refine below_set ?_ GE252.out | refine below_set ?_ GE253.out | refine below_set ?_ GE255.out | refine below_set ?_ GE256.out) | exact HB.out)⟩
 ·
  rw [if_neg c3] at H
  have c3b0 : (t254 == 0) = false := beq_eq_false_iff_ne.mpr c3
  have c3b1 : (t254 != 0) = true := bne_iff_ne.mpr c3
  simp only [Option.some.injEq, Prod.mk.injEq] at H
  obtain ⟨rfl, rfl, rfl, rfl, rfl⟩ := H
  go_enter Try.func31, Try.ntmps31
  go_wp2_with (first | ((with_reducible refine gate_dst (N := 1) rfl ?_); refine box_event ?hg (N := 1) ?hd (cs := #[.int .i64 a0_0, .int .i64 a0_1, .int .i64 a0_2, .int .i64 a0_3, .int .i64 a0_4]) (t := 58) ?hr ?_; (case hd => rfl); (case hg => rfl); (case hr => first | (go_simp; done) | (go_simp; rfl)); intro gb251 hg w80 hbox hb; have n0_ := zA (below_step (zqA HB.out) hb); have n1_ := zA (hbox); have n2_ := zA ((by rw [hg]; exact (below_size (zqA HB.out)) : w.heap.size ≤ gb251)); have n3_ := zA ((by rw [hg]; exact (below_size (zqA HB.out)) : w.heap.size ≤ gb251)); clear HB; have HB := n0_; have BK251 := n1_; have GW251 := n2_; have GE251 := n3_; clear n0_ n1_ n2_ n3_; clear hb hbox hg) | ((with_reducible refine gate_dst (N := 2) rfl ?_); refine box_event ?hg (N := 2) ?hd (cs := #[.int .i64 0, .int .i64 0]) (t := 55) ?hr ?_; (case hd => rfl); (case hg => rfl); (case hr => first | (go_simp; done) | (go_simp; rfl)); intro gb252 hg w81 hbox hb; have n0_ := zA (blk_below (g := gb251) (o := .cells #[.int .i64 a0_0, .int .i64 a0_1, .int .i64 a0_2, .int .i64 a0_3, .int .i64 a0_4] 58 (0, 0)) (zqB BK251.out) hb); have n1_ := zA (below_step (zqG HB.out GE251.out) hb); have n2_ := zA (hbox); have n3_ := zA ((by rw [hg]; exact (below_size (zqG HB.out GE251.out)) : w.heap.size ≤ gb252)); have n4_ := zA ((by rw [hg]; exact (below_size (zqG HB.out GE251.out)) : w.heap.size ≤ gb252)); have n5_ := zA ((by rw [hg]; exact Nat.ne_of_lt (blk_lt (g := gb251) (o := .cells #[.int .i64 a0_0, .int .i64 a0_1, .int .i64 a0_2, .int .i64 a0_3, .int .i64 a0_4] 58 (0, 0)) (zqB BK251.out)) : gb251 ≠ gb252)); have n6_ := zA ((by rw [hg]; exact Nat.ne_of_gt (blk_lt (g := gb251) (o := .cells #[.int .i64 a0_0, .int .i64 a0_1, .int .i64 a0_2, .int .i64 a0_3, .int .i64 a0_4] 58 (0, 0)) (zqB BK251.out)) : gb252 ≠ gb251)); clear BK251; clear HB; have BK251 := n0_; have HB := n1_; have BK252 := n2_; have GW252 := n3_; have GE252 := n4_; have NB251_252 := n5_; have NB252_251 := n6_; clear n0_ n1_ n2_ n3_ n4_ n5_ n6_; clear hb hbox hg) | ((with_reducible refine gate_dst (N := 3) rfl ?_); refine box_event ?hg (N := 3) ?hd (cs := #[.int .i64 0, .int .i64 0]) (t := 55) ?hr ?_; (case hd => rfl); (case hg => rfl); (case hr => first | (go_simp; done) | (go_simp; rfl)); intro gb253 hg w82 hbox hb; have n0_ := zA (blk_below (g := gb251) (o := .cells #[.int .i64 a0_0, .int .i64 a0_1, .int .i64 a0_2, .int .i64 a0_3, .int .i64 a0_4] 58 (0, 0)) (zqB BK251.out) hb); have n1_ := zA (blk_below (g := gb252) (o := .cells #[.int .i64 0, .int .i64 0] 55 (0, 0)) (zqB BK252.out) hb); have n2_ := zA (below_step (zqH HB.out GE251.out GE252.out) hb); have n3_ := zA (hbox); have n4_ := zA ((by rw [hg]; exact (below_size (zqH HB.out GE251.out GE252.out)) : w.heap.size ≤ gb253)); have n5_ := zA ((by rw [hg]; exact (below_size (zqH HB.out GE251.out GE252.out)) : w.heap.size ≤ gb253)); have n6_ := zA ((by rw [hg]; exact Nat.ne_of_lt (blk_lt (g := gb251) (o := .cells #[.int .i64 a0_0, .int .i64 a0_1, .int .i64 a0_2, .int .i64 a0_3, .int .i64 a0_4] 58 (0, 0)) (zqB BK251.out)) : gb251 ≠ gb253)); have n7_ := zA ((by rw [hg]; exact Nat.ne_of_gt (blk_lt (g := gb251) (o := .cells #[.int .i64 a0_0, .int .i64 a0_1, .int .i64 a0_2, .int .i64 a0_3, .int .i64 a0_4] 58 (0, 0)) (zqB BK251.out)) : gb253 ≠ gb251)); have n8_ := zA ((by rw [hg]; exact Nat.ne_of_lt (blk_lt (g := gb252) (o := .cells #[.int .i64 0, .int .i64 0] 55 (0, 0)) (zqB BK252.out)) : gb252 ≠ gb253)); have n9_ := zA ((by rw [hg]; exact Nat.ne_of_gt (blk_lt (g := gb252) (o := .cells #[.int .i64 0, .int .i64 0] 55 (0, 0)) (zqB BK252.out)) : gb253 ≠ gb252)); clear BK251; clear BK252; clear HB; have BK251 := n0_; have BK252 := n1_; have HB := n2_; have BK253 := n3_; have GW253 := n4_; have GE253 := n5_; have NB251_253 := n6_; have NB253_251 := n7_; have NB252_253 := n8_; have NB253_252 := n9_; clear n0_ n1_ n2_ n3_ n4_ n5_ n6_ n7_ n8_ n9_; clear hb hbox hg; have hnb83 := NB251_252.out; have hnc83 := NB252_251.out; have hnb84 := NB251_253.out; have hnc84 := NB253_251.out; have hcz85_0 : w82.cell? ⟨gb251, 0, none⟩ = some (.int .i64 a0_0) := (blk_cell BK251.out 0).trans rfl; have hcz85_1 : w82.cell? ⟨gb251, 1, none⟩ = some (.int .i64 a0_1) := (blk_cell BK251.out 1).trans rfl; have hcz85_2 : w82.cell? ⟨gb251, 2, none⟩ = some (.int .i64 a0_2) := (blk_cell BK251.out 2).trans rfl; have hcz85_3 : w82.cell? ⟨gb251, 3, none⟩ = some (.int .i64 a0_3) := (blk_cell BK251.out 3).trans rfl; have hcz85_4 : w82.cell? ⟨gb251, 4, none⟩ = some (.int .i64 a0_4) := (blk_cell BK251.out 4).trans rfl; have hfz85_0 := blk_frozen BK251.out 0; have hfz85_1 := blk_frozen BK251.out 1; have hfz85_2 := blk_frozen BK251.out 2; have hfz85_3 := blk_frozen BK251.out 3; have hfz85_4 := blk_frozen BK251.out 4) | ((with_reducible refine gate_callee (f := 71) rfl ?_); refine goesL_ (some 10) rfl rfl Try.func71 (by kernel_rfl) rfl #[.agg #[.int .i64 a0_0, .int .i64 a0_1, .int .i64 a0_2, .int .i64 a0_3, .int .i64 a0_4]] rfl zqE ?_; (with_reducible refine (pianolaref03_paper.calls a0_0 a0_1 a0_2 a0_3 a0_4 t254 _ A2.out).mono ?_); rintro e w86 ⟨rfl, hb⟩; refine ⟨_, rfl, ?_⟩; have n0_ := zA (blk_below (g := gb251) (o := .cells #[.int .i64 a0_0, .int .i64 a0_1, .int .i64 a0_2, .int .i64 a0_3, .int .i64 a0_4] 58 (0, 0)) (zqB BK251.out) hb); have n1_ := zA (blk_below (g := gb252) (o := .cells #[.int .i64 0, .int .i64 0] 55 (0, 0)) (zqB BK252.out) hb); have n2_ := zA (blk_below (g := gb253) (o := .cells #[.int .i64 0, .int .i64 0] 55 (0, 0)) (zqB BK253.out) hb); have n3_ := zA (below_step (zqI HB.out GE251.out GE252.out GE253.out) hb); clear BK251; clear BK252; clear BK253; clear HB; have BK251 := n0_; have BK252 := n1_; have BK253 := n2_; have HB := n3_; clear n0_ n1_ n2_ n3_; (try clear hb); (try clear hb2); (try clear hk); (try clear hi); have hnb87 := NB252_253.out; have hnc87 := NB253_252.out; have hcz88_0 : w86.cell? ⟨gb252, 0, none⟩ = some (.int .i64 0) := (blk_cell BK252.out 0).trans rfl; have hcz88_1 : w86.cell? ⟨gb252, 1, none⟩ = some (.int .i64 0) := (blk_cell BK252.out 1).trans rfl; have hfz88_0 := blk_frozen BK252.out 0; have hfz88_1 := blk_frozen BK252.out 1; have hcz89_0 : w86.cell? ⟨gb253, 0, none⟩ = some (.int .i64 0) := (blk_cell BK253.out 0).trans rfl; have hcz89_1 : w86.cell? ⟨gb253, 1, none⟩ = some (.int .i64 0) := (blk_cell BK253.out 1).trans rfl; have hfz89_0 := blk_frozen BK253.out 0; have hfz89_1 := blk_frozen BK253.out 1))
  refine bodyPost_ret (results_list (rs := [.cell 2 55, .cell 3 55, .tmp 4]) rfl (by simp) (.cell gb252 55 #[.int .i64 0, .int .i64 0] (0, 0) _ rfl (by (with_reducible repeat (first | refine blk_drewN ?_ _ | refine blk_drew ?_ | refine blk_alloc ?_ _)); refine blk_far ?_ NB252_253.out _; (with_reducible repeat (first | refine blk_drewN ?_ _ | refine blk_drew ?_ | refine blk_alloc ?_ _)); refine blk_far ?_ NB252_253.out _; (with_reducible repeat (first | refine blk_drewN ?_ _ | refine blk_drew ?_ | refine blk_alloc ?_ _)); refine blk_put (cs := #[.int .i64 0, .int .i64 0]) ?_ 1 _ rfl; (with_reducible repeat (first | refine blk_drewN ?_ _ | refine blk_drew ?_ | refine blk_alloc ?_ _)); refine blk_put (cs := #[.int .i64 0, .int .i64 0]) ?_ 0 _ rfl; (with_reducible repeat (first | refine blk_drewN ?_ _ | refine blk_drew ?_ | refine blk_alloc ?_ _)); exact BK252.out) Try.underlying55 rfl (by kernel_rfl) (.cell gb253 55 #[.int .i64 0, .int .i64 0] (0, 0) _ rfl (by (with_reducible repeat (first | refine blk_drewN ?_ _ | refine blk_drew ?_ | refine blk_alloc ?_ _)); refine blk_put (cs := #[.int .i64 0, .int .i64 0]) ?_ 1 _ rfl; (with_reducible repeat (first | refine blk_drewN ?_ _ | refine blk_drew ?_ | refine blk_alloc ?_ _)); refine blk_put (cs := #[.int .i64 0, .int .i64 0]) ?_ 0 _ rfl; (with_reducible repeat (first | refine blk_drewN ?_ _ | refine blk_drew ?_ | refine blk_alloc ?_ _)); refine blk_far ?_ NB253_252.out _; (with_reducible repeat (first | refine blk_drewN ?_ _ | refine blk_drew ?_ | refine blk_alloc ?_ _)); refine blk_far ?_ NB253_252.out _; (with_reducible repeat (first | refine blk_drewN ?_ _ | refine blk_drew ?_ | refine blk_alloc ?_ _)); exact BK253.out) Try.underlying55 rfl (by kernel_rfl) (.tmp .nil)))) rfl ?_
  exact ⟨zqR, zqI HB.out GE251.out GE252.out GE253.out⟩
end Go.Proofs.Ytegffliopblajaa.P
end
section
namespace Go.Proofs.Ytegffliopblajaa.P
open Go.RowKit Go.Proofs.YtegffliopblajaaW.PrintWords Go.Proofs.YtegffliopblajaaW.PrintLast Go.Proofs.YtegffliopblajaaW.PrintMore
attribute [local go_sem] max2_int min2_int max_two min_two max_three min_three max_four min_four
set_option linter.unusedVariables false
set_option linter.unusedSimpArgs false
def pianolaref03_can.f (a0_0 : Int) (a0_1 : Int) (a1_0 : Int) (a1_1 : Int) (a2 : Int) (a3 : Int) (a4 : Int) : Option (Bool) := if a2 ≥ (wrap64 ((wrap64 (a3 * a0_0)) + (wrap64 (a4 * a1_0)))) then (some (decide (a2 ≤ (wrap64 ((wrap64 (a3 * a0_1)) + (wrap64 (a4 * a1_1))))))) else (some false)
set_option maxHeartbeats 8000000 in
set_option maxRecDepth 100000 in
theorem pianolaref03_can.calls (a0_0 : Int) (a0_1 : Int) (a1_0 : Int) (a1_1 : Int) (a2 : Int) (a3 : Int) (a4 : Int) (r : Bool) (w : World) (h : pianolaref03_can.f a0_0 a0_1 a1_0 a1_1 a2 a3 a4 = some r) :
  Calls Try.prog 75 #[.agg #[.int .i64 a0_0, .int .i64 a0_1], .agg #[.int .i64 a1_0, .int .i64 a1_1], .int .i64 a2, .int .i64 a3, .int .i64 a4] w fun e w' => e = .returned (.bool r) ∧ Below w.heap.size w w' := by
 have hu55 := Try.underlying55
 have HB := zA (Below.refl w.heap.size w)
 have H : (if a2 ≥ (wrap64 ((wrap64 (a3 * a0_0)) + (wrap64 (a4 * a1_0)))) then (some (decide (a2 ≤ (wrap64 ((wrap64 (a3 * a0_1)) + (wrap64 (a4 * a1_1))))))) else (some false)) = some r := h
 clear h
 by_cases c6 : a2 ≥ (wrap64 ((wrap64 (a3 * a0_0)) + (wrap64 (a4 * a1_0))))
 ·
  rw [if_pos c6] at H
  have c6b0 : decide ((wrap64 ((wrap64 (a3 * a0_0)) + (wrap64 (a4 * a1_0)))) ≤ a2) = true := decide_eq_true c6
  clear c6
  obtain rfl := Option.some.inj H
  go_enter Try.func75, Try.ntmps75
  go_wp2_with (first | ((with_reducible refine gate_dst (N := 5) rfl ?_); refine box_event ?hg (N := 5) ?hd (cs := #[.int .i64 a0_0, .int .i64 a0_1]) (t := 55) ?hr ?_; (case hd => rfl); (case hg => rfl); (case hr => first | (go_simp; done) | (go_simp; rfl)); intro gb282 hg w7 hbox hb; have n0_ := zA (below_step (zqA HB.out) hb); have n1_ := zA (hbox); have n2_ := zA ((by rw [hg]; exact (below_size (zqA HB.out)) : w.heap.size ≤ gb282)); have n3_ := zA ((by rw [hg]; exact (below_size (zqA HB.out)) : w.heap.size ≤ gb282)); clear HB; have HB := n0_; have BK282 := n1_; have GW282 := n2_; have GE282 := n3_; clear n0_ n1_ n2_ n3_; clear hb hbox hg) | ((with_reducible refine gate_dst (N := 6) rfl ?_); refine box_event ?hg (N := 6) ?hd (cs := #[.int .i64 a1_0, .int .i64 a1_1]) (t := 55) ?hr ?_; (case hd => rfl); (case hg => rfl); (case hr => first | (go_simp; done) | (go_simp; rfl)); intro gb283 hg w8 hbox hb; have n0_ := zA (blk_below (g := gb282) (o := .cells #[.int .i64 a0_0, .int .i64 a0_1] 55 (0, 0)) (zqB BK282.out) hb); have n1_ := zA (below_step (zqG HB.out GE282.out) hb); have n2_ := zA (hbox); have n3_ := zA ((by rw [hg]; exact (below_size (zqG HB.out GE282.out)) : w.heap.size ≤ gb283)); have n4_ := zA ((by rw [hg]; exact (below_size (zqG HB.out GE282.out)) : w.heap.size ≤ gb283)); have n5_ := zA ((by rw [hg]; exact Nat.ne_of_lt (blk_lt (g := gb282) (o := .cells #[.int .i64 a0_0, .int .i64 a0_1] 55 (0, 0)) (zqB BK282.out)) : gb282 ≠ gb283)); have n6_ := zA ((by rw [hg]; exact Nat.ne_of_gt (blk_lt (g := gb282) (o := .cells #[.int .i64 a0_0, .int .i64 a0_1] 55 (0, 0)) (zqB BK282.out)) : gb283 ≠ gb282)); clear BK282; clear HB; have BK282 := n0_; have HB := n1_; have BK283 := n2_; have GW283 := n3_; have GE283 := n4_; have NB282_283 := n5_; have NB283_282 := n6_; clear n0_ n1_ n2_ n3_ n4_ n5_ n6_; clear hb hbox hg; have hnb9 := NB282_283.out; have hnc9 := NB283_282.out; have hcz10_0 : w8.cell? ⟨gb282, 0, none⟩ = some (.int .i64 a0_0) := (blk_cell BK282.out 0).trans rfl; have hcz10_1 : w8.cell? ⟨gb282, 1, none⟩ = some (.int .i64 a0_1) := (blk_cell BK282.out 1).trans rfl; have hfz10_0 := blk_frozen BK282.out 0; have hfz10_1 := blk_frozen BK282.out 1; have hcz11_0 : w8.cell? ⟨gb283, 0, none⟩ = some (.int .i64 a1_0) := (blk_cell BK283.out 0).trans rfl; have hcz11_1 : w8.cell? ⟨gb283, 1, none⟩ = some (.int .i64 a1_1) := (blk_cell BK283.out 1).trans rfl; have hfz11_0 := blk_frozen BK283.out 0; have hfz11_1 := blk_frozen BK283.out 1))
  go_ret
  exact ⟨zqR, zqH HB.out GE282.out GE283.out⟩
 ·
  rw [if_neg c6] at H
  have c6b0 : decide ((wrap64 ((wrap64 (a3 * a0_0)) + (wrap64 (a4 * a1_0)))) ≤ a2) = false := decide_eq_false c6
  clear c6
  obtain rfl := Option.some.inj H
  go_enter Try.func75, Try.ntmps75
  go_wp2_with (first | ((with_reducible refine gate_dst (N := 5) rfl ?_); refine box_event ?hg (N := 5) ?hd (cs := #[.int .i64 a0_0, .int .i64 a0_1]) (t := 55) ?hr ?_; (case hd => rfl); (case hg => rfl); (case hr => first | (go_simp; done) | (go_simp; rfl)); intro gb282 hg w12 hbox hb; have n0_ := zA (below_step (zqA HB.out) hb); have n1_ := zA (hbox); have n2_ := zA ((by rw [hg]; exact (below_size (zqA HB.out)) : w.heap.size ≤ gb282)); have n3_ := zA ((by rw [hg]; exact (below_size (zqA HB.out)) : w.heap.size ≤ gb282)); clear HB; have HB := n0_; have BK282 := n1_; have GW282 := n2_; have GE282 := n3_; clear n0_ n1_ n2_ n3_; clear hb hbox hg) | ((with_reducible refine gate_dst (N := 6) rfl ?_); refine box_event ?hg (N := 6) ?hd (cs := #[.int .i64 a1_0, .int .i64 a1_1]) (t := 55) ?hr ?_; (case hd => rfl); (case hg => rfl); (case hr => first | (go_simp; done) | (go_simp; rfl)); intro gb283 hg w13 hbox hb; have n0_ := zA (blk_below (g := gb282) (o := .cells #[.int .i64 a0_0, .int .i64 a0_1] 55 (0, 0)) (zqB BK282.out) hb); have n1_ := zA (below_step (zqG HB.out GE282.out) hb); have n2_ := zA (hbox); have n3_ := zA ((by rw [hg]; exact (below_size (zqG HB.out GE282.out)) : w.heap.size ≤ gb283)); have n4_ := zA ((by rw [hg]; exact (below_size (zqG HB.out GE282.out)) : w.heap.size ≤ gb283)); have n5_ := zA ((by rw [hg]; exact Nat.ne_of_lt (blk_lt (g := gb282) (o := .cells #[.int .i64 a0_0, .int .i64 a0_1] 55 (0, 0)) (zqB BK282.out)) : gb282 ≠ gb283)); have n6_ := zA ((by rw [hg]; exact Nat.ne_of_gt (blk_lt (g := gb282) (o := .cells #[.int .i64 a0_0, .int .i64 a0_1] 55 (0, 0)) (zqB BK282.out)) : gb283 ≠ gb282)); clear BK282; clear HB; have BK282 := n0_; have HB := n1_; have BK283 := n2_; have GW283 := n3_; have GE283 := n4_; have NB282_283 := n5_; have NB283_282 := n6_; clear n0_ n1_ n2_ n3_ n4_ n5_ n6_; clear hb hbox hg; have hnb14 := NB282_283.out; have hnc14 := NB283_282.out; have hcz15_0 : w13.cell? ⟨gb282, 0, none⟩ = some (.int .i64 a0_0) := (blk_cell BK282.out 0).trans rfl; have hcz15_1 : w13.cell? ⟨gb282, 1, none⟩ = some (.int .i64 a0_1) := (blk_cell BK282.out 1).trans rfl; have hfz15_0 := blk_frozen BK282.out 0; have hfz15_1 := blk_frozen BK282.out 1; have hcz16_0 : w13.cell? ⟨gb283, 0, none⟩ = some (.int .i64 a1_0) := (blk_cell BK283.out 0).trans rfl; have hcz16_1 : w13.cell? ⟨gb283, 1, none⟩ = some (.int .i64 a1_1) := (blk_cell BK283.out 1).trans rfl; have hfz16_0 := blk_frozen BK283.out 0; have hfz16_1 := blk_frozen BK283.out 1))
  go_ret
  exact ⟨zqR, zqH HB.out GE282.out GE283.out⟩
end Go.Proofs.Ytegffliopblajaa.P
end
