/- Words and contracts for a claim. -/
import Derived.Test.YtehpbmdphfbooaaBase7
import Derived.WalkSpells
section
namespace Go.Proofs.Ytehpbmdphfbooaa.P
open Go.RowKit Go.Proofs.YtehpbmdphfbooaaW.PrintWords Go.Proofs.YtehpbmdphfbooaaW.PrintLast Go.Proofs.YtehpbmdphfbooaaW.PrintMore
set_option linter.unusedVariables false
set_option linter.unusedSimpArgs false
set_option maxHeartbeats 4000000 in
set_option maxRecDepth 100000 in
theorem clone62 (A0 : Option Addr) (c0 : Nat) (l0 : List S61) (w : World) (ac : Kd.C k61 w A0 l0.length l0) (hc0 : l0.length ≤ c0) (hl : l0.length < 1000000) :
  Calls Try.prog 62 #[.slice A0 l0.length c0] w fun e w' => ∃ v0_ : Value, e = .returned (v0_) ∧ Kd.R k61 61 w' w.heap.size (fun _ => True) v0_ l0 ∧ Below w.heap.size w w' := by
 have hu23 := Try.underlying23
 have ae := zA ac
 have HC0 := zA hc0
 clear ac hc0
 have HB := zA (Below.refl w.heap.size w)
 cases A0 with
 | none =>
  have h0 : l0 = [] := by
   cases l0 with
   | nil => rfl
   | cons x l => obtain ⟨ad, e, _⟩ := ae.out.2.2 (by simp); cases e
  subst h0
  have hq := fun (w : World) (n c m d : Nat) => Lib.run_eql_slice_nil (P := Try.prog) w 23 61 none n c m d Try.underlying23
  go_enter Try.func62, Try.ntmps62
  go_wp2
  go_ret
  exact ⟨_, rfl, Kd.R_nil _ _ _ _ _, HB.out⟩
 | some ad =>
  have hq := fun (w : World) (n c m d : Nat) => Lib.run_eql_slice_nil (P := Try.prog) w 23 61 (some ad) n c m d Try.underlying23
  obtain ⟨y0, aa⟩ : ∃ y_ : List S61, y_ = [] := ⟨_, rfl⟩
  have af := zA aa
  have LMc2 : Aside0 (y0.length + l0.length < 5864062014805) := ⟨by rw [aa]; simp; omega⟩
  have ag : y0 ++ l0 = l0 := by rw [aa]; rfl
  clear aa
  obtain ⟨y1, ab⟩ : ∃ y_ : List S61, y_ = (y0 ++ l0) := ⟨_, rfl⟩
  have Ny1 := zA ab
  have HY := zA (ab.trans ag)
  clear ab ag
  go_enter Try.func62, Try.ntmps62
  go_wp2_with (first | ((with_reducible refine gate_dst (N := 5) rfl ?_); refine Kd.R_lit k61 _ 61 ?hg (N := 5) ?hd (xs := ([] : List (S61))) (inner := []) (ok := fun _ => True) (okp := fun _ => True) ?hr ?hp (fun _ hk => hk) trivial (Below.refl _ _) (Nat.le_refl _) (by simp) ?_; (case hd => rfl); (case hg => rfl); (case hr => first | (go_simp; done) | (go_simp; rfl)); (case hp => exact (Reps.none _ _)); intro v3 w3 ho4 hb hg_ hnew_; clear hg_ hnew_; (first | rw [← af.out] at ho4 | (simp only [Int.reduceToNat] at ho4; rw [← af.out] at ho4)); have ah := zA (Kd.R_lower ho4 (below_size (zqA HB.out))); replace HB := zA (below_step (zqA HB.out) hb); clear hb ho4) | ((with_reducible refine gate_builtin (b := .append) (xs := #[.tmp 5, .tmp 6]) rfl ?_); at_builtin; refine Kd.R_append_rows k61 (w0 := w) w.heap.size rfl (.tmp 5) (.tmp 6) 23 61 (.agg #[(.int .i64 0), (.int .i64 0), (.int .i64 0)]) 24 rfl Try.underlying23 info61 rfl (by decide) (by omega) v3 y0 l0 _ _ _ (fun _ => True) (fun _ => False) rfl rfl ?aO ?aR (fun _ _ h => h) (fun _ h => h.elim) ?aF ?aB ?aS ?aL ?_; (case aR => repeat (first | exact (Kd.C_below ae.out HB.out) | (with_reducible refine Kd.C_alloc ?_ _) | (with_reducible refine Kd.C_drewN ?_ _) | (with_reducible refine Kd.C_drew ?_))); (case aB => exact (zqA HB.out)); (case aF => exact (fun _ _ => trivial)); (case aO => exact (zqC ah.out)); (case aS => exact (below_size (zqA HB.out))); (case aL => have := LMc2.out; omega); intro v642 w5 ho hb hg hat; rw [← Ny1.out] at ho; replace HB := zA (hb); have HO643 := zA (ho); clear ah; clear ho hb hg hat))
  go_ret
  exact ⟨_, rfl, by (with_reducible repeat (first | apply Kd.R_alloc | apply Kd.R_drewN | apply Kd.R_drew)); rw [← HY.out]; exact HO643.out, zqA HB.out⟩
end Go.Proofs.Ytehpbmdphfbooaa.P
end
section
namespace Go.Proofs.Ytehpbmdphfbooaa.P
open Go.RowKit Go.Proofs.YtehpbmdphfbooaaW.PrintWords Go.Proofs.YtehpbmdphfbooaaW.PrintLast Go.Proofs.YtehpbmdphfbooaaW.PrintMore
set_option linter.unusedVariables false
set_option linter.unusedSimpArgs false
def thenO (P : List S67) (o : S67) : S67 := if o.f0 < 0 then o else ⟨(rd_T67 P o.f0).f0, decide (0 ≤ (rd_T67 P o.f0).f0) && ((rd_T67 P o.f0).f1 || o.f1)⟩
set_option maxHeartbeats 4000000 in
set_option maxRecDepth 100000 in
theorem then61 (gb : Nat) (v1 v2 : Value) (A3 : Option Addr) (c3 : Nat) (P : List S67) (i : Int) (o : S67) (w : World) (hbox : w.heap[gb]? = some (.cells #[v1, v2, .slice A3 P.length c3] 28 (0, 0))) (hC : Kd.C k67 w A3 P.length P) (hin : o.f0 < P.length) :
  Calls Try.prog 61 #[.int .i64 i, .agg #[.int .i64 o.f0, .bool o.f1], .pointer (some ⟨gb, 0, none⟩)] w fun e w' => e = .returned (.agg #[.int .i64 (thenO P o).f0, .bool (thenO P o).f1]) ∧ Below w.heap.size w w' := by
 have hu28 := Try.underlying28
 have hu67 := Try.underlying67
 obtain ⟨of, cp⟩ := o
 have HC := zA hC
 have ac := zA hbox
 have HB := zA (Below.refl w.heap.size w)
 have HIN : Aside0 (of < (P.length : Int)) := ⟨hin⟩
 clear hC hbox hin
 by_cases c1 : of < 0
 ·
  have HV : Aside0 (thenO P ⟨of, cp⟩ = ⟨of, cp⟩) := ⟨if_pos c1⟩
  have c1b : decide (of < 0) = true := decide_eq_true c1
  go_enter Try.func61, Try.ntmps61
  go_wp2_with (first | ((with_reducible refine gate_dst (N := 4) rfl ?_); refine box_event ?hg (N := 4) ?hd (cs := #[.int .i64 of, .bool cp]) (t := 67) ?hr ?_; (case hd => rfl); (case hg => rfl); (case hr => first | (go_simp; done) | (go_simp; rfl)); intro g4 hg w4 hbox hb; have NP4 : Aside0 (gb ≠ g4) := ⟨by have := blk_lt ac.out; omega⟩; have ah : Aside0 (w.heap.size ≤ g4) := ⟨by rw [hg]; exact HB.out.size⟩; replace HB := zA (below_step HB.out hb); replace ac := zA (blk_keep ac.out hb); have aa := zA hbox; clear hb hbox hg; have q0 : w4.cell? ⟨g4, 0, none⟩ = some (.int .i64 of) := (blk_cell aa.out 0).trans rfl; have q1 : w4.cell? ⟨g4, 1, none⟩ = some (.bool cp) := (blk_cell aa.out 1).trans rfl; have qf0 := blk_frozen aa.out 0; have qf1 := blk_frozen aa.out 1) | ((with_reducible refine gate_dst (N := 5) rfl ?_); refine box_event ?hg (N := 5) ?hd (cs := #[.int .i64 0, .bool false]) (t := 67) ?hr ?_; (case hd => rfl); (case hg => rfl); (case hr => first | (go_simp; done) | (go_simp; rfl)); intro g5 hg w5 hbox hb; have N45 : Aside0 (g4 ≠ g5) := ⟨by have := blk_lt aa.out; omega⟩; have af : Aside0 (w.heap.size ≤ g5) := ⟨by rw [hg]; exact HB.out.size⟩; replace HB := zA (below_step HB.out hb); replace ac := zA (blk_keep ac.out hb); replace aa := zA (blk_keep aa.out hb); have ab := zA hbox; clear hb hbox hg; clear q0 q1 qf0 qf1; have r0 : w5.cell? ⟨g4, 0, none⟩ = some (.int .i64 of) := (blk_cell aa.out 0).trans rfl; have r1 : w5.cell? ⟨g4, 1, none⟩ = some (.bool cp) := (blk_cell aa.out 1).trans rfl; have s0 : w5.cell? ⟨g5, 0, none⟩ = some (.int .i64 0) := (blk_cell ab.out 0).trans rfl; have s1 : w5.cell? ⟨g5, 1, none⟩ = some (.bool false) := (blk_cell ab.out 1).trans rfl; have sf0 := blk_frozen ab.out 0; have sf1 := blk_frozen ab.out 1))
  refine bodyPost_ret (results_cell_row rfl _ _ g5 67 #[.int .i64 of, .bool cp] (0, 0) _ rfl ((blk_put (cs := #[.int .i64 of, .bool false]) (blk_put (cs := #[.int .i64 0, .bool false]) ab.out 0 (.int .i64 of) rfl) 1 (.bool cp) rfl)) Try.underlying67 rfl (by kernel_rfl)) rfl ?_
  exact ⟨by rw [HV.out], (below_set (below_set HB.out af.out) af.out)⟩
 ·
  have c1b : decide (of < 0) = false := decide_eq_false c1
  have h0 : 0 ≤ of := by omega
  have hin := HIN.out
  obtain ⟨ad, e, x0, x1⟩ := at_T67 HC.out of h0 hin
  subst e
  have HV : Aside0 (thenO P ⟨of, cp⟩ = ⟨(rd_T67 P of).f0, decide (0 ≤ (rd_T67 P of).f0) && ((rd_T67 P of).f1 || cp)⟩) := ⟨if_neg c1⟩
  obtain ⟨y0, ai⟩ : ∃ y_ : Int, y_ = (rd_T67 P of).f0 := ⟨_, rfl⟩
  obtain ⟨y1, aj⟩ : ∃ y_ : Bool, y_ = (rd_T67 P of).f1 := ⟨_, rfl⟩
  rw [← ai] at x0 HV
  rw [← aj] at x1 HV
  clear ai aj
  have HX0 := zA x0
  have HX1 := zA x1
  have l0 := World.block_lt_of_cell? w _ x0
  have l1 := World.block_lt_of_cell? w _ x1
  have HL0 := zA l0
  have HL1 := zA l1
  clear x0 x1 l0 l1
  have rest : ∀ b : Bool, Aside0 ((decide (0 ≤ y0) && (y1 || cp)) = b) → ((0 ≤ y0 ∧ y1 = true ∧ b = true) ∨ (0 ≤ y0 ∧ y1 = false ∧ b = cp) ∨ (¬ 0 ≤ y0 ∧ b = false)) → Calls Try.prog 61 #[.int .i64 i, .agg #[.int .i64 of, .bool cp], .pointer (some ⟨gb, 0, none⟩)] w fun e w' => e = .returned (.agg #[.int .i64 (thenO P ⟨of, cp⟩).f0, .bool (thenO P ⟨of, cp⟩).f1]) ∧ Below w.heap.size w w' := by
   intro b HBV hcase
   rcases hcase with ⟨c2, rfl, rfl⟩ | ⟨c2, rfl, hb2⟩ | ⟨c2, rfl⟩
   ·
    have c2b : decide (0 ≤ y0) = true := decide_eq_true c2
    go_enter Try.func61, Try.ntmps61
    go_upto_region 4 with (first | ((with_reducible refine gate_dst (N := 4) rfl ?_); refine box_event ?hg (N := 4) ?hd (cs := #[.int .i64 of, .bool cp]) (t := 67) ?hr ?_; (case hd => rfl); (case hg => rfl); (case hr => first | (go_simp; done) | (go_simp; rfl)); intro g4 hg w4 hbox hb; have NP4 : Aside0 (gb ≠ g4) := ⟨by have := blk_lt ac.out; omega⟩; have ah : Aside0 (w.heap.size ≤ g4) := ⟨by rw [hg]; exact HB.out.size⟩; replace HB := zA (below_step HB.out hb); replace ac := zA (blk_keep ac.out hb); have aa := zA hbox; clear hb hbox hg; have q0 : w4.cell? ⟨g4, 0, none⟩ = some (.int .i64 of) := (blk_cell aa.out 0).trans rfl; have q1 : w4.cell? ⟨g4, 1, none⟩ = some (.bool cp) := (blk_cell aa.out 1).trans rfl; have qf0 := blk_frozen aa.out 0; have qf1 := blk_frozen aa.out 1) | ((with_reducible refine gate_dst (N := 5) rfl ?_); refine box_event ?hg (N := 5) ?hd (cs := #[.int .i64 0, .bool false]) (t := 67) ?hr ?_; (case hd => rfl); (case hg => rfl); (case hr => first | (go_simp; done) | (go_simp; rfl)); intro g5 hg w5 hbox hb; have N45 : Aside0 (g4 ≠ g5) := ⟨by have := blk_lt aa.out; omega⟩; have af : Aside0 (w.heap.size ≤ g5) := ⟨by rw [hg]; exact HB.out.size⟩; replace HB := zA (below_step HB.out hb); replace ac := zA (blk_keep ac.out hb); replace aa := zA (blk_keep aa.out hb); have ab := zA hbox; clear hb hbox hg; clear q0 q1 qf0 qf1; have r0 : w5.cell? ⟨g4, 0, none⟩ = some (.int .i64 of) := (blk_cell aa.out 0).trans rfl; have r1 : w5.cell? ⟨g4, 1, none⟩ = some (.bool cp) := (blk_cell aa.out 1).trans rfl; have t2 : w5.cell? ⟨gb, 2, none⟩ = some (.slice (some ad) P.length c3) := (blk_cell ac.out 2).trans rfl; have x0 := (HB.out.cell HL0.out).trans HX0.out; have x1 := (HB.out.cell HL1.out).trans HX1.out; have hin := HIN.out) | ((with_reducible refine gate_dst (N := 6) rfl ?_); refine box_event ?hg (N := 6) ?hd (cs := #[.int .i64 0, .bool false]) (t := 67) ?hr ?_; (case hd => rfl); (case hg => rfl); (case hr => first | (go_simp; done) | (go_simp; rfl)); intro g6 hg w6 hbox hb; have N46 : Aside0 (g4 ≠ g6) := ⟨by have := blk_lt aa.out; omega⟩; have N56 : Aside0 (g5 ≠ g6) := ⟨by have := blk_lt ab.out; omega⟩; have ag : Aside0 (w.heap.size ≤ g6) := ⟨by rw [hg]; exact HB.out.size⟩; replace HB := zA (below_step HB.out hb); replace ac := zA (blk_keep ac.out hb); replace aa := zA (blk_keep aa.out hb); replace ab := zA (blk_keep ab.out hb); have ae := zA hbox; clear hb hbox hg; clear r0 r1 t2 x0 x1; have uf0 := blk_frozen ae.out 0; have uf1 := blk_frozen ae.out 1; have u0 : w6.cell? ⟨g6, 0, none⟩ = some (.int .i64 0) := (blk_cell ae.out 0).trans rfl; have u1 : w6.cell? ⟨g6, 1, none⟩ = some (.bool false) := (blk_cell ae.out 1).trans rfl; have x0 := (HB.out.cell HL0.out).trans HX0.out; have x1 := (HB.out.cell HL1.out).trans HX1.out))
    clear uf0 uf1 u0 u1 x0 x1
    have n0_ : Aside0 (((World.setCell (World.setCell w6 ⟨g6, 0, none⟩ (.int .i64 y0)) ⟨g6, 1, none⟩ (.bool true))).heap[g6]? = some (.cells #[.int .i64 y0, .bool true] 67 (0, 0))) := ⟨(blk_put (cs := #[.int .i64 y0, .bool false]) (blk_put (cs := #[.int .i64 0, .bool false]) ae.out 0 (.int .i64 y0) rfl) 1 (.bool true) rfl)⟩
    have n1_ : Aside0 (Below w.heap.size w (World.setCell (World.setCell w6 ⟨g6, 0, none⟩ (.int .i64 y0)) ⟨g6, 1, none⟩ (.bool true))) := ⟨(below_set (below_set HB.out ag.out) ag.out)⟩
    have n2_ := zA ((blk_far (blk_far aa.out (p := ⟨g6, 0, none⟩) (N46.out) (.int .i64 y0)) (p := ⟨g6, 1, none⟩) (N46.out) (.bool true))); have n3_ := zA ((blk_far (blk_far ab.out (p := ⟨g6, 0, none⟩) (N56.out) (.int .i64 y0)) (p := ⟨g6, 1, none⟩) (N56.out) (.bool true))); clear ae HB aa ab; generalize (World.setCell (World.setCell w6 ⟨g6, 0, none⟩ (.int .i64 y0)) ⟨g6, 1, none⟩ (.bool true)) = w7 at n0_ n1_ n2_ n3_ ⊢; have ae := n0_; have HB := n1_; have aa := n2_; have ab := n3_; clear n0_ n1_ n2_ n3_
    have r0 : w7.cell? ⟨g4, 0, none⟩ = some (.int .i64 of) := (blk_cell aa.out 0).trans rfl
    have r1 : w7.cell? ⟨g4, 1, none⟩ = some (.bool cp) := (blk_cell aa.out 1).trans rfl
    have t0 : w7.cell? ⟨g6, 0, none⟩ = some (.int .i64 y0) := (blk_cell ae.out 0).trans rfl
    have t1 : w7.cell? ⟨g6, 1, none⟩ = some (.bool true) := (blk_cell ae.out 1).trans rfl
    have s0 : w7.cell? ⟨g5, 0, none⟩ = some (.int .i64 0) := (blk_cell ab.out 0).trans rfl
    have s1 : w7.cell? ⟨g5, 1, none⟩ = some (.bool false) := (blk_cell ab.out 1).trans rfl
    have sf0 := blk_frozen ab.out 0
    have sf1 := blk_frozen ab.out 1
    go_wp2
    refine bodyPost_ret (results_cell_row rfl _ _ g5 67 #[.int .i64 y0, .bool true] (0, 0) _ rfl ((blk_put (cs := #[.int .i64 y0, .bool false]) (blk_put (cs := #[.int .i64 0, .bool false]) ab.out 0 (.int .i64 y0) rfl) 1 (.bool true) rfl)) Try.underlying67 rfl (by kernel_rfl)) rfl ?_
    exact ⟨by rw [HV.out, HBV.out], (below_set (below_set HB.out af.out) af.out)⟩
   ·
    have c2b : decide (0 ≤ y0) = true := decide_eq_true c2
    obtain rfl : cp = b := hb2.symm
    go_enter Try.func61, Try.ntmps61
    go_upto_region 4 with (first | ((with_reducible refine gate_dst (N := 4) rfl ?_); refine box_event ?hg (N := 4) ?hd (cs := #[.int .i64 of, .bool cp]) (t := 67) ?hr ?_; (case hd => rfl); (case hg => rfl); (case hr => first | (go_simp; done) | (go_simp; rfl)); intro g4 hg w4 hbox hb; have NP4 : Aside0 (gb ≠ g4) := ⟨by have := blk_lt ac.out; omega⟩; have ah : Aside0 (w.heap.size ≤ g4) := ⟨by rw [hg]; exact HB.out.size⟩; replace HB := zA (below_step HB.out hb); replace ac := zA (blk_keep ac.out hb); have aa := zA hbox; clear hb hbox hg; have q0 : w4.cell? ⟨g4, 0, none⟩ = some (.int .i64 of) := (blk_cell aa.out 0).trans rfl; have q1 : w4.cell? ⟨g4, 1, none⟩ = some (.bool cp) := (blk_cell aa.out 1).trans rfl; have qf0 := blk_frozen aa.out 0; have qf1 := blk_frozen aa.out 1) | ((with_reducible refine gate_dst (N := 5) rfl ?_); refine box_event ?hg (N := 5) ?hd (cs := #[.int .i64 0, .bool false]) (t := 67) ?hr ?_; (case hd => rfl); (case hg => rfl); (case hr => first | (go_simp; done) | (go_simp; rfl)); intro g5 hg w5 hbox hb; have N45 : Aside0 (g4 ≠ g5) := ⟨by have := blk_lt aa.out; omega⟩; have af : Aside0 (w.heap.size ≤ g5) := ⟨by rw [hg]; exact HB.out.size⟩; replace HB := zA (below_step HB.out hb); replace ac := zA (blk_keep ac.out hb); replace aa := zA (blk_keep aa.out hb); have ab := zA hbox; clear hb hbox hg; clear q0 q1 qf0 qf1; have r0 : w5.cell? ⟨g4, 0, none⟩ = some (.int .i64 of) := (blk_cell aa.out 0).trans rfl; have r1 : w5.cell? ⟨g4, 1, none⟩ = some (.bool cp) := (blk_cell aa.out 1).trans rfl; have t2 : w5.cell? ⟨gb, 2, none⟩ = some (.slice (some ad) P.length c3) := (blk_cell ac.out 2).trans rfl; have x0 := (HB.out.cell HL0.out).trans HX0.out; have x1 := (HB.out.cell HL1.out).trans HX1.out; have hin := HIN.out) | ((with_reducible refine gate_dst (N := 6) rfl ?_); refine box_event ?hg (N := 6) ?hd (cs := #[.int .i64 0, .bool false]) (t := 67) ?hr ?_; (case hd => rfl); (case hg => rfl); (case hr => first | (go_simp; done) | (go_simp; rfl)); intro g6 hg w6 hbox hb; have N46 : Aside0 (g4 ≠ g6) := ⟨by have := blk_lt aa.out; omega⟩; have N56 : Aside0 (g5 ≠ g6) := ⟨by have := blk_lt ab.out; omega⟩; have ag : Aside0 (w.heap.size ≤ g6) := ⟨by rw [hg]; exact HB.out.size⟩; replace HB := zA (below_step HB.out hb); replace ac := zA (blk_keep ac.out hb); replace aa := zA (blk_keep aa.out hb); replace ab := zA (blk_keep ab.out hb); have ae := zA hbox; clear hb hbox hg; clear r0 r1 t2 x0 x1; have uf0 := blk_frozen ae.out 0; have uf1 := blk_frozen ae.out 1; have u0 : w6.cell? ⟨g6, 0, none⟩ = some (.int .i64 0) := (blk_cell ae.out 0).trans rfl; have u1 : w6.cell? ⟨g6, 1, none⟩ = some (.bool false) := (blk_cell ae.out 1).trans rfl; have x0 := (HB.out.cell HL0.out).trans HX0.out; have x1 := (HB.out.cell HL1.out).trans HX1.out))
    clear uf0 uf1 u0 u1 x0 x1
    have n0_ : Aside0 (((World.setCell (World.setCell w6 ⟨g6, 0, none⟩ (.int .i64 y0)) ⟨g6, 1, none⟩ (.bool false))).heap[g6]? = some (.cells #[.int .i64 y0, .bool false] 67 (0, 0))) := ⟨(blk_put (cs := #[.int .i64 y0, .bool false]) (blk_put (cs := #[.int .i64 0, .bool false]) ae.out 0 (.int .i64 y0) rfl) 1 (.bool false) rfl)⟩
    have n1_ : Aside0 (Below w.heap.size w (World.setCell (World.setCell w6 ⟨g6, 0, none⟩ (.int .i64 y0)) ⟨g6, 1, none⟩ (.bool false))) := ⟨(below_set (below_set HB.out ag.out) ag.out)⟩
    have n2_ := zA ((blk_far (blk_far aa.out (p := ⟨g6, 0, none⟩) (N46.out) (.int .i64 y0)) (p := ⟨g6, 1, none⟩) (N46.out) (.bool false))); have n3_ := zA ((blk_far (blk_far ab.out (p := ⟨g6, 0, none⟩) (N56.out) (.int .i64 y0)) (p := ⟨g6, 1, none⟩) (N56.out) (.bool false))); clear ae HB aa ab; generalize (World.setCell (World.setCell w6 ⟨g6, 0, none⟩ (.int .i64 y0)) ⟨g6, 1, none⟩ (.bool false)) = w7 at n0_ n1_ n2_ n3_ ⊢; have ae := n0_; have HB := n1_; have aa := n2_; have ab := n3_; clear n0_ n1_ n2_ n3_
    have r0 : w7.cell? ⟨g4, 0, none⟩ = some (.int .i64 of) := (blk_cell aa.out 0).trans rfl
    have r1 : w7.cell? ⟨g4, 1, none⟩ = some (.bool cp) := (blk_cell aa.out 1).trans rfl
    have t0 : w7.cell? ⟨g6, 0, none⟩ = some (.int .i64 y0) := (blk_cell ae.out 0).trans rfl
    have t1 : w7.cell? ⟨g6, 1, none⟩ = some (.bool false) := (blk_cell ae.out 1).trans rfl
    have s0 : w7.cell? ⟨g5, 0, none⟩ = some (.int .i64 0) := (blk_cell ab.out 0).trans rfl
    have s1 : w7.cell? ⟨g5, 1, none⟩ = some (.bool false) := (blk_cell ab.out 1).trans rfl
    have sf0 := blk_frozen ab.out 0
    have sf1 := blk_frozen ab.out 1
    go_wp2
    refine bodyPost_ret (results_cell_row rfl _ _ g5 67 #[.int .i64 y0, .bool cp] (0, 0) _ rfl ((blk_put (cs := #[.int .i64 y0, .bool false]) (blk_put (cs := #[.int .i64 0, .bool false]) ab.out 0 (.int .i64 y0) rfl) 1 (.bool cp) rfl)) Try.underlying67 rfl (by kernel_rfl)) rfl ?_
    exact ⟨by rw [HV.out, HBV.out], (below_set (below_set HB.out af.out) af.out)⟩
   ·
    have c2b : decide (0 ≤ y0) = false := decide_eq_false c2
    go_enter Try.func61, Try.ntmps61
    go_upto_region 4 with (first | ((with_reducible refine gate_dst (N := 4) rfl ?_); refine box_event ?hg (N := 4) ?hd (cs := #[.int .i64 of, .bool cp]) (t := 67) ?hr ?_; (case hd => rfl); (case hg => rfl); (case hr => first | (go_simp; done) | (go_simp; rfl)); intro g4 hg w4 hbox hb; have NP4 : Aside0 (gb ≠ g4) := ⟨by have := blk_lt ac.out; omega⟩; have ah : Aside0 (w.heap.size ≤ g4) := ⟨by rw [hg]; exact HB.out.size⟩; replace HB := zA (below_step HB.out hb); replace ac := zA (blk_keep ac.out hb); have aa := zA hbox; clear hb hbox hg; have q0 : w4.cell? ⟨g4, 0, none⟩ = some (.int .i64 of) := (blk_cell aa.out 0).trans rfl; have q1 : w4.cell? ⟨g4, 1, none⟩ = some (.bool cp) := (blk_cell aa.out 1).trans rfl; have qf0 := blk_frozen aa.out 0; have qf1 := blk_frozen aa.out 1) | ((with_reducible refine gate_dst (N := 5) rfl ?_); refine box_event ?hg (N := 5) ?hd (cs := #[.int .i64 0, .bool false]) (t := 67) ?hr ?_; (case hd => rfl); (case hg => rfl); (case hr => first | (go_simp; done) | (go_simp; rfl)); intro g5 hg w5 hbox hb; have N45 : Aside0 (g4 ≠ g5) := ⟨by have := blk_lt aa.out; omega⟩; have af : Aside0 (w.heap.size ≤ g5) := ⟨by rw [hg]; exact HB.out.size⟩; replace HB := zA (below_step HB.out hb); replace ac := zA (blk_keep ac.out hb); replace aa := zA (blk_keep aa.out hb); have ab := zA hbox; clear hb hbox hg; clear q0 q1 qf0 qf1; have r0 : w5.cell? ⟨g4, 0, none⟩ = some (.int .i64 of) := (blk_cell aa.out 0).trans rfl; have r1 : w5.cell? ⟨g4, 1, none⟩ = some (.bool cp) := (blk_cell aa.out 1).trans rfl; have t2 : w5.cell? ⟨gb, 2, none⟩ = some (.slice (some ad) P.length c3) := (blk_cell ac.out 2).trans rfl; have x0 := (HB.out.cell HL0.out).trans HX0.out; have x1 := (HB.out.cell HL1.out).trans HX1.out; have hin := HIN.out) | ((with_reducible refine gate_dst (N := 6) rfl ?_); refine box_event ?hg (N := 6) ?hd (cs := #[.int .i64 0, .bool false]) (t := 67) ?hr ?_; (case hd => rfl); (case hg => rfl); (case hr => first | (go_simp; done) | (go_simp; rfl)); intro g6 hg w6 hbox hb; have N46 : Aside0 (g4 ≠ g6) := ⟨by have := blk_lt aa.out; omega⟩; have N56 : Aside0 (g5 ≠ g6) := ⟨by have := blk_lt ab.out; omega⟩; have ag : Aside0 (w.heap.size ≤ g6) := ⟨by rw [hg]; exact HB.out.size⟩; replace HB := zA (below_step HB.out hb); replace ac := zA (blk_keep ac.out hb); replace aa := zA (blk_keep aa.out hb); replace ab := zA (blk_keep ab.out hb); have ae := zA hbox; clear hb hbox hg; clear r0 r1 t2 x0 x1; have uf0 := blk_frozen ae.out 0; have uf1 := blk_frozen ae.out 1; have u0 : w6.cell? ⟨g6, 0, none⟩ = some (.int .i64 0) := (blk_cell ae.out 0).trans rfl; have u1 : w6.cell? ⟨g6, 1, none⟩ = some (.bool false) := (blk_cell ae.out 1).trans rfl; have x0 := (HB.out.cell HL0.out).trans HX0.out; have x1 := (HB.out.cell HL1.out).trans HX1.out))
    clear uf0 uf1 u0 u1 x0 x1
    have n0_ : Aside0 (((World.setCell (World.setCell w6 ⟨g6, 0, none⟩ (.int .i64 y0)) ⟨g6, 1, none⟩ (.bool y1))).heap[g6]? = some (.cells #[.int .i64 y0, .bool y1] 67 (0, 0))) := ⟨(blk_put (cs := #[.int .i64 y0, .bool false]) (blk_put (cs := #[.int .i64 0, .bool false]) ae.out 0 (.int .i64 y0) rfl) 1 (.bool y1) rfl)⟩
    have n1_ : Aside0 (Below w.heap.size w (World.setCell (World.setCell w6 ⟨g6, 0, none⟩ (.int .i64 y0)) ⟨g6, 1, none⟩ (.bool y1))) := ⟨(below_set (below_set HB.out ag.out) ag.out)⟩
    have n2_ := zA ((blk_far (blk_far aa.out (p := ⟨g6, 0, none⟩) (N46.out) (.int .i64 y0)) (p := ⟨g6, 1, none⟩) (N46.out) (.bool y1))); have n3_ := zA ((blk_far (blk_far ab.out (p := ⟨g6, 0, none⟩) (N56.out) (.int .i64 y0)) (p := ⟨g6, 1, none⟩) (N56.out) (.bool y1))); clear ae HB aa ab; generalize (World.setCell (World.setCell w6 ⟨g6, 0, none⟩ (.int .i64 y0)) ⟨g6, 1, none⟩ (.bool y1)) = w7 at n0_ n1_ n2_ n3_ ⊢; have ae := n0_; have HB := n1_; have aa := n2_; have ab := n3_; clear n0_ n1_ n2_ n3_
    have r0 : w7.cell? ⟨g4, 0, none⟩ = some (.int .i64 of) := (blk_cell aa.out 0).trans rfl
    have r1 : w7.cell? ⟨g4, 1, none⟩ = some (.bool cp) := (blk_cell aa.out 1).trans rfl
    have t0 : w7.cell? ⟨g6, 0, none⟩ = some (.int .i64 y0) := (blk_cell ae.out 0).trans rfl
    have t1 : w7.cell? ⟨g6, 1, none⟩ = some (.bool y1) := (blk_cell ae.out 1).trans rfl
    have s0 : w7.cell? ⟨g5, 0, none⟩ = some (.int .i64 0) := (blk_cell ab.out 0).trans rfl
    have s1 : w7.cell? ⟨g5, 1, none⟩ = some (.bool false) := (blk_cell ab.out 1).trans rfl
    have sf0 := blk_frozen ab.out 0
    have sf1 := blk_frozen ab.out 1
    go_wp2
    refine bodyPost_ret (results_cell_row rfl _ _ g5 67 #[.int .i64 y0, .bool false] (0, 0) _ rfl ((blk_put (cs := #[.int .i64 y0, .bool false]) (blk_put (cs := #[.int .i64 0, .bool false]) ab.out 0 (.int .i64 y0) rfl) 1 (.bool false) rfl)) Try.underlying67 rfl (by kernel_rfl)) rfl ?_
    exact ⟨by rw [HV.out, HBV.out], (below_set (below_set HB.out af.out) af.out)⟩
  refine rest _ ⟨rfl⟩ ?_
  by_cases h : 0 ≤ y0
  ·
   cases y1
   ·
    exact Or.inr (Or.inl ⟨h, rfl, by rw [decide_eq_true h]; rfl⟩)
   ·
    exact Or.inl ⟨h, rfl, by rw [decide_eq_true h]; rfl⟩
  ·
   exact Or.inr (Or.inr ⟨h, by rw [decide_eq_false h]; rfl⟩)
end Go.Proofs.Ytehpbmdphfbooaa.P
end
section
namespace Go.Proofs.Ytehpbmdphfbooaa.P
open Go.RowKit Go.Proofs.YtehpbmdphfbooaaW.PrintWords Go.Proofs.YtehpbmdphfbooaaW.PrintLast Go.Proofs.YtehpbmdphfbooaaW.PrintMore
set_option linter.unusedVariables false
set_option linter.unusedSimpArgs false
theorem w_succ (i : Nat) (h : i ≤ 1000000000) : wrap64 ((i : Int) + 1) = ((i + 1 : Nat) : Int) := by unfold wrap64; omega
theorem rd67_at {l : List S67} {i : Nat} (h : i < l.length) : rd_T67 l (i : Int) = l[i] := by
  unfold rd_T67
  rw [List.getD_eq_getElem?_getD, Int.toNat_natCast, List.getElem?_eq_getElem h]; rfl
theorem rd61_at {l : List S61} {i : Nat} (h : i < l.length) : rd_T61 l (i : Int) = l[i] := by
  unfold rd_T61
  rw [List.getD_eq_getElem?_getD, Int.toNat_natCast, List.getElem?_eq_getElem h]; rfl
def fIdx {α : Type} (q : α → Bool) : List α → Nat → Int
  | [], _ => -1
  | o :: os, k => if q o = true then (k : Int) else fIdx q os (k + 1)
def isO (i : Int) (c : Bool) (o : S67) : Bool := i == o.f0 && c == o.f1
def keptI (O : List S67) (i : Int) : Int := fIdx (isO i false) O 0
def copiesI (O : List S67) (i : Int) : Nat := O.countP (isO i true)
theorem origin_l0 (O : List S67) (hl : O.length ≤ 1000000) (a : Int) (b : Bool) : ∀ d i : Nat, O.length ≤ i + d → i ≤ O.length → edit_Origin.l0 (d + 1) O O.length i a b = some (fIdx (isO a b) (O.drop i) i)
  | 0, i, h, hi => by
    rw [edit_Origin.l0, if_neg (by omega), List.drop_eq_nil_of_le (by omega)]; rfl
  | d + 1, i, h, hi => by
    by_cases q : i < O.length
    · rw [edit_Origin.l0, if_pos (by omega), if_pos (by omega), if_pos (by omega), List.drop_eq_getElem_cons q, rd67_at q, w_succ i (by omega), origin_l0 O hl a b d (i + 1) (by omega) (by omega)]
      show (if isO a b O[i] = true then _ else _) = some (if isO a b O[i] = true then _ else _)
      split <;> rfl
    · rw [edit_Origin.l0, if_neg (by omega), List.drop_eq_nil_of_le (by omega)]; rfl
theorem kept_f (F T : List S61) (O : List S67) (hl : O.length ≤ 1000000) (i : Int) : edit_Patch_kept.f (O.length + 1) F T O i = some (keptI O i) := by
  unfold edit_Patch_kept.f edit_Origin.f
  rw [show ((0 : Int)) = ((0 : Nat) : Int) from rfl, origin_l0 O hl i false O.length 0 (by omega) (by omega)]
  rfl
theorem copies_l0 (O : List S67) (hl : O.length ≤ 1000000) (a : Int) : ∀ (d i n : Nat), O.length ≤ i + d → i ≤ O.length → n ≤ i → edit_Patch_copies.l0 (d + 1) a n O O.length i = some ((n + (O.drop i).countP (isO a true) : Nat) : Int)
  | 0, i, n, h, hi, hn => by
    rw [edit_Patch_copies.l0, if_neg (by omega), List.drop_eq_nil_of_le (by omega)]; rfl
  | d + 1, i, n, h, hi, hn => by
    by_cases q : i < O.length
    · rw [edit_Patch_copies.l0, if_pos (by omega), if_pos (by omega), if_pos (by omega), List.drop_eq_getElem_cons q, rd67_at q, w_succ i (by omega), w_succ n (by omega), List.countP_cons]
      have e : isO a true O[i] = (O[i].f0 == a && O[i].f1) := by
        unfold isO
        rw [Bool.beq_comm (a := O[i].f0)]
        cases O[i].f1 <;> simp
      rw [e]
      split
      · rw [copies_l0 O hl a d (i + 1) (n + 1) (by omega) (by omega) (by omega)]
        congr 2
        omega
      · rw [copies_l0 O hl a d (i + 1) n (by omega) (by omega) (by omega)]
        rfl
    · rw [edit_Patch_copies.l0, if_neg (by omega), List.drop_eq_nil_of_le (by omega)]; rfl
theorem copies_f (F T : List S61) (O : List S67) (hl : O.length ≤ 1000000) (i : Int) : edit_Patch_copies.f (O.length + 1) F T O i = some ((copiesI O i : Nat) : Int) := by
  unfold edit_Patch_copies.f
  have := copies_l0 O hl i O.length 0 0 (by omega) (by omega) (by omega)
  rw [Nat.zero_add] at this
  exact this
theorem kept68 (A0 : Option Addr) (c0 : Nat) (F : List S61) (A1 : Option Addr) (c1 : Nat) (T : List S61) (A2 : Option Addr) (c2 : Nat) (O : List S67) (i : Int) (w : World) (h0 : Kd.C k61 w A0 F.length F) (d0 : F.length ≤ c0) (h1 : Kd.C k61 w A1 T.length T) (d1 : T.length ≤ c1) (h2 : Kd.C k67 w A2 O.length O) (d2 : O.length ≤ c2) (hl : O.length ≤ 1000000) :
    Calls Try.prog 68 #[.agg #[.slice A0 F.length c0, .slice A1 T.length c1, .slice A2 O.length c2], .int .i64 i] w fun e w' => e = .returned (.int .i64 (keptI O i)) ∧ Below w.heap.size w w' :=
  edit_Patch_kept.calls (O.length + 1) A0 c0 F A1 c1 T A2 c2 O i _ w h0 d0 h1 d1 h2 d2 (kept_f F T O hl i)
theorem copies105 (A0 : Option Addr) (c0 : Nat) (F : List S61) (A1 : Option Addr) (c1 : Nat) (T : List S61) (A2 : Option Addr) (c2 : Nat) (O : List S67) (i : Int) (w : World) (h0 : Kd.C k61 w A0 F.length F) (d0 : F.length ≤ c0) (h1 : Kd.C k61 w A1 T.length T) (d1 : T.length ≤ c1) (h2 : Kd.C k67 w A2 O.length O) (d2 : O.length ≤ c2) (hl : O.length ≤ 1000000) :
    Calls Try.prog 105 #[.agg #[.slice A0 F.length c0, .slice A1 T.length c1, .slice A2 O.length c2], .int .i64 i] w fun e w' => e = .returned (.int .i64 ((copiesI O i : Nat) : Int)) ∧ Below w.heap.size w w' :=
  edit_Patch_copies.calls (O.length + 1) A0 c0 F A1 c1 T A2 c2 O i _ w h0 d0 h1 d1 h2 d2 (copies_f F T O hl i)
end Go.Proofs.Ytehpbmdphfbooaa.P
end
section
namespace Go.Proofs.Ytehpbmdphfbooaa.P
open Go.RowKit Go.Proofs.YtehpbmdphfbooaaW.PrintWords Go.Proofs.YtehpbmdphfbooaaW.PrintLast Go.Proofs.YtehpbmdphfbooaaW.PrintMore
attribute [local go_sem] max2_int min2_int max_two min_two max_three min_three max_four min_four
set_option linter.unusedVariables false
set_option linter.unusedSimpArgs false
theorem mapI_map {α β : Type} (f : α → β) (z : α) (l : List α) : mapI (fun _ o => f o) (fun i => l.getD ((i : Int)).toNat z) l.length = l.map f := by
  unfold mapI
  refine List.ext_getElem (by simp) (fun i h1 h2 => ?_)
  have h : i < l.length := by simpa using h1
  simp [List.getD_eq_getElem?_getD, h]
def edit_clone.f (l0 : List S61) : Option (List S61) := if l0.length < 1000000 then some l0 else none
theorem edit_clone.calls (A0 : Option Addr) (c0 : Nat) (l0 : List S61) (r : List S61) (w : World) (hr0 : Kd.C k61 w A0 l0.length l0) (hc0 : l0.length ≤ c0) (h : edit_clone.f l0 = some r) :
    Calls Try.prog 62 #[.slice A0 l0.length c0] w fun e w' => ∃ v0_ : Value, e = .returned (v0_) ∧ Kd.R k61 61 w' w.heap.size (fun _ => True) v0_ r ∧ Below w.heap.size w w' := by
  unfold edit_clone.f at h
  split at h
  · obtain rfl := Option.some.inj h
    exact clone62 A0 c0 l0 w hr0 hc0 ‹_›
  · cases h
def each_then.f (l0 : List S67) (l1_0 l1_1 : List S61) (l1_2 : List S67) : Option (List S67) := if l0.length ≤ 1000000 then (if (l0.all fun o => decide (o.f0 < l1_2.length)) = true then some (l0.map (thenO l1_2)) else none) else none
theorem each_then.calls (gb : Nat) (A0 : Option Addr) (c0 : Nat) (l0 : List S67) (A1_0 : Option Addr) (c1_0 : Nat) (l1_0 : List S61) (A1_1 : Option Addr) (c1_1 : Nat) (l1_1 : List S61) (A1_2 : Option Addr) (c1_2 : Nat) (l1_2 : List S67) (r : List S67) (w : World)
    (hbox : w.heap[gb]? = some (.cells #[.slice A1_0 l1_0.length c1_0, .slice A1_1 l1_1.length c1_1, .slice A1_2 l1_2.length c1_2] 28 (0, 0))) (h0 : Kd.C k67 w A0 l0.length l0) (d0 : l0.length ≤ c0) (h1 : Kd.C k61 w A1_0 l1_0.length l1_0) (d1 : l1_0.length ≤ c1_0) (h2 : Kd.C k61 w A1_1 l1_1.length l1_1) (d2 : l1_1.length ≤ c1_1) (h3 : Kd.C k67 w A1_2 l1_2.length l1_2) (d3 : l1_2.length ≤ c1_2) (h : each_then.f l0 l1_0 l1_1 l1_2 = some r) :
    Calls Try.prog 60 #[.slice A0 l0.length c0, .func (.func 61) #[] #[.pointer (some ⟨gb, 0, none⟩)]] w fun e w' => ∃ v0_ : Value, e = .returned (v0_) ∧ Kd.R k67 67 w' w.heap.size (fun _ => True) v0_ r ∧ Below w.heap.size w w' := by
  unfold each_then.f at h
  split at h
  · split at h
    · rename_i hl hall
      obtain rfl := Option.some.inj h
      have := each60 gb A0 c0 l0 (fun _ o => thenO l1_2 o) w h0 d0 hl (fun i W hi hW => then61 gb _ _ A1_2 c1_2 l1_2 i (rd_T67 l0 i) W ((hW.block gb (blk_lt hbox)).trans hbox) (Kd.C_below h3 hW) (by
        have := List.all_eq_true.1 hall _ (List.getElem_mem hi)
        rw [rd67_at hi]
        simpa using this))
      rwa [show mapI (fun _ o => thenO l1_2 o) (fun i => rd_T67 l0 (i : Int)) l0.length = l0.map (thenO l1_2) from mapI_map _ z67 l0] at this
    · cases h
  · cases h
def edit_Then.f (k : Nat) (l0_0 : List (S61)) (l0_1 : List (S61)) (l0_2 : List (S67)) (l1_0 : List (S61)) (l1_1 : List (S61)) (l1_2 : List (S67)) : Option ((List (S61)) × (List (S61)) × (List (S67)) × Int) := (edit_CheckPatch.f l0_0 l0_1 l0_2).bind fun t231 => ((edit_CheckPatch.f l1_0 l1_1 l1_2).bind fun t232 => ((api_Errno.f k (([t231, t232] : List Int))).bind fun t236 => (if t236 = 0 then ((edit_Note.f k l0_1 l1_0).bind fun t237 => (if t237 = true then ((each_then.f l1_2 l0_0 l0_1 l0_2).bind fun t238 => ((edit_clone.f l0_0).bind fun t241 => ((edit_clone.f l1_1).bind fun t244 => (some (t241, t244, t238, 0))))) else (some (([] : List (S61)), ([] : List (S61)), ([] : List (S67)), 6)))) else (some (([] : List (S61)), ([] : List (S61)), ([] : List (S67)), t236)))))
def edit_Then.T7 : Bool × List (List Nat × List Nat) := (true, [([], []), ([0], [0]), ([1], [1]), ([], []), ([3], [3]), ([4, 2], [4]), ([], []), ([2, 5, 6], [2, 5, 6]), ([7, 5, 0, 1, 2, 3, 4, 5, 6, 7], [7]), ([8, 0, 1, 2, 3, 4, 5, 6, 7, 8], [])])
def edit_Then.B7 : List Nat := [0, 1, 3, 0, 8, 31, 0, 127, 255, 511]
theorem edit_Then.tab7 : rtab .any (opsOf Try.f24 7) = edit_Then.T7 := by kernel_rfl
theorem edit_Then.bits7 : waitsOk edit_Then.T7.2 edit_Then.B7 = true := by kernel_rfl
set_option maxHeartbeats 8000000 in
set_option maxRecDepth 100000 in
theorem edit_Then.calls (k : Nat) (ao : Option Addr) (ap : Nat) (ae : List (S61)) (am : Option Addr) (an : Nat) (af : List (S61)) (ar : Option Addr) (au : Nat) (ah : List (S67)) (av : Option Addr) (aw : Nat) (ak : List (S61)) (ax : Option Addr) (ay : Nat) (aj : List (S61)) (az : Option Addr) (aA : Nat) (al : List (S67)) (r1 : List (S61)) (r2 : List (S61)) (r3 : List (S67)) (r4 : Int) (w : World) (a6 : Kd.C k61 w ao ae.length ae) (a7 : ae.length ≤ ap) (a8 : Kd.C k61 w am af.length af) (a9 : af.length ≤ an) (ba : Kd.C k67 w ar ah.length ah) (bb : ah.length ≤ au) (bc : Kd.C k61 w av ak.length ak) (bd : ak.length ≤ aw) (be : Kd.C k61 w ax aj.length aj) (bf : aj.length ≤ ay) (bg : Kd.C k67 w az al.length al) (bh : al.length ≤ aA) (h : edit_Then.f k ae af ah ak aj al = some (r1, r2, r3, r4)) :
  Calls Try.prog 24 #[.agg #[.slice ao ae.length ap, .slice am af.length an, .slice ar ah.length au], .agg #[.slice av ak.length aw, .slice ax aj.length ay, .slice az al.length aA]] w fun e w' => ∃ v0_ v1_ v2_ : Value, e = .returned (.tuple #[.agg #[v0_, v1_, v2_], .int .i64 r4]) ∧ Kd.R k61 61 w' w.heap.size (fun k_ => some k_ ≠ (v1_ : Value).ownBlock) v0_ r1 ∧ Kd.R k61 61 w' w.heap.size (fun k_ => some k_ ≠ (v0_ : Value).ownBlock) v1_ r2 ∧ Kd.R k67 67 w' w.heap.size (fun _ => True) v2_ r3 ∧ Below w.heap.size w w' := by
 have hu28 := Try.underlying28
 have aO := zA a6
 have aP := zA a7
 clear a6 a7
 have aJ := zA a8
 have aK := zA a9
 clear a8 a9
 have aV := zA ba
 have aW := zA bb
 clear ba bb
 have aQ := zA bc
 have aR := zA bd
 clear bc bd
 have aX := zA be
 have aY := zA bf
 clear be bf
 have aZ := zA bg
 have a0 := zA bh
 clear bg bh
 have HB := zA (Below.refl w.heap.size w)
 have H : ((edit_CheckPatch.f ae af ah).bind fun t231 => ((edit_CheckPatch.f ak aj al).bind fun t232 => ((api_Errno.f k (([t231, t232] : List Int))).bind fun t236 => (if t236 = 0 then ((edit_Note.f k af ak).bind fun t237 => (if t237 = true then ((each_then.f al ae af ah).bind fun t238 => ((edit_clone.f ae).bind fun t241 => ((edit_clone.f aj).bind fun t244 => (some (t241, t244, t238, 0))))) else (some (([] : List (S61)), ([] : List (S61)), ([] : List (S67)), 6)))) else (some (([] : List (S61)), ([] : List (S61)), ([] : List (S67)), t236)))))) = some (r1, r2, r3, r4) := h
 clear h
 replace H := Option.bind_eq_some_iff.mp H
 obtain ⟨t231, A30, H⟩ := H
 replace H : ((edit_CheckPatch.f ak aj al).bind fun t232 => ((api_Errno.f k (([t231, t232] : List Int))).bind fun t236 => (if t236 = 0 then ((edit_Note.f k af ak).bind fun t237 => (if t237 = true then ((each_then.f al ae af ah).bind fun t238 => ((edit_clone.f ae).bind fun t241 => ((edit_clone.f aj).bind fun t244 => (some (t241, t244, t238, 0))))) else (some (([] : List (S61)), ([] : List (S61)), ([] : List (S67)), 6)))) else (some (([] : List (S61)), ([] : List (S61)), ([] : List (S67)), t236))))) = some (r1, r2, r3, r4) := H
 have A3 := zA A30
 clear A30
 replace H := Option.bind_eq_some_iff.mp H
 obtain ⟨t232, A40, H⟩ := H
 replace H : ((api_Errno.f k (([t231, t232] : List Int))).bind fun t236 => (if t236 = 0 then ((edit_Note.f k af ak).bind fun t237 => (if t237 = true then ((each_then.f al ae af ah).bind fun t238 => ((edit_clone.f ae).bind fun t241 => ((edit_clone.f aj).bind fun t244 => (some (t241, t244, t238, 0))))) else (some (([] : List (S61)), ([] : List (S61)), ([] : List (S67)), 6)))) else (some (([] : List (S61)), ([] : List (S61)), ([] : List (S67)), t236)))) = some (r1, r2, r3, r4) := H
 have A4 := zA A40
 clear A40
 obtain ⟨y233, a5⟩ : ∃ y_ : List Int, y_ = (([t231, t232] : List Int)) := ⟨_, rfl⟩
 replace H : ((api_Errno.f k y233).bind fun t236 => (if t236 = 0 then ((edit_Note.f k af ak).bind fun t237 => (if t237 = true then ((each_then.f al ae af ah).bind fun t238 => ((edit_clone.f ae).bind fun t241 => ((edit_clone.f aj).bind fun t244 => (some (t241, t244, t238, 0))))) else (some (([] : List (S61)), ([] : List (S61)), ([] : List (S67)), 6)))) else (some (([] : List (S61)), ([] : List (S61)), ([] : List (S67)), t236)))) = some (r1, r2, r3, r4) := zqF a5 H
 have aL := zA a5
 clear a5
 replace H := Option.bind_eq_some_iff.mp H
 obtain ⟨t236, A50, H⟩ := H
 replace H : (if t236 = 0 then ((edit_Note.f k af ak).bind fun t237 => (if t237 = true then ((each_then.f al ae af ah).bind fun t238 => ((edit_clone.f ae).bind fun t241 => ((edit_clone.f aj).bind fun t244 => (some (t241, t244, t238, 0))))) else (some (([] : List (S61)), ([] : List (S61)), ([] : List (S67)), 6)))) else (some (([] : List (S61)), ([] : List (S61)), ([] : List (S67)), t236))) = some (r1, r2, r3, r4) := H
 have A5 := zA A50
 clear A50
 by_cases c6 : t236 = 0
 ·
  rw [if_pos c6] at H
  have c6b0 : (t236 == 0) = true := beq_iff_eq.mpr c6
  have c6b1 : (t236 != 0) = false := bne_eq_false_iff_eq.mpr c6
  clear c6
  replace H := Option.bind_eq_some_iff.mp H
  obtain ⟨t237, A70, H⟩ := H
  replace H : (if t237 = true then ((each_then.f al ae af ah).bind fun t238 => ((edit_clone.f ae).bind fun t241 => ((edit_clone.f aj).bind fun t244 => (some (t241, t244, t238, 0))))) else (some (([] : List (S61)), ([] : List (S61)), ([] : List (S67)), 6))) = some (r1, r2, r3, r4) := H
  have A7 := zA A70
  clear A70
  by_cases c8 : t237 = true
  ·
   subst c8
   have H1 : ((each_then.f al ae af ah).bind fun t238 => ((edit_clone.f ae).bind fun t241 => ((edit_clone.f aj).bind fun t244 => (some (t241, t244, t238, 0))))) = some (r1, r2, r3, r4) := by rw [if_pos rfl] at H; exact H
   clear H; have H := H1; clear H1
   replace H := Option.bind_eq_some_iff.mp H
   obtain ⟨t238, A90, H⟩ := H
   replace H : ((edit_clone.f ae).bind fun t241 => ((edit_clone.f aj).bind fun t244 => (some (t241, t244, t238, 0)))) = some (r1, r2, r3, r4) := H
   have A9 := zA A90
   clear A90
   replace H := Option.bind_eq_some_iff.mp H
   obtain ⟨t241, A100, H⟩ := H
   replace H : ((edit_clone.f aj).bind fun t244 => (some (t241, t244, t238, 0))) = some (r1, r2, r3, r4) := H
   have A10 := zA A100
   clear A100
   replace H := Option.bind_eq_some_iff.mp H
   obtain ⟨t244, A110, H⟩ := H
   replace H : (some (t241, t244, t238, 0)) = some (r1, r2, r3, r4) := H
   have A11 := zA A110
   clear A110
   simp only [Option.some.injEq, Prod.mk.injEq] at H
   obtain ⟨rfl, rfl, rfl, rfl⟩ := H
   go_enter Try.func24, Try.ntmps24
   try go_wp2_with (first | ((with_reducible refine gate_dst (N := 2) rfl ?_); refine box_event ?hg (N := 2) ?hd (cs := #[.slice ao ae.length ap, .slice am af.length an, .slice ar ah.length au]) (t := 28) ?hr ?_; (case hd => rfl); (case hg => rfl); (case hr => first | (go_simp; done) | (go_simp; rfl)); intro ad hg w12 hbox hb; have aa := zA (hbox); have bi := zA ((by rw [hg]; exact (below_size (zqA HB.out)) : w.heap.size ≤ ad)); have aq := zA ((by rw [hg]; exact (below_size (zqA HB.out)) : w.heap.size ≤ ad)); replace HB := zA (below_step (zqA HB.out) hb); clear hb hbox hg) | ((with_reducible refine gate_dst (N := 3) rfl ?_); refine box_event ?hg (N := 3) ?hd (cs := #[.slice av ak.length aw, .slice ax aj.length ay, .slice az al.length aA]) (t := 28) ?hr ?_; (case hd => rfl); (case hg => rfl); (case hr => first | (go_simp; done) | (go_simp; rfl)); intro ai hg w13 hbox hb; have ab := zA (hbox); have bj := zA ((by rw [hg]; exact (below_size (zqG HB.out aq.out)) : w.heap.size ≤ ai)); have aB := zA ((by rw [hg]; exact (below_size (zqG HB.out aq.out)) : w.heap.size ≤ ai)); replace HB := zA (below_step (zqG HB.out aq.out) hb); have a1 := zA ((by rw [hg]; exact Nat.ne_of_lt (blk_lt (g := ad) (o := .cells #[.slice ao ae.length ap, .slice am af.length an, .slice ar ah.length au] 28 (0, 0)) (zqB aa.out)) : ad ≠ ai)); have a2 := zA ((by rw [hg]; exact Nat.ne_of_gt (blk_lt (g := ad) (o := .cells #[.slice ao ae.length ap, .slice am af.length an, .slice ar ah.length au] 28 (0, 0)) (zqB aa.out)) : ai ≠ ad)); replace aa := zA (blk_below (g := ad) (o := .cells #[.slice ao ae.length ap, .slice am af.length an, .slice ar ah.length au] 28 (0, 0)) (zqB aa.out) hb); clear hb hbox hg) | ((with_reducible refine gate_dst (N := 4) rfl ?_); refine box_event ?hg (N := 4) ?hd (cs := #[.slice none 0 0, .slice none 0 0, .slice none 0 0]) (t := 28) ?hr ?_; (case hd => rfl); (case hg => rfl); (case hr => first | (go_simp; done) | (go_simp; rfl)); intro ac hg w14 hbox hb; have ag := zA (hbox); have bk := zA ((by rw [hg]; exact (below_size (zqH HB.out aq.out aB.out)) : w.heap.size ≤ ac)); have aC := zA ((by rw [hg]; exact (below_size (zqH HB.out aq.out aB.out)) : w.heap.size ≤ ac)); replace HB := zA (below_step (zqH HB.out aq.out aB.out) hb); have aE := zA ((by rw [hg]; exact Nat.ne_of_lt (blk_lt (g := ad) (o := .cells #[.slice ao ae.length ap, .slice am af.length an, .slice ar ah.length au] 28 (0, 0)) (zqB aa.out)) : ad ≠ ac)); have aH := zA ((by rw [hg]; exact Nat.ne_of_gt (blk_lt (g := ad) (o := .cells #[.slice ao ae.length ap, .slice am af.length an, .slice ar ah.length au] 28 (0, 0)) (zqB aa.out)) : ac ≠ ad)); replace aa := zA (blk_below (g := ad) (o := .cells #[.slice ao ae.length ap, .slice am af.length an, .slice ar ah.length au] 28 (0, 0)) (zqB aa.out) hb); have aF := zA ((by rw [hg]; exact Nat.ne_of_lt (blk_lt (g := ai) (o := .cells #[.slice av ak.length aw, .slice ax aj.length ay, .slice az al.length aA] 28 (0, 0)) (zqB ab.out)) : ai ≠ ac)); have aI := zA ((by rw [hg]; exact Nat.ne_of_gt (blk_lt (g := ai) (o := .cells #[.slice av ak.length aw, .slice ax aj.length ay, .slice az al.length aA] 28 (0, 0)) (zqB ab.out)) : ac ≠ ai)); replace ab := zA (blk_below (g := ai) (o := .cells #[.slice av ak.length aw, .slice ax aj.length ay, .slice az al.length aA] 28 (0, 0)) (zqB ab.out) hb); clear hb hbox hg))
   replace aa := zA (blk_drew aa.out)
   replace ab := zA (blk_drew ab.out)
   replace ag := zA (blk_drew ag.out)
   replace HB := zA (below_drew1 HB.out)
   refine start_ (n := 7) (S := fun w' => w'.cell? ⟨ad, 0, none⟩ = some (.slice ao ae.length ap) ∧ w'.cell? ⟨ad, 1, none⟩ = some (.slice am af.length an) ∧ w'.cell? ⟨ad, 2, none⟩ = some (.slice ar ah.length au) ∧ w'.cell? ⟨ai, 0, none⟩ = some (.slice av ak.length aw) ∧ w'.cell? ⟨ai, 1, none⟩ = some (.slice ax aj.length ay) ∧ w'.cell? ⟨ai, 2, none⟩ = some (.slice az al.length aA)) (ds := []) #[false, false, false, false, false, false, false] (by kernel_rfl) rfl rfl ⟨(blk_cell aa.out 0).trans rfl, (blk_cell aa.out 1).trans rfl, (blk_cell aa.out 2).trans rfl, (blk_cell ab.out 0).trans rfl, (blk_cell ab.out 1).trans rfl, (blk_cell ab.out 2).trans rfl⟩ (fun hHeld => ?_)
   generalize w14.drew = w15 at aa ab ag HB hHeld ⊢
   refine take_ (i := 0) (N := some 8) (v := ?_) (a' := ?_) #[true, false, false, false, false, false, false] rfl rfl (by kernel_rfl) (fun _ _ _ h => h) (Or.inl ⟨by rfl, ?_⟩) hHeld ?_ ?_
   rotate_left
   ·
    rintro w' ⟨s0, s1, s2, s3, s4, s5⟩
    go_simp
    with_reducible rfl
   rotate_left
   ·
    exact putQ
   refine take_ (i := 2) (N := some 10) (v := ?_) (a' := ?_) #[true, false, true, false, false, false, false] rfl rfl (by kernel_rfl) (fun _ _ _ h => h) (Or.inl ⟨by rfl, ?_⟩) hHeld ?_ ?_
   rotate_left
   ·
    rintro w' ⟨s0, s1, s2, s3, s4, s5⟩
    go_simp
    with_reducible rfl
   rotate_left
   ·
    exact putQ
   refine one_ (i := 1) (N := some 9) #[true, true, true, false, false, false, false] rfl rfl (by kernel_rfl) (by decide) (fun K hK => ?_)
   refine goes_ Try.func34 (by kernel_rfl) rfl #[.agg #[.slice ao ae.length ap, .slice am af.length an, .slice ar ah.length au]] (by rfl) rfl rfl zqE ?_
   with_reducible refine (edit_CheckPatch.calls _ _ ae _ _ af _ _ ah t231 _ ?side1 ?side2 ?side3 ?side4 ?side5 ?side6 A3.out).mono ?_
   (case side1 => exact zqK (Kd.C_below aO.out HB.out))
   (case side2 => exact aP.out)
   (case side3 => exact zqK (Kd.C_below aJ.out HB.out))
   (case side4 => exact aK.out)
   (case side5 => exact zqK (Kd.C_below aV.out HB.out))
   (case side6 => exact aW.out)
   rintro e w16 ⟨rfl, hb⟩
   refine ⟨_, rfl, ?_⟩
   replace aa := zA (blk_below (g := ad) (o := .cells #[.slice ao ae.length ap, .slice am af.length an, .slice ar ah.length au] 28 (0, 0)) (zqB aa.out) hb)
   replace ab := zA (blk_below (g := ai) (o := .cells #[.slice av ak.length aw, .slice ax aj.length ay, .slice az al.length aA] 28 (0, 0)) (zqB ab.out) hb)
   replace ag := zA (blk_below (g := ac) (o := .cells #[.slice none 0 0, .slice none 0 0, .slice none 0 0] 28 (0, 0)) (zqB ag.out) hb)
   replace HB := zA (below_step (zqI HB.out aq.out aB.out aC.out) hb)
   refine hK.out _ _ ⟨(blk_cell aa.out 0).trans rfl, (blk_cell aa.out 1).trans rfl, (blk_cell aa.out 2).trans rfl, (blk_cell ab.out 0).trans rfl, (blk_cell ab.out 1).trans rfl, (blk_cell ab.out 2).trans rfl⟩ (fun hHeld => ?_)
   clear hK K
   refine normQ ?_
   refine one_ (i := 3) (N := some 11) #[true, true, true, true, false, false, false] rfl rfl (by kernel_rfl) (by decide) (fun K hK => ?_)
   refine goes_ Try.func34 (by kernel_rfl) rfl #[.agg #[.slice av ak.length aw, .slice ax aj.length ay, .slice az al.length aA]] (by rfl) rfl rfl zqE ?_
   with_reducible refine (edit_CheckPatch.calls _ _ ak _ _ aj _ _ al t232 _ ?side1 ?side2 ?side3 ?side4 ?side5 ?side6 A4.out).mono ?_
   (case side1 => exact zqK (Kd.C_below aQ.out HB.out))
   (case side2 => exact aR.out)
   (case side3 => exact zqK (Kd.C_below aX.out HB.out))
   (case side4 => exact aY.out)
   (case side5 => exact zqK (Kd.C_below aZ.out HB.out))
   (case side6 => exact a0.out)
   rintro e w17 ⟨rfl, hb⟩
   refine ⟨_, rfl, ?_⟩
   replace aa := zA (blk_below (g := ad) (o := .cells #[.slice ao ae.length ap, .slice am af.length an, .slice ar ah.length au] 28 (0, 0)) (zqB aa.out) hb)
   replace ab := zA (blk_below (g := ai) (o := .cells #[.slice av ak.length aw, .slice ax aj.length ay, .slice az al.length aA] 28 (0, 0)) (zqB ab.out) hb)
   replace ag := zA (blk_below (g := ac) (o := .cells #[.slice none 0 0, .slice none 0 0, .slice none 0 0] 28 (0, 0)) (zqB ag.out) hb)
   replace HB := zA (below_step (zqI HB.out aq.out aB.out aC.out) hb)
   refine hK.out _ _ ⟨(blk_cell aa.out 0).trans rfl, (blk_cell aa.out 1).trans rfl, (blk_cell aa.out 2).trans rfl, (blk_cell ab.out 0).trans rfl, (blk_cell ab.out 1).trans rfl, (blk_cell ab.out 2).trans rfl⟩ (fun hHeld => ?_)
   clear hK K
   refine normQ ?_
   refine one_ (i := 4) (N := some 12) #[true, true, true, true, true, false, false] rfl rfl (by kernel_rfl) (by decide) (fun K hK => ?_)
   refine Kd.R_lit_step (Kd.int .i64) _ 29 ?hg (N := 12) ?hd (xs := ([t231, t232] : List Int)) (inner := [.int .i64 t231, .int .i64 t232]) (ok := fun _ => True) (okp := fun _ => True) ?hr ?hp (fun _ hk => hk) trivial (Below.refl _ _) (Nat.le_refl _) (by simp) ?_; (case hd => rfl); (case hg => rfl); (case hr => first | (go_simp; done) | (go_simp; rfl)); (case hp => exact (Reps.one (show Kd.M (Kd.int .i64) _ _ _ t231 [.int .i64 t231] from rfl) (Reps.one (show Kd.M (Kd.int .i64) _ _ _ t232 [.int .i64 t232] from rfl) (Reps.none _ _))))
   intro v234 w18 ho19 hb hg_ hnew_
   clear hg_ hnew_
   (first | rw [← aL.out] at ho19 | (simp only [Int.reduceToNat] at ho19; rw [← aL.out] at ho19))
   have aD := zA (Kd.R_lower ho19 (below_size (zqI HB.out aq.out aB.out aC.out)))
   replace aa := zA (blk_below (g := ad) (o := .cells #[.slice ao ae.length ap, .slice am af.length an, .slice ar ah.length au] 28 (0, 0)) (zqB aa.out) hb)
   replace ab := zA (blk_below (g := ai) (o := .cells #[.slice av ak.length aw, .slice ax aj.length ay, .slice az al.length aA] 28 (0, 0)) (zqB ab.out) hb)
   replace ag := zA (blk_below (g := ac) (o := .cells #[.slice none 0 0, .slice none 0 0, .slice none 0 0] 28 (0, 0)) (zqB ag.out) hb)
   replace HB := zA (below_step (zqI HB.out aq.out aB.out aC.out) hb)
   clear hb ho19
   obtain ⟨Ao20, co20, eo20⟩ := Kd.R_slice aD.out
   (first | subst eo20 | (injection eo20 with f1_ f2_ f3_; have f4_ := f1_.symm; have f5_ := f3_.symm; clear f1_ f2_ f3_; subst f4_; subst f5_))
   refine hK.out _ _ ⟨(blk_cell aa.out 0).trans rfl, (blk_cell aa.out 1).trans rfl, (blk_cell aa.out 2).trans rfl, (blk_cell ab.out 0).trans rfl, (blk_cell ab.out 1).trans rfl, (blk_cell ab.out 2).trans rfl⟩ (fun hHeld => ?_)
   clear hK K
   refine normQ ?_
   refine one_ (i := 5) (N := some 13) #[true, true, true, true, true, true, false] rfl rfl (by kernel_rfl) (by decide) (fun K hK => ?_)
   refine goes_ Try.func58 (by kernel_rfl) rfl #[.slice Ao20 y233.length co20] (by rfl) rfl rfl zqE ?_
   with_reducible refine (api_Errno.calls k _ _ y233 t236 _ ?side1 ?side2 A5.out).mono ?_
   (case side1 => exact zqK (Kd.R_reads' aD.out).2.2)
   (case side2 => exact (Kd.R_reads' aD.out).2.1)
   rintro e w' ⟨rfl, ⟨nd, rfl⟩⟩
   refine ⟨_, rfl, ?_⟩
   refine hK.out _ _ ⟨(blk_cell aa.out 0).trans rfl, (blk_cell aa.out 1).trans rfl, (blk_cell aa.out 2).trans rfl, (blk_cell ab.out 0).trans rfl, (blk_cell ab.out 1).trans rfl, (blk_cell ab.out 2).trans rfl⟩ (fun hHeld => ?_)
   clear hK K
   refine normQ ?_
   refine pure_ (i := 6) (N := some 6) (v := ?_) (a' := ?_) #[true, true, true, true, true, true, true] rfl rfl (by kernel_rfl) (fun _ _ _ h => h) (Or.inl ⟨by rfl, ?_⟩) ?_ ?_
   rotate_left
   ·
    intro w'
    go_simp
    with_reducible rfl
   rotate_left
   ·
    exact putQ
   refine done_ (by kernel_rfl) ?_
   have hnb21 := a1.out
   have hnc21 := a2.out
   have hnb22 := aE.out
   have hnc22 := aH.out
   have hcz23_0 : w18.cell? ⟨ad, 0, none⟩ = some (.slice ao ae.length ap) := (blk_cell aa.out 0).trans rfl
   have hcz23_1 : w18.cell? ⟨ad, 1, none⟩ = some (.slice am af.length an) := (blk_cell aa.out 1).trans rfl
   have hcz23_2 : w18.cell? ⟨ad, 2, none⟩ = some (.slice ar ah.length au) := (blk_cell aa.out 2).trans rfl
   have hfz23_0 := blk_frozen aa.out 0
   have hfz23_1 := blk_frozen aa.out 1
   have hfz23_2 := blk_frozen aa.out 2
   have hnb24 := aF.out
   have hnc24 := aI.out
   have hcz25_0 : w18.cell? ⟨ai, 0, none⟩ = some (.slice av ak.length aw) := (blk_cell ab.out 0).trans rfl
   have hcz25_1 : w18.cell? ⟨ai, 1, none⟩ = some (.slice ax aj.length ay) := (blk_cell ab.out 1).trans rfl
   have hcz25_2 : w18.cell? ⟨ai, 2, none⟩ = some (.slice az al.length aA) := (blk_cell ab.out 2).trans rfl
   have hfz25_0 := blk_frozen ab.out 0
   have hfz25_1 := blk_frozen ab.out 1
   have hfz25_2 := blk_frozen ab.out 2
   try go_wp2_with (first | ((with_reducible refine gate_callee (f := 59) rfl ?_); refine goesL_ (some 22) rfl rfl Try.func59 (by kernel_rfl) rfl #[.slice am af.length an, .slice av ak.length aw] rfl zqE ?_; (with_reducible refine (edit_Note.calls k _ _ af _ _ ak true _ ?side1 ?side2 ?side3 ?side4 A7.out).mono ?_); (case side1 => repeat (first | exact (Kd.C_below aJ.out (zqI HB.out aq.out aB.out aC.out)) | (with_reducible refine Kd.C_alloc ?_ _) | (with_reducible refine Kd.C_drewN ?_ _) | (with_reducible refine Kd.C_drew ?_))); (case side2 => exact aK.out); (case side3 => repeat (first | exact (Kd.C_below aQ.out (zqI HB.out aq.out aB.out aC.out)) | (with_reducible refine Kd.C_alloc ?_ _) | (with_reducible refine Kd.C_drewN ?_ _) | (with_reducible refine Kd.C_drew ?_))); (case side4 => exact aR.out); rintro e w' ⟨rfl, ⟨nd, rfl⟩⟩; refine ⟨_, rfl, ?_⟩) | ((with_reducible refine gate_callee (f := 60) rfl ?_); refine goesL_ (some 28) rfl rfl Try.func60 (by kernel_rfl) rfl #[.slice az al.length aA, .func (.func 61) #[] #[.pointer (some ⟨ad, 0, none⟩)]] rfl zqE ?_; (with_reducible refine (each_then.calls ad _ _ al _ _ ae _ _ af _ _ ah t238 _ (zqB aa.out) ?side1 ?side2 ?side3 ?side4 ?side5 ?side6 ?side7 ?side8 A9.out).mono ?_); (case side1 => exact zqK (Kd.C_below aZ.out HB.out)); (case side2 => exact a0.out); (case side3 => exact zqK (Kd.C_below aO.out HB.out)); (case side4 => exact aP.out); (case side5 => exact zqK (Kd.C_below aJ.out HB.out)); (case side6 => exact aK.out); (case side7 => exact zqK (Kd.C_below aV.out HB.out)); (case side8 => exact aW.out); rintro e w26 ⟨v239, rfl, ho0, hb⟩; refine ⟨_, rfl, ?_⟩; replace aD := zA (Kd.R_below (zqC aD.out) hb); have aG := zA (Kd.R_lower ho0 (below_size (zqI HB.out aq.out aB.out aC.out))); replace aa := zA (blk_below (g := ad) (o := .cells #[.slice ao ae.length ap, .slice am af.length an, .slice ar ah.length au] 28 (0, 0)) (zqB aa.out) hb); replace ab := zA (blk_below (g := ai) (o := .cells #[.slice av ak.length aw, .slice ax aj.length ay, .slice az al.length aA] 28 (0, 0)) (zqB ab.out) hb); replace ag := zA (blk_below (g := ac) (o := .cells #[.slice none 0 0, .slice none 0 0, .slice none 0 0] 28 (0, 0)) (zqB ag.out) hb); replace HB := zA (below_step (zqI HB.out aq.out aB.out aC.out) hb); (try clear hb); (try clear hb2); (try clear hk); (try clear hi); (try clear ho0)))
   replace aD := zA (Kd.R_drew aD.out)
   replace aG := zA (Kd.R_drew aG.out)
   replace aa := zA (blk_drew aa.out)
   replace ab := zA (blk_drew ab.out)
   replace ag := zA (blk_drew ag.out)
   replace HB := zA (below_drew1 HB.out)
   refine start_ (n := 10) (S := fun w' => w'.cell? ⟨ad, 0, none⟩ = some (.slice ao ae.length ap) ∧ w'.cell? ⟨ad, 1, none⟩ = some (.slice am af.length an) ∧ w'.cell? ⟨ad, 2, none⟩ = some (.slice ar ah.length au) ∧ w'.cell? ⟨ai, 0, none⟩ = some (.slice av ak.length aw) ∧ w'.cell? ⟨ai, 1, none⟩ = some (.slice ax aj.length ay) ∧ w'.cell? ⟨ai, 2, none⟩ = some (.slice az al.length aA)) (ds := []) #[false, false, false, false, false, false, false, false, false, false] (by kernel_rfl) rfl rfl ⟨(blk_cell aa.out 0).trans rfl, (blk_cell aa.out 1).trans rfl, (blk_cell aa.out 2).trans rfl, (blk_cell ab.out 0).trans rfl, (blk_cell ab.out 1).trans rfl, (blk_cell ab.out 2).trans rfl⟩ (fun hHeld => ?_); refine with_tabW edit_Then.tab7 edit_Then.bits7 (fun HT_ HW_ => ?_)
   generalize w26.drew = w27 at aD aG aa ab ag HB hHeld ⊢
   refine pureQ 0 (some 29) HT_ ?_
   refine pureQ 3 (some 32) HT_ ?_
   refine pureQ 6 (some 35) HT_ ?_
   refine takeQ (v := ?_) (a' := ?_) 1 (some 30) HT_ HW_ hHeld ?_ ?_ ?_
   rotate_left
   ·
    rintro w' ⟨s0, s1, s2, s3, s4, s5⟩
    go_simp
    with_reducible rfl
   rotate_left
   ·
    exact putQ
   refine takeQ (v := ?_) (a' := ?_) 4 (some 33) HT_ HW_ hHeld ?_ ?_ ?_
   rotate_left
   ·
    rintro w' ⟨s0, s1, s2, s3, s4, s5⟩
    go_simp
    with_reducible rfl
   rotate_left
   ·
    exact putQ
   refine one_ (i := 2) (N := some 31) #[true, true, true, true, true, false, true, false, false, false] rfl rfl (one_of HT_.out (by kernel_rfl)) (by decide) (fun K hK => ?_)
   refine goes_ Try.func62 (by kernel_rfl) rfl #[.slice ao ae.length ap] (by rfl) rfl rfl zqE ?_
   with_reducible refine (edit_clone.calls _ _ ae t241 _ ?side1 ?side2 A10.out).mono ?_
   (case side1 => exact zqK (Kd.C_below aO.out HB.out))
   (case side2 => exact aP.out)
   rintro e w28 ⟨v242, rfl, ho0, hb⟩
   refine ⟨_, rfl, ?_⟩
   replace aD := zA (Kd.R_below (zqC aD.out) hb)
   replace aG := zA (Kd.R_below (zqC aG.out) hb)
   have aS := zA (Kd.R_lower ho0 (below_size (zqI HB.out aq.out aB.out aC.out)))
   replace aa := zA (blk_below (g := ad) (o := .cells #[.slice ao ae.length ap, .slice am af.length an, .slice ar ah.length au] 28 (0, 0)) (zqB aa.out) hb)
   replace ab := zA (blk_below (g := ai) (o := .cells #[.slice av ak.length aw, .slice ax aj.length ay, .slice az al.length aA] 28 (0, 0)) (zqB ab.out) hb)
   replace ag := zA (blk_below (g := ac) (o := .cells #[.slice none 0 0, .slice none 0 0, .slice none 0 0] 28 (0, 0)) (zqB ag.out) hb)
   replace HB := zA (below_step (zqI HB.out aq.out aB.out aC.out) hb)
   refine hK.out _ _ ⟨(blk_cell aa.out 0).trans rfl, (blk_cell aa.out 1).trans rfl, (blk_cell aa.out 2).trans rfl, (blk_cell ab.out 0).trans rfl, (blk_cell ab.out 1).trans rfl, (blk_cell ab.out 2).trans rfl⟩ (fun hHeld => ?_)
   clear hK K
   refine normQ ?_
   refine one_ (i := 5) (N := some 34) #[true, true, true, true, true, true, true, false, false, false] rfl rfl (one_of HT_.out (by kernel_rfl)) (by decide) (fun K hK => ?_)
   refine goes_ Try.func62 (by kernel_rfl) rfl #[.slice ax aj.length ay] (by rfl) rfl rfl zqE ?_
   with_reducible refine (edit_clone.calls _ _ aj t244 _ ?side1 ?side2 A11.out).mono ?_
   (case side1 => exact zqK (Kd.C_below aX.out HB.out))
   (case side2 => exact aY.out)
   rintro e w29 ⟨v245, rfl, ho0, hb⟩
   refine ⟨_, rfl, ?_⟩
   replace aD := zA (Kd.R_below (zqC aD.out) hb)
   replace aG := zA (Kd.R_below (zqC aG.out) hb)
   have bl := zA (Kd.R_lower (Kd.R_new' ho0 (Kd.R_lt (zqC aS.out))) (below_size (zqI HB.out aq.out aB.out aC.out)))
   replace aS := zA (Kd.R_elder' (zqC aS.out) (Kd.R_base ho0) hb)
   replace aa := zA (blk_below (g := ad) (o := .cells #[.slice ao ae.length ap, .slice am af.length an, .slice ar ah.length au] 28 (0, 0)) (zqB aa.out) hb)
   replace ab := zA (blk_below (g := ai) (o := .cells #[.slice av ak.length aw, .slice ax aj.length ay, .slice az al.length aA] 28 (0, 0)) (zqB ab.out) hb)
   replace ag := zA (blk_below (g := ac) (o := .cells #[.slice none 0 0, .slice none 0 0, .slice none 0 0] 28 (0, 0)) (zqB ag.out) hb)
   replace HB := zA (below_step (zqI HB.out aq.out aB.out aC.out) hb)
   obtain ⟨a3, a4, eo30⟩ := Kd.R_slice aG.out
   (first | subst eo30 | (injection eo30 with f1_ f2_ f3_; have f4_ := f1_.symm; have f5_ := f3_.symm; clear f1_ f2_ f3_; subst f4_; subst f5_))
   obtain ⟨aT, aU, eo31⟩ := Kd.R_slice bl.out
   (first | subst eo31 | (injection eo31 with f1_ f2_ f3_; have f4_ := f1_.symm; have f5_ := f3_.symm; clear f1_ f2_ f3_; subst f4_; subst f5_))
   obtain ⟨aM, aN, eo32⟩ := Kd.R_slice aS.out
   (first | subst eo32 | (injection eo32 with f1_ f2_ f3_; have f4_ := f1_.symm; have f5_ := f3_.symm; clear f1_ f2_ f3_; subst f4_; subst f5_))
   refine hK.out _ _ ⟨(blk_cell aa.out 0).trans rfl, (blk_cell aa.out 1).trans rfl, (blk_cell aa.out 2).trans rfl, (blk_cell ab.out 0).trans rfl, (blk_cell ab.out 1).trans rfl, (blk_cell ab.out 2).trans rfl⟩ (fun hHeld => ?_)
   clear hK K
   refine normQ ?_
   refine pureQ 7 (some 36) HT_ ?_
   refine one_ (i := 8) (N := none) #[true, true, true, true, true, true, true, true, true, false] rfl rfl (one_of HT_.out (by kernel_rfl)) (by decide) (fun K hK => ?_)
   have hs33 : w29.cell? ⟨ac, 0, none⟩ = some (.slice none 0 0) := (blk_cell ag.out 0).trans rfl
   have hfs33 := blk_frozen ag.out 0
   have hns33_0 := aE.out
   have hns33_1 := aF.out
   have hms33_0 := aH.out
   have hms33_1 := aI.out
   have hs34 : w29.cell? ⟨ac, 1, none⟩ = some (.slice none 0 0) := (blk_cell ag.out 1).trans rfl
   have hfs34 := blk_frozen ag.out 1
   have hns34_0 := aE.out
   have hns34_1 := aF.out
   have hms34_0 := aH.out
   have hms34_1 := aI.out
   have hs35 : w29.cell? ⟨ac, 2, none⟩ = some (.slice none 0 0) := (blk_cell ag.out 2).trans rfl
   have hfs35 := blk_frozen ag.out 2
   have hns35_0 := aE.out
   have hns35_1 := aF.out
   have hms35_0 := aH.out
   have hms35_1 := aI.out
   refine skip_ (w1 := ?_) (by rfl) rfl ?_ ?_
   rotate_left
   ·
    go_simp
    rfl
   refine hK.out _ _ ⟨((cell_far (p := ⟨ac, _, none⟩) aE.out _).trans (((cell_far (p := ⟨ac, _, none⟩) aE.out _).trans (((cell_far (p := ⟨ac, _, none⟩) aE.out _).trans (hHeld.1)))))), ((cell_far (p := ⟨ac, _, none⟩) aE.out _).trans (((cell_far (p := ⟨ac, _, none⟩) aE.out _).trans (((cell_far (p := ⟨ac, _, none⟩) aE.out _).trans (hHeld.2.1)))))), ((cell_far (p := ⟨ac, _, none⟩) aE.out _).trans (((cell_far (p := ⟨ac, _, none⟩) aE.out _).trans (((cell_far (p := ⟨ac, _, none⟩) aE.out _).trans (hHeld.2.2.1)))))), ((cell_far (p := ⟨ac, _, none⟩) aF.out _).trans (((cell_far (p := ⟨ac, _, none⟩) aF.out _).trans (((cell_far (p := ⟨ac, _, none⟩) aF.out _).trans (hHeld.2.2.2.1)))))), ((cell_far (p := ⟨ac, _, none⟩) aF.out _).trans (((cell_far (p := ⟨ac, _, none⟩) aF.out _).trans (((cell_far (p := ⟨ac, _, none⟩) aF.out _).trans (hHeld.2.2.2.2.1)))))), ((cell_far (p := ⟨ac, _, none⟩) aF.out _).trans (((cell_far (p := ⟨ac, _, none⟩) aF.out _).trans (((cell_far (p := ⟨ac, _, none⟩) aF.out _).trans (hHeld.2.2.2.2.2))))))⟩ (fun hHeld => ?_)
   clear hK K
   refine pureQ 9 (some 5) HT_ ?_
   refine done_ (done_of HT_.out (by kernel_rfl)) ?_
   try go_wp2
   refine bodyPost_ret (results_ct rfl _ _ ac 28 #[.slice aM t241.length aN, .slice aT t244.length aU, .slice a3 t238.length a4] (0, 0) _ rfl (by (with_reducible repeat (first | refine blk_drewN ?_ _ | refine blk_drew ?_ | refine blk_alloc ?_ _)); refine blk_put (cs := #[.slice aM t241.length aN, .slice aT t244.length aU, .slice none 0 0]) ?_ 2 _ rfl; (with_reducible repeat (first | refine blk_drewN ?_ _ | refine blk_drew ?_ | refine blk_alloc ?_ _)); refine blk_put (cs := #[.slice aM t241.length aN, .slice none 0 0, .slice none 0 0]) ?_ 1 _ rfl; (with_reducible repeat (first | refine blk_drewN ?_ _ | refine blk_drew ?_ | refine blk_alloc ?_ _)); refine blk_put (cs := #[.slice none 0 0, .slice none 0 0, .slice none 0 0]) ?_ 0 _ rfl; (with_reducible repeat (first | refine blk_drewN ?_ _ | refine blk_drew ?_ | refine blk_alloc ?_ _)); exact ag.out) Try.underlying28 rfl (by kernel_rfl)) rfl ?_
   exact ⟨_, _, _, zqR, by (with_reducible repeat (first | apply Kd.R_alloc | apply Kd.R_drewN | apply Kd.R_drew)); exact Kd.R_mono (Kd.R_far (p := ⟨ac, 2, none⟩) (Kd.R_far (p := ⟨ac, 1, none⟩) (Kd.R_far (p := ⟨ac, 0, none⟩) (Kd.R_types aS.out ag.out (by decide)) (fun _ hk => hk.2) (.slice aM t241.length aN)) (fun _ hk => hk.2) (.slice aT t244.length aU)) (fun _ hk => hk.2) (.slice a3 t238.length a4)) (fun _ hk => hk.1.2), by (with_reducible repeat (first | apply Kd.R_alloc | apply Kd.R_drewN | apply Kd.R_drew)); exact Kd.R_mono (Kd.R_far (p := ⟨ac, 2, none⟩) (Kd.R_far (p := ⟨ac, 1, none⟩) (Kd.R_far (p := ⟨ac, 0, none⟩) (Kd.R_types bl.out ag.out (by decide)) (fun _ hk => hk.2) (.slice aM t241.length aN)) (fun _ hk => hk.2) (.slice aT t244.length aU)) (fun _ hk => hk.2) (.slice a3 t238.length a4)) (fun _ hk => hk.1.2), by (with_reducible repeat (first | apply Kd.R_alloc | apply Kd.R_drewN | apply Kd.R_drew)); exact Kd.R_mono (Kd.R_far (p := ⟨ac, 2, none⟩) (Kd.R_far (p := ⟨ac, 1, none⟩) (Kd.R_far (p := ⟨ac, 0, none⟩) (Kd.R_types aG.out ag.out (by decide)) (fun _ hk => hk.2) (.slice aM t241.length aN)) (fun _ hk => hk.2) (.slice aT t244.length aU)) (fun _ hk => hk.2) (.slice a3 t238.length a4)) (fun _ hk => trivial), zqI HB.out aq.out aB.out aC.out⟩
  ·
   replace c8 := Bool.eq_false_iff.mpr c8
   subst c8
   have H1 : (some (([] : List (S61)), ([] : List (S61)), ([] : List (S67)), 6)) = some (r1, r2, r3, r4) := by rw [if_neg (show ¬ (false = true) by decide)] at H; exact H
   clear H; have H := H1; clear H1
   simp only [Option.some.injEq, Prod.mk.injEq] at H
   obtain ⟨rfl, rfl, rfl, rfl⟩ := H
   go_enter Try.func24, Try.ntmps24
   try go_wp2_with (first | ((with_reducible refine gate_dst (N := 2) rfl ?_); refine box_event ?hg (N := 2) ?hd (cs := #[.slice ao ae.length ap, .slice am af.length an, .slice ar ah.length au]) (t := 28) ?hr ?_; (case hd => rfl); (case hg => rfl); (case hr => first | (go_simp; done) | (go_simp; rfl)); intro ad hg w36 hbox hb; have aa := zA (hbox); have bi := zA ((by rw [hg]; exact (below_size (zqA HB.out)) : w.heap.size ≤ ad)); have aq := zA ((by rw [hg]; exact (below_size (zqA HB.out)) : w.heap.size ≤ ad)); replace HB := zA (below_step (zqA HB.out) hb); clear hb hbox hg) | ((with_reducible refine gate_dst (N := 3) rfl ?_); refine box_event ?hg (N := 3) ?hd (cs := #[.slice av ak.length aw, .slice ax aj.length ay, .slice az al.length aA]) (t := 28) ?hr ?_; (case hd => rfl); (case hg => rfl); (case hr => first | (go_simp; done) | (go_simp; rfl)); intro ai hg w37 hbox hb; have ab := zA (hbox); have bj := zA ((by rw [hg]; exact (below_size (zqG HB.out aq.out)) : w.heap.size ≤ ai)); have aB := zA ((by rw [hg]; exact (below_size (zqG HB.out aq.out)) : w.heap.size ≤ ai)); replace HB := zA (below_step (zqG HB.out aq.out) hb); have a1 := zA ((by rw [hg]; exact Nat.ne_of_lt (blk_lt (g := ad) (o := .cells #[.slice ao ae.length ap, .slice am af.length an, .slice ar ah.length au] 28 (0, 0)) (zqB aa.out)) : ad ≠ ai)); have a2 := zA ((by rw [hg]; exact Nat.ne_of_gt (blk_lt (g := ad) (o := .cells #[.slice ao ae.length ap, .slice am af.length an, .slice ar ah.length au] 28 (0, 0)) (zqB aa.out)) : ai ≠ ad)); replace aa := zA (blk_below (g := ad) (o := .cells #[.slice ao ae.length ap, .slice am af.length an, .slice ar ah.length au] 28 (0, 0)) (zqB aa.out) hb); clear hb hbox hg) | ((with_reducible refine gate_dst (N := 4) rfl ?_); refine box_event ?hg (N := 4) ?hd (cs := #[.slice none 0 0, .slice none 0 0, .slice none 0 0]) (t := 28) ?hr ?_; (case hd => rfl); (case hg => rfl); (case hr => first | (go_simp; done) | (go_simp; rfl)); intro ac hg w38 hbox hb; have ag := zA (hbox); have bk := zA ((by rw [hg]; exact (below_size (zqH HB.out aq.out aB.out)) : w.heap.size ≤ ac)); have aC := zA ((by rw [hg]; exact (below_size (zqH HB.out aq.out aB.out)) : w.heap.size ≤ ac)); replace HB := zA (below_step (zqH HB.out aq.out aB.out) hb); have aE := zA ((by rw [hg]; exact Nat.ne_of_lt (blk_lt (g := ad) (o := .cells #[.slice ao ae.length ap, .slice am af.length an, .slice ar ah.length au] 28 (0, 0)) (zqB aa.out)) : ad ≠ ac)); have aH := zA ((by rw [hg]; exact Nat.ne_of_gt (blk_lt (g := ad) (o := .cells #[.slice ao ae.length ap, .slice am af.length an, .slice ar ah.length au] 28 (0, 0)) (zqB aa.out)) : ac ≠ ad)); replace aa := zA (blk_below (g := ad) (o := .cells #[.slice ao ae.length ap, .slice am af.length an, .slice ar ah.length au] 28 (0, 0)) (zqB aa.out) hb); have aF := zA ((by rw [hg]; exact Nat.ne_of_lt (blk_lt (g := ai) (o := .cells #[.slice av ak.length aw, .slice ax aj.length ay, .slice az al.length aA] 28 (0, 0)) (zqB ab.out)) : ai ≠ ac)); have aI := zA ((by rw [hg]; exact Nat.ne_of_gt (blk_lt (g := ai) (o := .cells #[.slice av ak.length aw, .slice ax aj.length ay, .slice az al.length aA] 28 (0, 0)) (zqB ab.out)) : ac ≠ ai)); replace ab := zA (blk_below (g := ai) (o := .cells #[.slice av ak.length aw, .slice ax aj.length ay, .slice az al.length aA] 28 (0, 0)) (zqB ab.out) hb); clear hb hbox hg))
   replace aa := zA (blk_drew aa.out)
   replace ab := zA (blk_drew ab.out)
   replace ag := zA (blk_drew ag.out)
   replace HB := zA (below_drew1 HB.out)
   refine start_ (n := 7) (S := fun w' => w'.cell? ⟨ad, 0, none⟩ = some (.slice ao ae.length ap) ∧ w'.cell? ⟨ad, 1, none⟩ = some (.slice am af.length an) ∧ w'.cell? ⟨ad, 2, none⟩ = some (.slice ar ah.length au) ∧ w'.cell? ⟨ai, 0, none⟩ = some (.slice av ak.length aw) ∧ w'.cell? ⟨ai, 1, none⟩ = some (.slice ax aj.length ay) ∧ w'.cell? ⟨ai, 2, none⟩ = some (.slice az al.length aA)) (ds := []) #[false, false, false, false, false, false, false] (by kernel_rfl) rfl rfl ⟨(blk_cell aa.out 0).trans rfl, (blk_cell aa.out 1).trans rfl, (blk_cell aa.out 2).trans rfl, (blk_cell ab.out 0).trans rfl, (blk_cell ab.out 1).trans rfl, (blk_cell ab.out 2).trans rfl⟩ (fun hHeld => ?_)
   generalize w38.drew = w39 at aa ab ag HB hHeld ⊢
   refine take_ (i := 0) (N := some 8) (v := ?_) (a' := ?_) #[true, false, false, false, false, false, false] rfl rfl (by kernel_rfl) (fun _ _ _ h => h) (Or.inl ⟨by rfl, ?_⟩) hHeld ?_ ?_
   rotate_left
   ·
    rintro w' ⟨s0, s1, s2, s3, s4, s5⟩
    go_simp
    with_reducible rfl
   rotate_left
   ·
    exact putQ
   refine take_ (i := 2) (N := some 10) (v := ?_) (a' := ?_) #[true, false, true, false, false, false, false] rfl rfl (by kernel_rfl) (fun _ _ _ h => h) (Or.inl ⟨by rfl, ?_⟩) hHeld ?_ ?_
   rotate_left
   ·
    rintro w' ⟨s0, s1, s2, s3, s4, s5⟩
    go_simp
    with_reducible rfl
   rotate_left
   ·
    exact putQ
   refine one_ (i := 1) (N := some 9) #[true, true, true, false, false, false, false] rfl rfl (by kernel_rfl) (by decide) (fun K hK => ?_)
   refine goes_ Try.func34 (by kernel_rfl) rfl #[.agg #[.slice ao ae.length ap, .slice am af.length an, .slice ar ah.length au]] (by rfl) rfl rfl zqE ?_
   with_reducible refine (edit_CheckPatch.calls _ _ ae _ _ af _ _ ah t231 _ ?side1 ?side2 ?side3 ?side4 ?side5 ?side6 A3.out).mono ?_
   (case side1 => exact zqK (Kd.C_below aO.out HB.out))
   (case side2 => exact aP.out)
   (case side3 => exact zqK (Kd.C_below aJ.out HB.out))
   (case side4 => exact aK.out)
   (case side5 => exact zqK (Kd.C_below aV.out HB.out))
   (case side6 => exact aW.out)
   rintro e w40 ⟨rfl, hb⟩
   refine ⟨_, rfl, ?_⟩
   replace aa := zA (blk_below (g := ad) (o := .cells #[.slice ao ae.length ap, .slice am af.length an, .slice ar ah.length au] 28 (0, 0)) (zqB aa.out) hb)
   replace ab := zA (blk_below (g := ai) (o := .cells #[.slice av ak.length aw, .slice ax aj.length ay, .slice az al.length aA] 28 (0, 0)) (zqB ab.out) hb)
   replace ag := zA (blk_below (g := ac) (o := .cells #[.slice none 0 0, .slice none 0 0, .slice none 0 0] 28 (0, 0)) (zqB ag.out) hb)
   replace HB := zA (below_step (zqI HB.out aq.out aB.out aC.out) hb)
   refine hK.out _ _ ⟨(blk_cell aa.out 0).trans rfl, (blk_cell aa.out 1).trans rfl, (blk_cell aa.out 2).trans rfl, (blk_cell ab.out 0).trans rfl, (blk_cell ab.out 1).trans rfl, (blk_cell ab.out 2).trans rfl⟩ (fun hHeld => ?_)
   clear hK K
   refine normQ ?_
   refine one_ (i := 3) (N := some 11) #[true, true, true, true, false, false, false] rfl rfl (by kernel_rfl) (by decide) (fun K hK => ?_)
   refine goes_ Try.func34 (by kernel_rfl) rfl #[.agg #[.slice av ak.length aw, .slice ax aj.length ay, .slice az al.length aA]] (by rfl) rfl rfl zqE ?_
   with_reducible refine (edit_CheckPatch.calls _ _ ak _ _ aj _ _ al t232 _ ?side1 ?side2 ?side3 ?side4 ?side5 ?side6 A4.out).mono ?_
   (case side1 => exact zqK (Kd.C_below aQ.out HB.out))
   (case side2 => exact aR.out)
   (case side3 => exact zqK (Kd.C_below aX.out HB.out))
   (case side4 => exact aY.out)
   (case side5 => exact zqK (Kd.C_below aZ.out HB.out))
   (case side6 => exact a0.out)
   rintro e w41 ⟨rfl, hb⟩
   refine ⟨_, rfl, ?_⟩
   replace aa := zA (blk_below (g := ad) (o := .cells #[.slice ao ae.length ap, .slice am af.length an, .slice ar ah.length au] 28 (0, 0)) (zqB aa.out) hb)
   replace ab := zA (blk_below (g := ai) (o := .cells #[.slice av ak.length aw, .slice ax aj.length ay, .slice az al.length aA] 28 (0, 0)) (zqB ab.out) hb)
   replace ag := zA (blk_below (g := ac) (o := .cells #[.slice none 0 0, .slice none 0 0, .slice none 0 0] 28 (0, 0)) (zqB ag.out) hb)
   replace HB := zA (below_step (zqI HB.out aq.out aB.out aC.out) hb)
   refine hK.out _ _ ⟨(blk_cell aa.out 0).trans rfl, (blk_cell aa.out 1).trans rfl, (blk_cell aa.out 2).trans rfl, (blk_cell ab.out 0).trans rfl, (blk_cell ab.out 1).trans rfl, (blk_cell ab.out 2).trans rfl⟩ (fun hHeld => ?_)
   clear hK K
   refine normQ ?_
   refine one_ (i := 4) (N := some 12) #[true, true, true, true, true, false, false] rfl rfl (by kernel_rfl) (by decide) (fun K hK => ?_)
   refine Kd.R_lit_step (Kd.int .i64) _ 29 ?hg (N := 12) ?hd (xs := ([t231, t232] : List Int)) (inner := [.int .i64 t231, .int .i64 t232]) (ok := fun _ => True) (okp := fun _ => True) ?hr ?hp (fun _ hk => hk) trivial (Below.refl _ _) (Nat.le_refl _) (by simp) ?_; (case hd => rfl); (case hg => rfl); (case hr => first | (go_simp; done) | (go_simp; rfl)); (case hp => exact (Reps.one (show Kd.M (Kd.int .i64) _ _ _ t231 [.int .i64 t231] from rfl) (Reps.one (show Kd.M (Kd.int .i64) _ _ _ t232 [.int .i64 t232] from rfl) (Reps.none _ _))))
   intro v234 w42 ho43 hb hg_ hnew_
   clear hg_ hnew_
   (first | rw [← aL.out] at ho43 | (simp only [Int.reduceToNat] at ho43; rw [← aL.out] at ho43))
   have aD := zA (Kd.R_lower ho43 (below_size (zqI HB.out aq.out aB.out aC.out)))
   replace aa := zA (blk_below (g := ad) (o := .cells #[.slice ao ae.length ap, .slice am af.length an, .slice ar ah.length au] 28 (0, 0)) (zqB aa.out) hb)
   replace ab := zA (blk_below (g := ai) (o := .cells #[.slice av ak.length aw, .slice ax aj.length ay, .slice az al.length aA] 28 (0, 0)) (zqB ab.out) hb)
   replace ag := zA (blk_below (g := ac) (o := .cells #[.slice none 0 0, .slice none 0 0, .slice none 0 0] 28 (0, 0)) (zqB ag.out) hb)
   replace HB := zA (below_step (zqI HB.out aq.out aB.out aC.out) hb)
   clear hb ho43
   obtain ⟨bm, bn, eo44⟩ := Kd.R_slice aD.out
   (first | subst eo44 | (injection eo44 with f1_ f2_ f3_; have f4_ := f1_.symm; have f5_ := f3_.symm; clear f1_ f2_ f3_; subst f4_; subst f5_))
   refine hK.out _ _ ⟨(blk_cell aa.out 0).trans rfl, (blk_cell aa.out 1).trans rfl, (blk_cell aa.out 2).trans rfl, (blk_cell ab.out 0).trans rfl, (blk_cell ab.out 1).trans rfl, (blk_cell ab.out 2).trans rfl⟩ (fun hHeld => ?_)
   clear hK K
   refine normQ ?_
   refine one_ (i := 5) (N := some 13) #[true, true, true, true, true, true, false] rfl rfl (by kernel_rfl) (by decide) (fun K hK => ?_)
   refine goes_ Try.func58 (by kernel_rfl) rfl #[.slice bm y233.length bn] (by rfl) rfl rfl zqE ?_
   with_reducible refine (api_Errno.calls k _ _ y233 t236 _ ?side1 ?side2 A5.out).mono ?_
   (case side1 => exact zqK (Kd.R_reads' aD.out).2.2)
   (case side2 => exact (Kd.R_reads' aD.out).2.1)
   rintro e w' ⟨rfl, ⟨nd, rfl⟩⟩
   refine ⟨_, rfl, ?_⟩
   refine hK.out _ _ ⟨(blk_cell aa.out 0).trans rfl, (blk_cell aa.out 1).trans rfl, (blk_cell aa.out 2).trans rfl, (blk_cell ab.out 0).trans rfl, (blk_cell ab.out 1).trans rfl, (blk_cell ab.out 2).trans rfl⟩ (fun hHeld => ?_)
   clear hK K
   refine normQ ?_
   refine pure_ (i := 6) (N := some 6) (v := ?_) (a' := ?_) #[true, true, true, true, true, true, true] rfl rfl (by kernel_rfl) (fun _ _ _ h => h) (Or.inl ⟨by rfl, ?_⟩) ?_ ?_
   rotate_left
   ·
    intro w'
    go_simp
    with_reducible rfl
   rotate_left
   ·
    exact putQ
   refine done_ (by kernel_rfl) ?_
   have hnb45 := a1.out
   have hnc45 := a2.out
   have hnb46 := aE.out
   have hnc46 := aH.out
   have hcz47_0 : w42.cell? ⟨ad, 0, none⟩ = some (.slice ao ae.length ap) := (blk_cell aa.out 0).trans rfl
   have hcz47_1 : w42.cell? ⟨ad, 1, none⟩ = some (.slice am af.length an) := (blk_cell aa.out 1).trans rfl
   have hcz47_2 : w42.cell? ⟨ad, 2, none⟩ = some (.slice ar ah.length au) := (blk_cell aa.out 2).trans rfl
   have hfz47_0 := blk_frozen aa.out 0
   have hfz47_1 := blk_frozen aa.out 1
   have hfz47_2 := blk_frozen aa.out 2
   have hnb48 := aF.out
   have hnc48 := aI.out
   have hcz49_0 : w42.cell? ⟨ai, 0, none⟩ = some (.slice av ak.length aw) := (blk_cell ab.out 0).trans rfl
   have hcz49_1 : w42.cell? ⟨ai, 1, none⟩ = some (.slice ax aj.length ay) := (blk_cell ab.out 1).trans rfl
   have hcz49_2 : w42.cell? ⟨ai, 2, none⟩ = some (.slice az al.length aA) := (blk_cell ab.out 2).trans rfl
   have hfz49_0 := blk_frozen ab.out 0
   have hfz49_1 := blk_frozen ab.out 1
   have hfz49_2 := blk_frozen ab.out 2
   try go_wp2_with (first | ((with_reducible refine gate_callee (f := 59) rfl ?_); refine goesL_ (some 22) rfl rfl Try.func59 (by kernel_rfl) rfl #[.slice am af.length an, .slice av ak.length aw] rfl zqE ?_; (with_reducible refine (edit_Note.calls k _ _ af _ _ ak false _ ?side1 ?side2 ?side3 ?side4 A7.out).mono ?_); (case side1 => repeat (first | exact (Kd.C_below aJ.out (zqI HB.out aq.out aB.out aC.out)) | (with_reducible refine Kd.C_alloc ?_ _) | (with_reducible refine Kd.C_drewN ?_ _) | (with_reducible refine Kd.C_drew ?_))); (case side2 => exact aK.out); (case side3 => repeat (first | exact (Kd.C_below aQ.out (zqI HB.out aq.out aB.out aC.out)) | (with_reducible refine Kd.C_alloc ?_ _) | (with_reducible refine Kd.C_drewN ?_ _) | (with_reducible refine Kd.C_drew ?_))); (case side4 => exact aR.out); rintro e w' ⟨rfl, ⟨nd, rfl⟩⟩; refine ⟨_, rfl, ?_⟩; (try (rw [drewN_self w42]; generalize hq_ : World.drewN w42 _ = w42; replace aD : Aside0 (Kd.R (Kd.int .i64) 29 w42 w.heap.size (fun _ => True) (.slice bm y233.length bn) y233) := ⟨by rw [← hq_]; exact (zqC aD.out)⟩; replace aa : Aside0 (w42.heap[ad]? = some (.cells #[.slice ao ae.length ap, .slice am af.length an, .slice ar ah.length au] 28 (0, 0))) := ⟨by rw [← hq_]; exact (zqB aa.out)⟩; replace ab : Aside0 (w42.heap[ai]? = some (.cells #[.slice av ak.length aw, .slice ax aj.length ay, .slice az al.length aA] 28 (0, 0))) := ⟨by rw [← hq_]; exact (zqB ab.out)⟩; replace ag : Aside0 (w42.heap[ac]? = some (.cells #[.slice none 0 0, .slice none 0 0, .slice none 0 0] 28 (0, 0))) := ⟨by rw [← hq_]; exact (zqB ag.out)⟩; replace HB : Aside0 (Below w.heap.size w w42) := ⟨by rw [← hq_]; exact (zqI HB.out aq.out aB.out aC.out)⟩; clear hq_)); have hcz50_0 : w42.cell? ⟨ac, 0, none⟩ = some (.slice none 0 0) := (blk_cell ag.out 0).trans rfl; have hcz50_1 : w42.cell? ⟨ac, 1, none⟩ = some (.slice none 0 0) := (blk_cell ag.out 1).trans rfl; have hcz50_2 : w42.cell? ⟨ac, 2, none⟩ = some (.slice none 0 0) := (blk_cell ag.out 2).trans rfl; have hfz50_0 := blk_frozen ag.out 0; have hfz50_1 := blk_frozen ag.out 1; have hfz50_2 := blk_frozen ag.out 2))
   refine bodyPost_ret (results_ct rfl _ _ ac 28 #[.slice none 0 0, .slice none 0 0, .slice none 0 0] (0, 0) _ rfl (by (with_reducible repeat (first | refine blk_drewN ?_ _ | refine blk_drew ?_ | refine blk_alloc ?_ _)); refine blk_put (cs := #[.slice none 0 0, .slice none 0 0, .slice none 0 0]) ?_ 2 _ rfl; (with_reducible repeat (first | refine blk_drewN ?_ _ | refine blk_drew ?_ | refine blk_alloc ?_ _)); refine blk_put (cs := #[.slice none 0 0, .slice none 0 0, .slice none 0 0]) ?_ 1 _ rfl; (with_reducible repeat (first | refine blk_drewN ?_ _ | refine blk_drew ?_ | refine blk_alloc ?_ _)); refine blk_put (cs := #[.slice none 0 0, .slice none 0 0, .slice none 0 0]) ?_ 0 _ rfl; (with_reducible repeat (first | refine blk_drewN ?_ _ | refine blk_drew ?_ | refine blk_alloc ?_ _)); exact ag.out) Try.underlying28 rfl (by kernel_rfl)) rfl ?_
   exact ⟨_, _, _, zqR, by first | exact Kd.R_nil _ _ _ _ _ | exact Kd.N_nil _ _ _ _ _ | exact Kd.V_nil _ _ _ _ _ | exact Kd.Q_nil _ _ _ _ _ | exact Kd.S_nil _ _ _ _ _, by first | exact Kd.R_nil _ _ _ _ _ | exact Kd.N_nil _ _ _ _ _ | exact Kd.V_nil _ _ _ _ _ | exact Kd.Q_nil _ _ _ _ _ | exact Kd.S_nil _ _ _ _ _, by first | exact Kd.R_nil _ _ _ _ _ | exact Kd.N_nil _ _ _ _ _ | exact Kd.V_nil _ _ _ _ _ | exact Kd.Q_nil _ _ _ _ _ | exact Kd.S_nil _ _ _ _ _, zqI HB.out aq.out aB.out aC.out⟩
 ·
  rw [if_neg c6] at H
  have c6b0 : (t236 == 0) = false := beq_eq_false_iff_ne.mpr c6
  have c6b1 : (t236 != 0) = true := bne_iff_ne.mpr c6
  simp only [Option.some.injEq, Prod.mk.injEq] at H
  obtain ⟨rfl, rfl, rfl, rfl⟩ := H
  go_enter Try.func24, Try.ntmps24
  try go_wp2_with (first | ((with_reducible refine gate_dst (N := 2) rfl ?_); refine box_event ?hg (N := 2) ?hd (cs := #[.slice ao ae.length ap, .slice am af.length an, .slice ar ah.length au]) (t := 28) ?hr ?_; (case hd => rfl); (case hg => rfl); (case hr => first | (go_simp; done) | (go_simp; rfl)); intro ad hg w51 hbox hb; have aa := zA (hbox); have bi := zA ((by rw [hg]; exact (below_size (zqA HB.out)) : w.heap.size ≤ ad)); have aq := zA ((by rw [hg]; exact (below_size (zqA HB.out)) : w.heap.size ≤ ad)); replace HB := zA (below_step (zqA HB.out) hb); clear hb hbox hg) | ((with_reducible refine gate_dst (N := 3) rfl ?_); refine box_event ?hg (N := 3) ?hd (cs := #[.slice av ak.length aw, .slice ax aj.length ay, .slice az al.length aA]) (t := 28) ?hr ?_; (case hd => rfl); (case hg => rfl); (case hr => first | (go_simp; done) | (go_simp; rfl)); intro ai hg w52 hbox hb; have ab := zA (hbox); have bj := zA ((by rw [hg]; exact (below_size (zqG HB.out aq.out)) : w.heap.size ≤ ai)); have aB := zA ((by rw [hg]; exact (below_size (zqG HB.out aq.out)) : w.heap.size ≤ ai)); replace HB := zA (below_step (zqG HB.out aq.out) hb); have a1 := zA ((by rw [hg]; exact Nat.ne_of_lt (blk_lt (g := ad) (o := .cells #[.slice ao ae.length ap, .slice am af.length an, .slice ar ah.length au] 28 (0, 0)) (zqB aa.out)) : ad ≠ ai)); have a2 := zA ((by rw [hg]; exact Nat.ne_of_gt (blk_lt (g := ad) (o := .cells #[.slice ao ae.length ap, .slice am af.length an, .slice ar ah.length au] 28 (0, 0)) (zqB aa.out)) : ai ≠ ad)); replace aa := zA (blk_below (g := ad) (o := .cells #[.slice ao ae.length ap, .slice am af.length an, .slice ar ah.length au] 28 (0, 0)) (zqB aa.out) hb); clear hb hbox hg) | ((with_reducible refine gate_dst (N := 4) rfl ?_); refine box_event ?hg (N := 4) ?hd (cs := #[.slice none 0 0, .slice none 0 0, .slice none 0 0]) (t := 28) ?hr ?_; (case hd => rfl); (case hg => rfl); (case hr => first | (go_simp; done) | (go_simp; rfl)); intro ac hg w53 hbox hb; have ag := zA (hbox); have bk := zA ((by rw [hg]; exact (below_size (zqH HB.out aq.out aB.out)) : w.heap.size ≤ ac)); have aC := zA ((by rw [hg]; exact (below_size (zqH HB.out aq.out aB.out)) : w.heap.size ≤ ac)); replace HB := zA (below_step (zqH HB.out aq.out aB.out) hb); have aE := zA ((by rw [hg]; exact Nat.ne_of_lt (blk_lt (g := ad) (o := .cells #[.slice ao ae.length ap, .slice am af.length an, .slice ar ah.length au] 28 (0, 0)) (zqB aa.out)) : ad ≠ ac)); have aH := zA ((by rw [hg]; exact Nat.ne_of_gt (blk_lt (g := ad) (o := .cells #[.slice ao ae.length ap, .slice am af.length an, .slice ar ah.length au] 28 (0, 0)) (zqB aa.out)) : ac ≠ ad)); replace aa := zA (blk_below (g := ad) (o := .cells #[.slice ao ae.length ap, .slice am af.length an, .slice ar ah.length au] 28 (0, 0)) (zqB aa.out) hb); have aF := zA ((by rw [hg]; exact Nat.ne_of_lt (blk_lt (g := ai) (o := .cells #[.slice av ak.length aw, .slice ax aj.length ay, .slice az al.length aA] 28 (0, 0)) (zqB ab.out)) : ai ≠ ac)); have aI := zA ((by rw [hg]; exact Nat.ne_of_gt (blk_lt (g := ai) (o := .cells #[.slice av ak.length aw, .slice ax aj.length ay, .slice az al.length aA] 28 (0, 0)) (zqB ab.out)) : ac ≠ ai)); replace ab := zA (blk_below (g := ai) (o := .cells #[.slice av ak.length aw, .slice ax aj.length ay, .slice az al.length aA] 28 (0, 0)) (zqB ab.out) hb); clear hb hbox hg))
  replace aa := zA (blk_drew aa.out)
  replace ab := zA (blk_drew ab.out)
  replace ag := zA (blk_drew ag.out)
  replace HB := zA (below_drew1 HB.out)
  refine start_ (n := 7) (S := fun w' => w'.cell? ⟨ad, 0, none⟩ = some (.slice ao ae.length ap) ∧ w'.cell? ⟨ad, 1, none⟩ = some (.slice am af.length an) ∧ w'.cell? ⟨ad, 2, none⟩ = some (.slice ar ah.length au) ∧ w'.cell? ⟨ai, 0, none⟩ = some (.slice av ak.length aw) ∧ w'.cell? ⟨ai, 1, none⟩ = some (.slice ax aj.length ay) ∧ w'.cell? ⟨ai, 2, none⟩ = some (.slice az al.length aA)) (ds := []) #[false, false, false, false, false, false, false] (by kernel_rfl) rfl rfl ⟨(blk_cell aa.out 0).trans rfl, (blk_cell aa.out 1).trans rfl, (blk_cell aa.out 2).trans rfl, (blk_cell ab.out 0).trans rfl, (blk_cell ab.out 1).trans rfl, (blk_cell ab.out 2).trans rfl⟩ (fun hHeld => ?_)
  generalize w53.drew = w54 at aa ab ag HB hHeld ⊢
  refine take_ (i := 0) (N := some 8) (v := ?_) (a' := ?_) #[true, false, false, false, false, false, false] rfl rfl (by kernel_rfl) (fun _ _ _ h => h) (Or.inl ⟨by rfl, ?_⟩) hHeld ?_ ?_
  rotate_left
  ·
   rintro w' ⟨s0, s1, s2, s3, s4, s5⟩
   go_simp
   with_reducible rfl
  rotate_left
  ·
   exact putQ
  refine take_ (i := 2) (N := some 10) (v := ?_) (a' := ?_) #[true, false, true, false, false, false, false] rfl rfl (by kernel_rfl) (fun _ _ _ h => h) (Or.inl ⟨by rfl, ?_⟩) hHeld ?_ ?_
  rotate_left
  ·
   rintro w' ⟨s0, s1, s2, s3, s4, s5⟩
   go_simp
   with_reducible rfl
  rotate_left
  ·
   exact putQ
  refine one_ (i := 1) (N := some 9) #[true, true, true, false, false, false, false] rfl rfl (by kernel_rfl) (by decide) (fun K hK => ?_)
  refine goes_ Try.func34 (by kernel_rfl) rfl #[.agg #[.slice ao ae.length ap, .slice am af.length an, .slice ar ah.length au]] (by rfl) rfl rfl zqE ?_
  with_reducible refine (edit_CheckPatch.calls _ _ ae _ _ af _ _ ah t231 _ ?side1 ?side2 ?side3 ?side4 ?side5 ?side6 A3.out).mono ?_
  (case side1 => exact zqK (Kd.C_below aO.out HB.out))
  (case side2 => exact aP.out)
  (case side3 => exact zqK (Kd.C_below aJ.out HB.out))
  (case side4 => exact aK.out)
  (case side5 => exact zqK (Kd.C_below aV.out HB.out))
  (case side6 => exact aW.out)
  rintro e w55 ⟨rfl, hb⟩
  refine ⟨_, rfl, ?_⟩
  replace aa := zA (blk_below (g := ad) (o := .cells #[.slice ao ae.length ap, .slice am af.length an, .slice ar ah.length au] 28 (0, 0)) (zqB aa.out) hb)
  replace ab := zA (blk_below (g := ai) (o := .cells #[.slice av ak.length aw, .slice ax aj.length ay, .slice az al.length aA] 28 (0, 0)) (zqB ab.out) hb)
  replace ag := zA (blk_below (g := ac) (o := .cells #[.slice none 0 0, .slice none 0 0, .slice none 0 0] 28 (0, 0)) (zqB ag.out) hb)
  replace HB := zA (below_step (zqI HB.out aq.out aB.out aC.out) hb)
  refine hK.out _ _ ⟨(blk_cell aa.out 0).trans rfl, (blk_cell aa.out 1).trans rfl, (blk_cell aa.out 2).trans rfl, (blk_cell ab.out 0).trans rfl, (blk_cell ab.out 1).trans rfl, (blk_cell ab.out 2).trans rfl⟩ (fun hHeld => ?_)
  clear hK K
  refine normQ ?_
  refine one_ (i := 3) (N := some 11) #[true, true, true, true, false, false, false] rfl rfl (by kernel_rfl) (by decide) (fun K hK => ?_)
  refine goes_ Try.func34 (by kernel_rfl) rfl #[.agg #[.slice av ak.length aw, .slice ax aj.length ay, .slice az al.length aA]] (by rfl) rfl rfl zqE ?_
  with_reducible refine (edit_CheckPatch.calls _ _ ak _ _ aj _ _ al t232 _ ?side1 ?side2 ?side3 ?side4 ?side5 ?side6 A4.out).mono ?_
  (case side1 => exact zqK (Kd.C_below aQ.out HB.out))
  (case side2 => exact aR.out)
  (case side3 => exact zqK (Kd.C_below aX.out HB.out))
  (case side4 => exact aY.out)
  (case side5 => exact zqK (Kd.C_below aZ.out HB.out))
  (case side6 => exact a0.out)
  rintro e w56 ⟨rfl, hb⟩
  refine ⟨_, rfl, ?_⟩
  replace aa := zA (blk_below (g := ad) (o := .cells #[.slice ao ae.length ap, .slice am af.length an, .slice ar ah.length au] 28 (0, 0)) (zqB aa.out) hb)
  replace ab := zA (blk_below (g := ai) (o := .cells #[.slice av ak.length aw, .slice ax aj.length ay, .slice az al.length aA] 28 (0, 0)) (zqB ab.out) hb)
  replace ag := zA (blk_below (g := ac) (o := .cells #[.slice none 0 0, .slice none 0 0, .slice none 0 0] 28 (0, 0)) (zqB ag.out) hb)
  replace HB := zA (below_step (zqI HB.out aq.out aB.out aC.out) hb)
  refine hK.out _ _ ⟨(blk_cell aa.out 0).trans rfl, (blk_cell aa.out 1).trans rfl, (blk_cell aa.out 2).trans rfl, (blk_cell ab.out 0).trans rfl, (blk_cell ab.out 1).trans rfl, (blk_cell ab.out 2).trans rfl⟩ (fun hHeld => ?_)
  clear hK K
  refine normQ ?_
  refine one_ (i := 4) (N := some 12) #[true, true, true, true, true, false, false] rfl rfl (by kernel_rfl) (by decide) (fun K hK => ?_)
  refine Kd.R_lit_step (Kd.int .i64) _ 29 ?hg (N := 12) ?hd (xs := ([t231, t232] : List Int)) (inner := [.int .i64 t231, .int .i64 t232]) (ok := fun _ => True) (okp := fun _ => True) ?hr ?hp (fun _ hk => hk) trivial (Below.refl _ _) (Nat.le_refl _) (by simp) ?_; (case hd => rfl); (case hg => rfl); (case hr => first | (go_simp; done) | (go_simp; rfl)); (case hp => exact (Reps.one (show Kd.M (Kd.int .i64) _ _ _ t231 [.int .i64 t231] from rfl) (Reps.one (show Kd.M (Kd.int .i64) _ _ _ t232 [.int .i64 t232] from rfl) (Reps.none _ _))))
  intro v234 w57 ho58 hb hg_ hnew_
  clear hg_ hnew_
  (first | rw [← aL.out] at ho58 | (simp only [Int.reduceToNat] at ho58; rw [← aL.out] at ho58))
  have aD := zA (Kd.R_lower ho58 (below_size (zqI HB.out aq.out aB.out aC.out)))
  replace aa := zA (blk_below (g := ad) (o := .cells #[.slice ao ae.length ap, .slice am af.length an, .slice ar ah.length au] 28 (0, 0)) (zqB aa.out) hb)
  replace ab := zA (blk_below (g := ai) (o := .cells #[.slice av ak.length aw, .slice ax aj.length ay, .slice az al.length aA] 28 (0, 0)) (zqB ab.out) hb)
  replace ag := zA (blk_below (g := ac) (o := .cells #[.slice none 0 0, .slice none 0 0, .slice none 0 0] 28 (0, 0)) (zqB ag.out) hb)
  replace HB := zA (below_step (zqI HB.out aq.out aB.out aC.out) hb)
  clear hb ho58
  obtain ⟨Ao59, co59, eo59⟩ := Kd.R_slice aD.out
  (first | subst eo59 | (injection eo59 with f1_ f2_ f3_; have f4_ := f1_.symm; have f5_ := f3_.symm; clear f1_ f2_ f3_; subst f4_; subst f5_))
  refine hK.out _ _ ⟨(blk_cell aa.out 0).trans rfl, (blk_cell aa.out 1).trans rfl, (blk_cell aa.out 2).trans rfl, (blk_cell ab.out 0).trans rfl, (blk_cell ab.out 1).trans rfl, (blk_cell ab.out 2).trans rfl⟩ (fun hHeld => ?_)
  clear hK K
  refine normQ ?_
  refine one_ (i := 5) (N := some 13) #[true, true, true, true, true, true, false] rfl rfl (by kernel_rfl) (by decide) (fun K hK => ?_)
  refine goes_ Try.func58 (by kernel_rfl) rfl #[.slice Ao59 y233.length co59] (by rfl) rfl rfl zqE ?_
  with_reducible refine (api_Errno.calls k _ _ y233 t236 _ ?side1 ?side2 A5.out).mono ?_
  (case side1 => exact zqK (Kd.R_reads' aD.out).2.2)
  (case side2 => exact (Kd.R_reads' aD.out).2.1)
  rintro e w' ⟨rfl, ⟨nd, rfl⟩⟩
  refine ⟨_, rfl, ?_⟩
  refine hK.out _ _ ⟨(blk_cell aa.out 0).trans rfl, (blk_cell aa.out 1).trans rfl, (blk_cell aa.out 2).trans rfl, (blk_cell ab.out 0).trans rfl, (blk_cell ab.out 1).trans rfl, (blk_cell ab.out 2).trans rfl⟩ (fun hHeld => ?_)
  clear hK K
  refine normQ ?_
  refine pure_ (i := 6) (N := some 6) (v := ?_) (a' := ?_) #[true, true, true, true, true, true, true] rfl rfl (by kernel_rfl) (fun _ _ _ h => h) (Or.inl ⟨by rfl, ?_⟩) ?_ ?_
  rotate_left
  ·
   intro w'
   go_simp
   with_reducible rfl
  rotate_left
  ·
   exact putQ
  refine done_ (by kernel_rfl) ?_
  have hnb60 := aH.out
  have hnc60 := aE.out
  have hnb61 := aI.out
  have hnc61 := aF.out
  have hcz62_0 : w57.cell? ⟨ac, 0, none⟩ = some (.slice none 0 0) := (blk_cell ag.out 0).trans rfl
  have hcz62_1 : w57.cell? ⟨ac, 1, none⟩ = some (.slice none 0 0) := (blk_cell ag.out 1).trans rfl
  have hcz62_2 : w57.cell? ⟨ac, 2, none⟩ = some (.slice none 0 0) := (blk_cell ag.out 2).trans rfl
  have hfz62_0 := blk_frozen ag.out 0
  have hfz62_1 := blk_frozen ag.out 1
  have hfz62_2 := blk_frozen ag.out 2
  try go_wp2
  refine bodyPost_ret (results_ct rfl _ _ ac 28 #[.slice none 0 0, .slice none 0 0, .slice none 0 0] (0, 0) _ rfl (by (with_reducible repeat (first | refine blk_drewN ?_ _ | refine blk_drew ?_ | refine blk_alloc ?_ _)); refine blk_put (cs := #[.slice none 0 0, .slice none 0 0, .slice none 0 0]) ?_ 2 _ rfl; (with_reducible repeat (first | refine blk_drewN ?_ _ | refine blk_drew ?_ | refine blk_alloc ?_ _)); refine blk_put (cs := #[.slice none 0 0, .slice none 0 0, .slice none 0 0]) ?_ 1 _ rfl; (with_reducible repeat (first | refine blk_drewN ?_ _ | refine blk_drew ?_ | refine blk_alloc ?_ _)); refine blk_put (cs := #[.slice none 0 0, .slice none 0 0, .slice none 0 0]) ?_ 0 _ rfl; (with_reducible repeat (first | refine blk_drewN ?_ _ | refine blk_drew ?_ | refine blk_alloc ?_ _)); exact ag.out) Try.underlying28 rfl (by kernel_rfl)) rfl ?_
  exact ⟨_, _, _, zqR, by first | exact Kd.R_nil _ _ _ _ _ | exact Kd.N_nil _ _ _ _ _ | exact Kd.V_nil _ _ _ _ _ | exact Kd.Q_nil _ _ _ _ _ | exact Kd.S_nil _ _ _ _ _, by first | exact Kd.R_nil _ _ _ _ _ | exact Kd.N_nil _ _ _ _ _ | exact Kd.V_nil _ _ _ _ _ | exact Kd.Q_nil _ _ _ _ _ | exact Kd.S_nil _ _ _ _ _, by first | exact Kd.R_nil _ _ _ _ _ | exact Kd.N_nil _ _ _ _ _ | exact Kd.V_nil _ _ _ _ _ | exact Kd.Q_nil _ _ _ _ _ | exact Kd.S_nil _ _ _ _ _, zqI HB.out aq.out aB.out aC.out⟩
end Go.Proofs.Ytehpbmdphfbooaa.P
end
