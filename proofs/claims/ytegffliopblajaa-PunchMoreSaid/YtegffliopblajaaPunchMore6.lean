/- Words and contracts for a claim. -/
import Derived.Test.YtegffliopblajaaPunchMore5

section
open List (setIfInBounds_toArray set_cons_zero set_cons_succ)
section
namespace Go.Proofs.Ytegffliopblajaa.P
open Go.RowKit Go.Proofs.YtegffliopblajaaW.PrintWords Go.Proofs.YtegffliopblajaaW.PrintLast Go.Proofs.YtegffliopblajaaW.PrintMore
attribute [local go_sem] max2_int min2_int max_two min_two max_three min_three max_four min_four
set_option linter.unusedVariables false
set_option linter.unusedSimpArgs false
set_option maxHeartbeats 8000000 in
set_option maxRecDepth 100000 in
theorem pianolalaw03_PunchMore.calls (k : Nat) (a0_0 : Int) (A0_1 : Option Addr) (c0_1 : Nat) (l0_1 : List (S82)) (a1_0 : Int) (a1_1 : Int) (a2 : Int) (a3 : Int) (a4 : Int) (r : Bool) (hrt : r = true) (w : World) (hr0_1 : Kd.C k82 w A0_1 l0_1.length l0_1) (hc0_1 : l0_1.length ≤ c0_1) (h : pianolalaw03_PunchMore.f k a0_0 l0_1 a1_0 a1_1 a2 a3 a4 = some r) :
  Calls Try.prog 10 #[.agg #[.int .u8 a0_0, .slice A0_1 l0_1.length c0_1], .agg #[.int .u8 a1_0, .int .u8 a1_1], .int .u8 a2, .int .u8 a3, .int .u8 a4] w fun e w' => e = .returned (.bool r) ∧ Below w.heap.size w w' := by
 have HRT := zA hrt
 clear hrt
 have hu74 := Try.underlying74
 have hu82 := Try.underlying82
 have hu24 := Try.underlying24
 have hu47 := Try.underlying47
 have HR0_1 := zA hr0_1
 have HC0_1 := zA hc0_1
 clear hr0_1 hc0_1
 have HB := zA (Below.refl w.heap.size w)
 have H : ((pianolalaw03_Lane_made.f k a0_0 l0_1).bind fun bt113 => ((punch_Passes.f bt113.1 bt113.2).bind fun bt118 => ((some (([] : List (S47)) : List (S47))).bind fun y127 => (if y127.length + bt113.2.length < 8796093022208 then ((some (y127 ++ bt113.2 : List (S47))).bind fun y130 => ((some (([(⟨Int.tmod (wrap64 (a1_0)) 40, wrap64 ((wrap64 ((Int.tmod (wrap64 (a1_0)) 40) + 1)) + (Int.tmod (wrap64 (a1_1)) 12))⟩ : S47)] : List (S47)) : List (S47))).bind fun y133 => (if y130.length + y133.length < 8796093022208 then (pianolalaw03_PunchMore.l0 k a3 a4 bt118.1 bt118.2.1 bt118.2.2 bt113.2 (bt113.2.length : Int) 0 bt113.1 bt113.2 bt113.1 (y130 ++ y133) (wrap64 (bt113.1 + (wrap64 (a2)))) bt113.2 bt113.1 ([] : List (S47)) bt113.1 ([] : List (S47))) else (none)))) else (none))))) = some r := h
 clear h
 replace H := Option.bind_eq_some_iff.mp H
 obtain ⟨⟨t113, t114⟩, A60, H⟩ := H
 replace H : ((punch_Passes.f t113 t114).bind fun bt118 => ((some (([] : List (S47)) : List (S47))).bind fun y127 => (if y127.length + t114.length < 8796093022208 then ((some (y127 ++ t114 : List (S47))).bind fun y130 => ((some (([(⟨Int.tmod (wrap64 (a1_0)) 40, wrap64 ((wrap64 ((Int.tmod (wrap64 (a1_0)) 40) + 1)) + (Int.tmod (wrap64 (a1_1)) 12))⟩ : S47)] : List (S47)) : List (S47))).bind fun y133 => (if y130.length + y133.length < 8796093022208 then (pianolalaw03_PunchMore.l0 k a3 a4 bt118.1 bt118.2.1 bt118.2.2 t114 (t114.length : Int) 0 t113 t114 t113 (y130 ++ y133) (wrap64 (t113 + (wrap64 (a2)))) t114 t113 ([] : List (S47)) t113 ([] : List (S47))) else (none)))) else (none)))) = some r := H
 have A6 := zA A60
 clear A60
 replace H := Option.bind_eq_some_iff.mp H
 obtain ⟨⟨t118, t121, t122⟩, A70, H⟩ := H
 replace H : ((some (([] : List (S47)) : List (S47))).bind fun y127 => (if y127.length + t114.length < 8796093022208 then ((some (y127 ++ t114 : List (S47))).bind fun y130 => ((some (([(⟨Int.tmod (wrap64 (a1_0)) 40, wrap64 ((wrap64 ((Int.tmod (wrap64 (a1_0)) 40) + 1)) + (Int.tmod (wrap64 (a1_1)) 12))⟩ : S47)] : List (S47)) : List (S47))).bind fun y133 => (if y130.length + y133.length < 8796093022208 then (pianolalaw03_PunchMore.l0 k a3 a4 t118 t121 t122 t114 (t114.length : Int) 0 t113 t114 t113 (y130 ++ y133) (wrap64 (t113 + (wrap64 (a2)))) t114 t113 ([] : List (S47)) t113 ([] : List (S47))) else (none)))) else (none))) = some r := H
 have A7 := zA A70
 clear A70
 obtain ⟨y127, hy127⟩ : ∃ y_ : List (S47), y_ = (([] : List (S47))) := ⟨_, rfl⟩
 replace H : (if y127.length + t114.length < 8796093022208 then ((some (y127 ++ t114 : List (S47))).bind fun y130 => ((some (([(⟨Int.tmod (wrap64 (a1_0)) 40, wrap64 ((wrap64 ((Int.tmod (wrap64 (a1_0)) 40) + 1)) + (Int.tmod (wrap64 (a1_1)) 12))⟩ : S47)] : List (S47)) : List (S47))).bind fun y133 => (if y130.length + y133.length < 8796093022208 then (pianolalaw03_PunchMore.l0 k a3 a4 t118 t121 t122 t114 (t114.length : Int) 0 t113 t114 t113 (y130 ++ y133) (wrap64 (t113 + (wrap64 (a2)))) t114 t113 ([] : List (S47)) t113 ([] : List (S47))) else (none)))) else (none)) = some r := zqF hy127 H
 have Ny127 := zA hy127
 clear hy127
 by_cases c8 : y127.length + t114.length < 8796093022208
 ·
  rw [if_pos c8] at H
  have LMc8 := zA c8
  clear c8
  obtain ⟨y130, hy130⟩ : ∃ y_ : List (S47), y_ = (y127 ++ t114) := ⟨_, rfl⟩
  replace H : ((some (([(⟨Int.tmod (wrap64 (a1_0)) 40, wrap64 ((wrap64 ((Int.tmod (wrap64 (a1_0)) 40) + 1)) + (Int.tmod (wrap64 (a1_1)) 12))⟩ : S47)] : List (S47)) : List (S47))).bind fun y133 => (if y130.length + y133.length < 8796093022208 then (pianolalaw03_PunchMore.l0 k a3 a4 t118 t121 t122 t114 (t114.length : Int) 0 t113 t114 t113 (y130 ++ y133) (wrap64 (t113 + (wrap64 (a2)))) t114 t113 ([] : List (S47)) t113 ([] : List (S47))) else (none))) = some r := zqF hy130 H
  have Ny130 := zA hy130
  clear hy130
  obtain ⟨y133, hy133⟩ : ∃ y_ : List (S47), y_ = (([(⟨Int.tmod (wrap64 (a1_0)) 40, wrap64 ((wrap64 ((Int.tmod (wrap64 (a1_0)) 40) + 1)) + (Int.tmod (wrap64 (a1_1)) 12))⟩ : S47)] : List (S47))) := ⟨_, rfl⟩
  replace H : (if y130.length + y133.length < 8796093022208 then (pianolalaw03_PunchMore.l0 k a3 a4 t118 t121 t122 t114 (t114.length : Int) 0 t113 t114 t113 (y130 ++ y133) (wrap64 (t113 + (wrap64 (a2)))) t114 t113 ([] : List (S47)) t113 ([] : List (S47))) else (none)) = some r := zqF hy133 H
  have Ny133 := zA hy133
  clear hy133
  by_cases c9 : y130.length + y133.length < 8796093022208
  ·
   rw [if_pos c9] at H
   have LMc9 := zA c9
   clear c9
   obtain ⟨y136, hy136⟩ : ∃ y_ : List (S47), y_ = (y130 ++ y133) := ⟨_, rfl⟩
   replace H : (pianolalaw03_PunchMore.l0 k a3 a4 t118 t121 t122 t114 (t114.length : Int) 0 t113 t114 t113 y136 (wrap64 (t113 + (wrap64 (a2)))) t114 t113 ([] : List (S47)) t113 ([] : List (S47))) = some r := zqF hy136 H
   have Ny136 := zA hy136
   clear hy136
   have H' := zA H
   clear H
   go_enter Try.func10, Try.ntmps10
   try go_wp2_with (first | ((with_reducible refine gate_dst (N := 5) rfl ?_); refine box_event ?hg (N := 5) ?hd (cs := #[.int .u8 a0_0, .slice A0_1 l0_1.length c0_1]) (t := 74) ?hr ?_; (case hd => rfl); (case hg => rfl); (case hr => first | (go_simp; done) | (go_simp; rfl)); intro gb111 hg w10 hbox hb; have n0_ := zA (below_step (zqA HB.out) hb); have n1_ := zA (hbox); have n2_ := zA ((by rw [hg]; exact (below_size (zqA HB.out)) : w.heap.size ≤ gb111)); have n3_ := zA ((by rw [hg]; exact (below_size (zqA HB.out)) : w.heap.size ≤ gb111)); clear HB; have HB := n0_; have BK111 := n1_; have GW111 := n2_; have GE111 := n3_; clear n0_ n1_ n2_ n3_; clear hb hbox hg) | ((with_reducible refine gate_dst (N := 6) rfl ?_); refine box_event ?hg (N := 6) ?hd (cs := #[.int .u8 a1_0, .int .u8 a1_1]) (t := 82) ?hr ?_; (case hd => rfl); (case hg => rfl); (case hr => first | (go_simp; done) | (go_simp; rfl)); intro gb112 hg w11 hbox hb; have n0_ := zA (blk_below (g := gb111) (o := .cells #[.int .u8 a0_0, .slice A0_1 l0_1.length c0_1] 74 (0, 0)) (zqB BK111.out) hb); have n1_ := zA (below_step (zqG HB.out GE111.out) hb); have n2_ := zA (hbox); have n3_ := zA ((by rw [hg]; exact (below_size (zqG HB.out GE111.out)) : w.heap.size ≤ gb112)); have n4_ := zA ((by rw [hg]; exact (below_size (zqG HB.out GE111.out)) : w.heap.size ≤ gb112)); have n5_ := zA ((by rw [hg]; exact Nat.ne_of_lt (blk_lt (g := gb111) (o := .cells #[.int .u8 a0_0, .slice A0_1 l0_1.length c0_1] 74 (0, 0)) (zqB BK111.out)) : gb111 ≠ gb112)); have n6_ := zA ((by rw [hg]; exact Nat.ne_of_gt (blk_lt (g := gb111) (o := .cells #[.int .u8 a0_0, .slice A0_1 l0_1.length c0_1] 74 (0, 0)) (zqB BK111.out)) : gb112 ≠ gb111)); clear BK111; clear HB; have BK111 := n0_; have HB := n1_; have BK112 := n2_; have GW112 := n3_; have GE112 := n4_; have NB111_112 := n5_; have NB112_111 := n6_; clear n0_ n1_ n2_ n3_ n4_ n5_ n6_; clear hb hbox hg; have hnb12 := NB111_112.out; have hnc12 := NB112_111.out; have hcz13_0 : w11.cell? ⟨gb111, 0, none⟩ = some (.int .u8 a0_0) := (blk_cell BK111.out 0).trans rfl; have hcz13_1 : w11.cell? ⟨gb111, 1, none⟩ = some (.slice A0_1 l0_1.length c0_1) := (blk_cell BK111.out 1).trans rfl; have hfz13_0 := blk_frozen BK111.out 0; have hfz13_1 := blk_frozen BK111.out 1) | ((with_reducible refine gate_callee (f := 38) rfl ?_); refine goesL_ (some 35) rfl rfl Try.func38 (by kernel_rfl) rfl #[.agg #[.int .u8 a0_0, .slice A0_1 l0_1.length c0_1]] rfl zqE ?_; (with_reducible refine (pianolalaw03_Lane_made.calls k a0_0 _ _ l0_1 t113 t114 _ ?side1 ?side2 A6.out).mono ?_); (case side1 => exact zqK (Kd.C_below HR0_1.out HB.out)); (case side2 => exact HC0_1.out); rintro e w14 ⟨v115, rfl, ho0, hb⟩; refine ⟨_, rfl, ?_⟩; have n0_ := zA (Kd.R_lower ho0 (below_size (zqH HB.out GE111.out GE112.out))); have n1_ := zA (blk_below (g := gb111) (o := .cells #[.int .u8 a0_0, .slice A0_1 l0_1.length c0_1] 74 (0, 0)) (zqB BK111.out) hb); have n2_ := zA (blk_below (g := gb112) (o := .cells #[.int .u8 a1_0, .int .u8 a1_1] 82 (0, 0)) (zqB BK112.out) hb); have n3_ := zA (below_step (zqH HB.out GE111.out GE112.out) hb); clear BK111; clear BK112; clear HB; have HO116 := n0_; have BK111 := n1_; have BK112 := n2_; have HB := n3_; clear n0_ n1_ n2_ n3_; (try clear hb); (try clear hb2); (try clear hk); (try clear hi); (try clear ho0)) | ((with_reducible refine gate_dst (N := 11) rfl ?_); refine box_event ?hg (N := 11) ?hd (cs := #[.int .i64 0, .slice none 0 0]) (t := 24) ?hr ?_; (case hd => rfl); (case hg => rfl); (case hr => first | (go_simp; done) | (go_simp; rfl)); intro gb117 hg w15 hbox hb; have n0_ := zA (Kd.R_below (zqC HO116.out) hb); have n1_ := zA (blk_below (g := gb111) (o := .cells #[.int .u8 a0_0, .slice A0_1 l0_1.length c0_1] 74 (0, 0)) (zqB BK111.out) hb); have n2_ := zA (blk_below (g := gb112) (o := .cells #[.int .u8 a1_0, .int .u8 a1_1] 82 (0, 0)) (zqB BK112.out) hb); have n3_ := zA (below_step (zqH HB.out GE111.out GE112.out) hb); have n4_ := zA (hbox); have n5_ := zA ((by rw [hg]; exact (below_size (zqH HB.out GE111.out GE112.out)) : w.heap.size ≤ gb117)); have n6_ := zA ((by rw [hg]; exact (below_size (zqH HB.out GE111.out GE112.out)) : w.heap.size ≤ gb117)); have n7_ := zA ((by rw [hg]; exact Nat.ne_of_lt (blk_lt (g := gb111) (o := .cells #[.int .u8 a0_0, .slice A0_1 l0_1.length c0_1] 74 (0, 0)) (zqB BK111.out)) : gb111 ≠ gb117)); have n8_ := zA ((by rw [hg]; exact Nat.ne_of_gt (blk_lt (g := gb111) (o := .cells #[.int .u8 a0_0, .slice A0_1 l0_1.length c0_1] 74 (0, 0)) (zqB BK111.out)) : gb117 ≠ gb111)); have n9_ := zA ((by rw [hg]; exact Nat.ne_of_lt (blk_lt (g := gb112) (o := .cells #[.int .u8 a1_0, .int .u8 a1_1] 82 (0, 0)) (zqB BK112.out)) : gb112 ≠ gb117)); have n10_ := zA ((by rw [hg]; exact Nat.ne_of_gt (blk_lt (g := gb112) (o := .cells #[.int .u8 a1_0, .int .u8 a1_1] 82 (0, 0)) (zqB BK112.out)) : gb117 ≠ gb112)); clear HO116; clear BK111; clear BK112; clear HB; have HO116 := n0_; have BK111 := n1_; have BK112 := n2_; have HB := n3_; have BK117 := n4_; have GW117 := n5_; have GE117 := n6_; have NB111_117 := n7_; have NB117_111 := n8_; have NB112_117 := n9_; have NB117_112 := n10_; clear n0_ n1_ n2_ n3_ n4_ n5_ n6_ n7_ n8_ n9_ n10_; clear hb hbox hg; have hnb16 := NB117_111.out; have hnc16 := NB111_117.out; have hnb17 := NB117_112.out; have hnc17 := NB112_117.out; have hcz18_0 : w15.cell? ⟨gb117, 0, none⟩ = some (.int .i64 0) := (blk_cell BK117.out 0).trans rfl; have hcz18_1 : w15.cell? ⟨gb117, 1, none⟩ = some (.slice none 0 0) := (blk_cell BK117.out 1).trans rfl; have hfz18_0 := blk_frozen BK117.out 0; have hfz18_1 := blk_frozen BK117.out 1; obtain ⟨Ao19, co19, eo19⟩ := Kd.R_slice HO116.out; subst eo19) | ((with_reducible refine gate_callee (f := 22) rfl ?_); refine goesL_ (some 38) rfl rfl Try.func22 (by kernel_rfl) rfl #[.agg #[.int .i64 t113, .slice Ao19 t114.length co19]] rfl zqE ?_; (with_reducible refine (punch_Passes.calls t113 _ _ t114 t118 t121 t122 _ ?side1 ?side2 A7.out).mono ?_); (case side1 => refine (Kd.R_reads' (e := 47) (base := w.heap.size) (ok := fun k_ => True) (n := t114.length) (c := co19) ?_).2.2; exact (by (with_reducible repeat (first | apply Kd.R_alloc | apply Kd.R_drewN | apply Kd.R_drew)); exact (Kd.R_mono (Kd.R_far (p := ⟨gb117, 1, none⟩) (Kd.R_far (p := ⟨gb117, 0, none⟩) (Kd.R_types HO116.out BK117.out (by decide)) (fun _ hk => hk.2) (.int .i64 t113)) (fun _ hk => hk.2) (.slice Ao19 t114.length co19)) (fun _ h_ => h_.1)))); (case side2 => exact (Kd.R_reads' HO116.out).2.1); rintro e w20 ⟨v119, rfl, ho0, hb⟩; refine ⟨_, rfl, ?_⟩; have n0_ := zA (Kd.R_below (by (with_reducible repeat (first | apply Kd.R_alloc | apply Kd.R_drewN | apply Kd.R_drew)); exact (Kd.R_mono (Kd.R_far (p := ⟨gb117, 1, none⟩) (Kd.R_far (p := ⟨gb117, 0, none⟩) (Kd.R_types HO116.out BK117.out (by decide)) (fun _ hk => hk.2) (.int .i64 t113)) (fun _ hk => hk.2) (.slice Ao19 t114.length co19)) (fun _ h_ => h_.1))) hb); have n1_ := zA (Kd.R_lower ho0 (below_size (zqI HB.out GE111.out GE112.out GE117.out))); have n2_ := zA (blk_below (g := gb111) (o := .cells #[.int .u8 a0_0, .slice A0_1 l0_1.length c0_1] 74 (0, 0)) (by (with_reducible repeat (first | refine blk_drewN ?_ _ | refine blk_drew ?_ | refine blk_alloc ?_ _)); refine blk_far ?_ NB111_117.out _; (with_reducible repeat (first | refine blk_drewN ?_ _ | refine blk_drew ?_ | refine blk_alloc ?_ _)); refine blk_far ?_ NB111_117.out _; (with_reducible repeat (first | refine blk_drewN ?_ _ | refine blk_drew ?_ | refine blk_alloc ?_ _)); exact BK111.out) hb); have n3_ := zA (blk_below (g := gb112) (o := .cells #[.int .u8 a1_0, .int .u8 a1_1] 82 (0, 0)) (by (with_reducible repeat (first | refine blk_drewN ?_ _ | refine blk_drew ?_ | refine blk_alloc ?_ _)); refine blk_far ?_ NB112_117.out _; (with_reducible repeat (first | refine blk_drewN ?_ _ | refine blk_drew ?_ | refine blk_alloc ?_ _)); refine blk_far ?_ NB112_117.out _; (with_reducible repeat (first | refine blk_drewN ?_ _ | refine blk_drew ?_ | refine blk_alloc ?_ _)); exact BK112.out) hb); have n4_ := zA (blk_below (g := gb117) (o := .cells #[.int .i64 t113, .slice Ao19 t114.length co19] 24 (0, 0)) (by (with_reducible repeat (first | refine blk_drewN ?_ _ | refine blk_drew ?_ | refine blk_alloc ?_ _)); refine blk_put (cs := #[.int .i64 t113, .slice none 0 0]) ?_ 1 _ rfl; (with_reducible repeat (first | refine blk_drewN ?_ _ | refine blk_drew ?_ | refine blk_alloc ?_ _)); refine blk_put (cs := #[.int .i64 0, .slice none 0 0]) ?_ 0 _ rfl; (with_reducible repeat (first | refine blk_drewN ?_ _ | refine blk_drew ?_ | refine blk_alloc ?_ _)); exact BK117.out) hb); have n5_ := zA (below_step (zqI HB.out GE111.out GE112.out GE117.out) hb); clear HO116; clear BK111; clear BK112; clear BK117; clear HB; have HO116 := n0_; have HO120 := n1_; have BK111 := n2_; have BK112 := n3_; have BK117 := n4_; have HB := n5_; clear n0_ n1_ n2_ n3_ n4_ n5_; (try clear hb); (try clear hb2); (try clear hk); (try clear hi); (try clear ho0); have hcz21_0 : w20.cell? ⟨gb112, 0, none⟩ = some (.int .u8 a1_0) := (blk_cell BK112.out 0).trans rfl; have hcz21_1 : w20.cell? ⟨gb112, 1, none⟩ = some (.int .u8 a1_1) := (blk_cell BK112.out 1).trans rfl; have hfz21_0 := blk_frozen BK112.out 0; have hfz21_1 := blk_frozen BK112.out 1; have hcz22_0 : w20.cell? ⟨gb117, 0, none⟩ = some (.int .i64 t113) := (blk_cell BK117.out 0).trans rfl; have hcz22_1 : w20.cell? ⟨gb117, 1, none⟩ = some (.slice Ao19 t114.length co19) := (blk_cell BK117.out 1).trans rfl; have hfz22_0 := blk_frozen BK117.out 0; have hfz22_1 := blk_frozen BK117.out 1))
   have n0_ := zA (Kd.R_drew HO116.out); have n1_ := zA (Kd.R_drew HO120.out); have n2_ := zA (blk_drew BK111.out); have n3_ := zA (blk_drew BK112.out); have n4_ := zA (blk_drew BK117.out); have n5_ := zA (below_drew1 HB.out); clear HO116 HO120 BK111 BK112 BK117 HB; have HO116 := n0_; have HO120 := n1_; have BK111 := n2_; have BK112 := n3_; have BK117 := n4_; have HB := n5_; clear n0_ n1_ n2_ n3_ n4_ n5_
   refine start_ (n := 16) (S := fun w' => w'.cell? ⟨gb117, 0, none⟩ = some (.int .i64 t113) ∧ w'.cell? ⟨gb117, 1, none⟩ = some (.slice Ao19 t114.length co19)) (ds := []) #[false, false, false, false, false, false, false, false, false, false, false, false, false, false, false, false] (by kernel_rfl) rfl rfl ⟨(blk_cell BK117.out 0).trans rfl, (blk_cell BK117.out 1).trans rfl⟩ (fun hHeld => ?_); refine with_tabW pianolalaw03_PunchMore.tab4 pianolalaw03_PunchMore.bits4 (fun HT_ HW_ => ?_)
   generalize w20.drew = w21 at HO116 HO120 BK111 BK112 BK117 HB hHeld ⊢
   refine pure_ (i := 2) (N := some 48) (v := ?_) (a' := ?_) #[false, false, true, false, false, false, false, false, false, false, false, false, false, false, false, false] rfl rfl (any_of HT_.out (by kernel_rfl)) (fun _ _ _ h => h) (Or.inl ⟨by rfl, ?_⟩) ?_ ?_
   rotate_left
   ·
    intro w'
    go_simp
    with_reducible rfl
   rotate_left
   · simp only [Act.put, setIfInBounds_toArray, set_cons_zero, set_cons_succ, i64_w, i32_w]; rfl
   refine pure_ (i := 5) (N := some 51) (v := ?_) (a' := ?_) #[false, false, true, false, false, true, false, false, false, false, false, false, false, false, false, false] rfl rfl (any_of HT_.out (by kernel_rfl)) (fun _ _ _ h => h) (Or.inl ⟨by rfl, ?_⟩) ?_ ?_
   rotate_left
   ·
    intro w'
    go_simp
    with_reducible rfl
   rotate_left
   · simp only [Act.put, setIfInBounds_toArray, set_cons_zero, set_cons_succ, i64_w, i32_w]; rfl
   refine take_ (i := 0) (N := some 46) (v := ?_) (a' := ?_) #[true, false, true, false, false, true, false, false, false, false, false, false, false, false, false, false] rfl rfl (take_ofW HT_.out HW_.out (by kernel_rfl)) (fun _ _ _ h => h) (Or.inl ⟨by rfl, ?_⟩) hHeld ?_ ?_
   rotate_left
   ·
    rintro w' ⟨s0, s1⟩
    go_simp
    with_reducible rfl
   rotate_left
   · simp only [Act.put, setIfInBounds_toArray, set_cons_zero, set_cons_succ, i64_w, i32_w]; rfl
   refine take_ (i := 1) (N := some 47) (v := ?_) (a' := ?_) #[true, true, true, false, false, true, false, false, false, false, false, false, false, false, false, false] rfl rfl (take_ofW HT_.out HW_.out (by kernel_rfl)) (fun _ _ _ h => h) (Or.inl ⟨by rfl, ?_⟩) hHeld ?_ ?_
   rotate_left
   ·
    rintro w' ⟨s0, s1⟩
    go_simp
    with_reducible rfl
   rotate_left
   · simp only [Act.put, setIfInBounds_toArray, set_cons_zero, set_cons_succ, i64_w, i32_w]; rfl
   refine take_ (i := 3) (N := some 49) (v := ?_) (a' := ?_) #[true, true, true, true, false, true, false, false, false, false, false, false, false, false, false, false] rfl rfl (take_ofW HT_.out HW_.out (by kernel_rfl)) (fun _ _ _ h => h) (Or.inl ⟨by rfl, ?_⟩) hHeld ?_ ?_
   rotate_left
   ·
    rintro w' ⟨s0, s1⟩
    go_simp
    with_reducible rfl
   rotate_left
   · simp only [Act.put, setIfInBounds_toArray, set_cons_zero, set_cons_succ, i64_w, i32_w]; rfl
   refine take_ (i := 6) (N := some 52) (v := ?_) (a' := ?_) #[true, true, true, true, false, true, true, false, false, false, false, false, false, false, false, false] rfl rfl (take_ofW HT_.out HW_.out (by kernel_rfl)) (fun _ _ _ h => h) (Or.inl ⟨by rfl, ?_⟩) hHeld ?_ ?_
   rotate_left
   ·
    rintro w' ⟨s0, s1⟩
    go_simp
    with_reducible rfl
   rotate_left
   · simp only [Act.put, setIfInBounds_toArray, set_cons_zero, set_cons_succ, i64_w, i32_w]; rfl
   refine pure_ (i := 4) (N := some 50) (v := ?_) (a' := ?_) #[true, true, true, true, true, true, true, false, false, false, false, false, false, false, false, false] rfl rfl (any_of HT_.out (by kernel_rfl)) (fun _ _ _ h => h) (Or.inl ⟨by rfl, ?_⟩) ?_ ?_
   rotate_left
   ·
    intro w'
    go_simp
    with_reducible rfl
   rotate_left
   · simp only [Act.put, setIfInBounds_toArray, set_cons_zero, set_cons_succ, i64_w, i32_w]; rfl
   refine pure_ (i := 7) (N := some 53) (v := ?_) (a' := ?_) #[true, true, true, true, true, true, true, true, false, false, false, false, false, false, false, false] rfl rfl (any_of HT_.out (by kernel_rfl)) (fun _ _ _ h => h) (Or.inl ⟨by rfl, ?_⟩) ?_ ?_
   rotate_left
   ·
    intro w'
    go_simp
    with_reducible rfl
   rotate_left
   · simp only [Act.put, setIfInBounds_toArray, set_cons_zero, set_cons_succ, i64_w, i32_w]; rfl
   refine boxes_ (cs := #[.int .i64 0, .slice none 0 0]) (t := 24) HT_.out 4 [(8, 16), (9, 17), (10, 18), (11, 19)] _ _ _ 4 rfl (by kernel_rfl) (by decide) (by decide) ?hop (by decide) ?hS ?go
   case hop =>
    intro x hx
    simp only [List.mem_cons, List.not_mem_nil, or_false] at hx
    rcases hx with rfl | rfl | rfl | rfl
    ·
     exact ⟨_, rfl, rfl, fun _ => rfl, fun a w => by go_simp; try rfl⟩
    ·
     exact ⟨_, rfl, rfl, fun _ => rfl, fun a w => by go_simp; try rfl⟩
    ·
     exact ⟨_, rfl, rfl, fun _ => rfl, fun a w => by go_simp; try rfl⟩
    ·
     exact ⟨_, rfl, rfl, fun _ => rfl, fun a w => by go_simp; try rfl⟩
   case hS => exact fun w' h => ⟨(blk_cell (blk_keep BK117.out h) 0).trans rfl, (blk_cell (blk_keep BK117.out h) 1).trans rfl⟩
   case go =>
    intro g w26 hg1 hg2 hb hHeld
    obtain ⟨gb123, e123⟩ : ∃ x, g 16 = x := ⟨_, rfl⟩
    obtain ⟨gb124, e124⟩ : ∃ x, g 17 = x := ⟨_, rfl⟩
    obtain ⟨gb125, e125⟩ : ∃ x, g 18 = x := ⟨_, rfl⟩
    obtain ⟨gb126, e126⟩ : ∃ x, g 19 = x := ⟨_, rfl⟩
    change wpAnyLast _ _ _ _ _ _ _ #[true, true, true, true, true, true, true, true, true, true, true, true, false, false, false, false] _ _
    refine norm_ (a' := ?_) ?_ ?_; rotate_left
    · simp only [boxesA, List.foldl, e123, e124, e125, e126, Act.put, setIfInBounds_toArray, set_cons_zero, set_cons_succ, i64_w, i32_w]; rfl
    have q123 := hg1 (8, 16) (by decide)
    rw [show g ((8, 16) : Nat × Tmp).2 = gb123 from e123] at q123
    have q124 := hg1 (9, 17) (by decide)
    rw [show g ((9, 17) : Nat × Tmp).2 = gb124 from e124] at q124
    have q125 := hg1 (10, 18) (by decide)
    rw [show g ((10, 18) : Nat × Tmp).2 = gb125 from e125] at q125
    have q126 := hg1 (11, 19) (by decide)
    rw [show g ((11, 19) : Nat × Tmp).2 = gb126 from e126] at q126
    have NB123_124 : Aside0 (gb123 ≠ gb124) := ⟨by have h := hg2 (8, 16) (by decide) (9, 17) (by decide) (by decide); rw [show g ((8, 16) : Nat × Tmp).2 = gb123 from e123, show g ((9, 17) : Nat × Tmp).2 = gb124 from e124] at h; exact h⟩
    have NB123_125 : Aside0 (gb123 ≠ gb125) := ⟨by have h := hg2 (8, 16) (by decide) (10, 18) (by decide) (by decide); rw [show g ((8, 16) : Nat × Tmp).2 = gb123 from e123, show g ((10, 18) : Nat × Tmp).2 = gb125 from e125] at h; exact h⟩
    have NB123_126 : Aside0 (gb123 ≠ gb126) := ⟨by have h := hg2 (8, 16) (by decide) (11, 19) (by decide) (by decide); rw [show g ((8, 16) : Nat × Tmp).2 = gb123 from e123, show g ((11, 19) : Nat × Tmp).2 = gb126 from e126] at h; exact h⟩
    have NB124_123 : Aside0 (gb124 ≠ gb123) := ⟨by have h := hg2 (9, 17) (by decide) (8, 16) (by decide) (by decide); rw [show g ((9, 17) : Nat × Tmp).2 = gb124 from e124, show g ((8, 16) : Nat × Tmp).2 = gb123 from e123] at h; exact h⟩
    have NB124_125 : Aside0 (gb124 ≠ gb125) := ⟨by have h := hg2 (9, 17) (by decide) (10, 18) (by decide) (by decide); rw [show g ((9, 17) : Nat × Tmp).2 = gb124 from e124, show g ((10, 18) : Nat × Tmp).2 = gb125 from e125] at h; exact h⟩
    have NB124_126 : Aside0 (gb124 ≠ gb126) := ⟨by have h := hg2 (9, 17) (by decide) (11, 19) (by decide) (by decide); rw [show g ((9, 17) : Nat × Tmp).2 = gb124 from e124, show g ((11, 19) : Nat × Tmp).2 = gb126 from e126] at h; exact h⟩
    have NB125_123 : Aside0 (gb125 ≠ gb123) := ⟨by have h := hg2 (10, 18) (by decide) (8, 16) (by decide) (by decide); rw [show g ((10, 18) : Nat × Tmp).2 = gb125 from e125, show g ((8, 16) : Nat × Tmp).2 = gb123 from e123] at h; exact h⟩
    have NB125_124 : Aside0 (gb125 ≠ gb124) := ⟨by have h := hg2 (10, 18) (by decide) (9, 17) (by decide) (by decide); rw [show g ((10, 18) : Nat × Tmp).2 = gb125 from e125, show g ((9, 17) : Nat × Tmp).2 = gb124 from e124] at h; exact h⟩
    have NB125_126 : Aside0 (gb125 ≠ gb126) := ⟨by have h := hg2 (10, 18) (by decide) (11, 19) (by decide) (by decide); rw [show g ((10, 18) : Nat × Tmp).2 = gb125 from e125, show g ((11, 19) : Nat × Tmp).2 = gb126 from e126] at h; exact h⟩
    have NB126_123 : Aside0 (gb126 ≠ gb123) := ⟨by have h := hg2 (11, 19) (by decide) (8, 16) (by decide) (by decide); rw [show g ((11, 19) : Nat × Tmp).2 = gb126 from e126, show g ((8, 16) : Nat × Tmp).2 = gb123 from e123] at h; exact h⟩
    have NB126_124 : Aside0 (gb126 ≠ gb124) := ⟨by have h := hg2 (11, 19) (by decide) (9, 17) (by decide) (by decide); rw [show g ((11, 19) : Nat × Tmp).2 = gb126 from e126, show g ((9, 17) : Nat × Tmp).2 = gb124 from e124] at h; exact h⟩
    have NB126_125 : Aside0 (gb126 ≠ gb125) := ⟨by have h := hg2 (11, 19) (by decide) (10, 18) (by decide) (by decide); rw [show g ((11, 19) : Nat × Tmp).2 = gb126 from e126, show g ((10, 18) : Nat × Tmp).2 = gb125 from e125] at h; exact h⟩
    have hsz := HB.out.size
    have BK123 : Aside0 (w26.heap[gb123]? = some (.cells #[.int .i64 0, .slice none 0 0] 24 (0, 0))) := ⟨q123.1⟩
    have GW123 : Aside0 (w.heap.size ≤ gb123) := ⟨by have := q123.2; omega⟩
    have GE123 : Aside0 (w.heap.size ≤ gb123) := ⟨by have := q123.2; omega⟩
    have NB111_123 : Aside0 (gb111 ≠ gb123) := ⟨Nat.ne_of_lt (Nat.lt_of_lt_of_le (Array.getElem?_eq_some_iff.1 BK111.out).1 q123.2)⟩
    have NB123_111 : Aside0 (gb123 ≠ gb111) := ⟨fun h => NB111_123.out h.symm⟩
    have NB112_123 : Aside0 (gb112 ≠ gb123) := ⟨Nat.ne_of_lt (Nat.lt_of_lt_of_le (Array.getElem?_eq_some_iff.1 BK112.out).1 q123.2)⟩
    have NB123_112 : Aside0 (gb123 ≠ gb112) := ⟨fun h => NB112_123.out h.symm⟩
    have NB117_123 : Aside0 (gb117 ≠ gb123) := ⟨Nat.ne_of_lt (Nat.lt_of_lt_of_le (Array.getElem?_eq_some_iff.1 BK117.out).1 q123.2)⟩
    have NB123_117 : Aside0 (gb123 ≠ gb117) := ⟨fun h => NB117_123.out h.symm⟩
    have BK124 : Aside0 (w26.heap[gb124]? = some (.cells #[.int .i64 0, .slice none 0 0] 24 (0, 0))) := ⟨q124.1⟩
    have GW124 : Aside0 (w.heap.size ≤ gb124) := ⟨by have := q124.2; omega⟩
    have GE124 : Aside0 (w.heap.size ≤ gb124) := ⟨by have := q124.2; omega⟩
    have NB111_124 : Aside0 (gb111 ≠ gb124) := ⟨Nat.ne_of_lt (Nat.lt_of_lt_of_le (Array.getElem?_eq_some_iff.1 BK111.out).1 q124.2)⟩
    have NB124_111 : Aside0 (gb124 ≠ gb111) := ⟨fun h => NB111_124.out h.symm⟩
    have NB112_124 : Aside0 (gb112 ≠ gb124) := ⟨Nat.ne_of_lt (Nat.lt_of_lt_of_le (Array.getElem?_eq_some_iff.1 BK112.out).1 q124.2)⟩
    have NB124_112 : Aside0 (gb124 ≠ gb112) := ⟨fun h => NB112_124.out h.symm⟩
    have NB117_124 : Aside0 (gb117 ≠ gb124) := ⟨Nat.ne_of_lt (Nat.lt_of_lt_of_le (Array.getElem?_eq_some_iff.1 BK117.out).1 q124.2)⟩
    have NB124_117 : Aside0 (gb124 ≠ gb117) := ⟨fun h => NB117_124.out h.symm⟩
    have BK125 : Aside0 (w26.heap[gb125]? = some (.cells #[.int .i64 0, .slice none 0 0] 24 (0, 0))) := ⟨q125.1⟩
    have GW125 : Aside0 (w.heap.size ≤ gb125) := ⟨by have := q125.2; omega⟩
    have GE125 : Aside0 (w.heap.size ≤ gb125) := ⟨by have := q125.2; omega⟩
    have NB111_125 : Aside0 (gb111 ≠ gb125) := ⟨Nat.ne_of_lt (Nat.lt_of_lt_of_le (Array.getElem?_eq_some_iff.1 BK111.out).1 q125.2)⟩
    have NB125_111 : Aside0 (gb125 ≠ gb111) := ⟨fun h => NB111_125.out h.symm⟩
    have NB112_125 : Aside0 (gb112 ≠ gb125) := ⟨Nat.ne_of_lt (Nat.lt_of_lt_of_le (Array.getElem?_eq_some_iff.1 BK112.out).1 q125.2)⟩
    have NB125_112 : Aside0 (gb125 ≠ gb112) := ⟨fun h => NB112_125.out h.symm⟩
    have NB117_125 : Aside0 (gb117 ≠ gb125) := ⟨Nat.ne_of_lt (Nat.lt_of_lt_of_le (Array.getElem?_eq_some_iff.1 BK117.out).1 q125.2)⟩
    have NB125_117 : Aside0 (gb125 ≠ gb117) := ⟨fun h => NB117_125.out h.symm⟩
    have BK126 : Aside0 (w26.heap[gb126]? = some (.cells #[.int .i64 0, .slice none 0 0] 24 (0, 0))) := ⟨q126.1⟩
    have GW126 : Aside0 (w.heap.size ≤ gb126) := ⟨by have := q126.2; omega⟩
    have GE126 : Aside0 (w.heap.size ≤ gb126) := ⟨by have := q126.2; omega⟩
    have NB111_126 : Aside0 (gb111 ≠ gb126) := ⟨Nat.ne_of_lt (Nat.lt_of_lt_of_le (Array.getElem?_eq_some_iff.1 BK111.out).1 q126.2)⟩
    have NB126_111 : Aside0 (gb126 ≠ gb111) := ⟨fun h => NB111_126.out h.symm⟩
    have NB112_126 : Aside0 (gb112 ≠ gb126) := ⟨Nat.ne_of_lt (Nat.lt_of_lt_of_le (Array.getElem?_eq_some_iff.1 BK112.out).1 q126.2)⟩
    have NB126_112 : Aside0 (gb126 ≠ gb112) := ⟨fun h => NB112_126.out h.symm⟩
    have NB117_126 : Aside0 (gb117 ≠ gb126) := ⟨Nat.ne_of_lt (Nat.lt_of_lt_of_le (Array.getElem?_eq_some_iff.1 BK117.out).1 q126.2)⟩
    have NB126_117 : Aside0 (gb126 ≠ gb117) := ⟨fun h => NB117_126.out h.symm⟩
    have n0_ := zA (Kd.R_below HO116.out hb); have n1_ := zA (Kd.R_below HO120.out hb); have n2_ := zA (blk_keep BK111.out hb); have n3_ := zA (blk_keep BK112.out hb); have n4_ := zA (blk_keep BK117.out hb); have n5_ := zA (HB.out.trans (hb.mono hsz)); clear HO116 HO120 BK111 BK112 BK117 HB; have HO116 := n0_; have HO120 := n1_; have BK111 := n2_; have BK112 := n3_; have BK117 := n4_; have HB := n5_; clear n0_ n1_ n2_ n3_ n4_ n5_ hg1 hg2 e123 e124 e125 e126 q123 q124 q125 q126 hsz hb g
    have hz0 : w26.cell? ⟨gb123, 0, none⟩ = some (.int .i64 0) := (blk_cell BK123.out 0).trans rfl
    have hz1 : w26.cell? ⟨gb123, 1, none⟩ = some (.slice none 0 0) := (blk_cell BK123.out 1).trans rfl
    have hf0 := blk_frozen BK123.out 0
    have hf1 := blk_frozen BK123.out 1
    refine one_ (i := 12) (N := none) #[true, true, true, true, true, true, true, true, true, true, true, true, true, false, false, false] rfl rfl (one_of HT_.out (by kernel_rfl)) (by decide) (fun K hK => ?_)
    refine skip_ (w1 := ?_) (by rfl) rfl ?_ ?_
    rotate_left
    ·
     go_simp
     rfl
    clear hz0 hz1 hf0 hf1
    have n0_ : Aside0 (Kd.R k47 47 ((w26.setCell ⟨gb123, 0, none⟩ (.int .i64 t113)).setCell ⟨gb123, 1, none⟩ (.slice Ao19 t114.length co19)) w.heap.size (fun _ => True) (.slice Ao19 t114.length co19) t114) := ⟨Kd.R_mono (Kd.R_far (p := ⟨gb123, 1, none⟩) (Kd.R_far (p := ⟨gb123, 0, none⟩) (Kd.R_types HO116.out BK123.out (by decide)) (fun _ hk => hk.2) (.int .i64 t113)) (fun _ hk => hk.2) (.slice Ao19 t114.length co19)) (fun _ hk => trivial)⟩
    have n1_ : Aside0 (Kd.R (Kd.int .i64) 3 ((w26.setCell ⟨gb123, 0, none⟩ (.int .i64 t113)).setCell ⟨gb123, 1, none⟩ (.slice Ao19 t114.length co19)) w.heap.size (fun _ => True) v119 t118) := ⟨Kd.R_mono (Kd.R_far (p := ⟨gb123, 1, none⟩) (Kd.R_far (p := ⟨gb123, 0, none⟩) (Kd.R_types HO120.out BK123.out (by decide)) (fun _ hk => hk.2) (.int .i64 t113)) (fun _ hk => hk.2) (.slice Ao19 t114.length co19)) (fun _ hk => trivial)⟩
    have n2_ : Aside0 (((w26.setCell ⟨gb123, 0, none⟩ (.int .i64 t113)).setCell ⟨gb123, 1, none⟩ (.slice Ao19 t114.length co19)).heap[gb111]? = some (.cells #[.int .u8 a0_0, .slice A0_1 l0_1.length c0_1] 74 (0, 0))) := ⟨blk_far (blk_far BK111.out NB111_123.out _) NB111_123.out _⟩
    have n3_ : Aside0 (((w26.setCell ⟨gb123, 0, none⟩ (.int .i64 t113)).setCell ⟨gb123, 1, none⟩ (.slice Ao19 t114.length co19)).heap[gb112]? = some (.cells #[.int .u8 a1_0, .int .u8 a1_1] 82 (0, 0))) := ⟨blk_far (blk_far BK112.out NB112_123.out _) NB112_123.out _⟩
    have n4_ : Aside0 (((w26.setCell ⟨gb123, 0, none⟩ (.int .i64 t113)).setCell ⟨gb123, 1, none⟩ (.slice Ao19 t114.length co19)).heap[gb117]? = some (.cells #[.int .i64 t113, .slice Ao19 t114.length co19] 24 (0, 0))) := ⟨blk_far (blk_far BK117.out NB117_123.out _) NB117_123.out _⟩
    have n5_ : Aside0 (((w26.setCell ⟨gb123, 0, none⟩ (.int .i64 t113)).setCell ⟨gb123, 1, none⟩ (.slice Ao19 t114.length co19)).heap[gb123]? = some (.cells #[.int .i64 t113, .slice Ao19 t114.length co19] 24 (0, 0))) := ⟨blk_put (cs := #[.int .i64 t113, .slice none 0 0]) (blk_put (cs := #[.int .i64 0, .slice none 0 0]) BK123.out 0 _ rfl) 1 _ rfl⟩
    have n6_ : Aside0 (((w26.setCell ⟨gb123, 0, none⟩ (.int .i64 t113)).setCell ⟨gb123, 1, none⟩ (.slice Ao19 t114.length co19)).heap[gb124]? = some (.cells #[.int .i64 0, .slice none 0 0] 24 (0, 0))) := ⟨blk_far (blk_far BK124.out NB124_123.out _) NB124_123.out _⟩
    have n7_ : Aside0 (((w26.setCell ⟨gb123, 0, none⟩ (.int .i64 t113)).setCell ⟨gb123, 1, none⟩ (.slice Ao19 t114.length co19)).heap[gb125]? = some (.cells #[.int .i64 0, .slice none 0 0] 24 (0, 0))) := ⟨blk_far (blk_far BK125.out NB125_123.out _) NB125_123.out _⟩
    have n8_ : Aside0 (((w26.setCell ⟨gb123, 0, none⟩ (.int .i64 t113)).setCell ⟨gb123, 1, none⟩ (.slice Ao19 t114.length co19)).heap[gb126]? = some (.cells #[.int .i64 0, .slice none 0 0] 24 (0, 0))) := ⟨blk_far (blk_far BK126.out NB126_123.out _) NB126_123.out _⟩
    have n9_ : Aside0 (Below w.heap.size w ((w26.setCell ⟨gb123, 0, none⟩ (.int .i64 t113)).setCell ⟨gb123, 1, none⟩ (.slice Ao19 t114.length co19))) := ⟨below_set (below_set HB.out GE123.out) GE123.out⟩
    clear HO116 HO120 BK111 BK112 BK117 BK123 BK124 BK125 BK126 HB; generalize ((w26.setCell ⟨gb123, 0, none⟩ (.int .i64 t113)).setCell ⟨gb123, 1, none⟩ (.slice Ao19 t114.length co19)) = w27 at n0_ n1_ n2_ n3_ n4_ n5_ n6_ n7_ n8_ n9_ ⊢; have HO116 := n0_; have HO120 := n1_; have BK111 := n2_; have BK112 := n3_; have BK117 := n4_; have BK123 := n5_; have BK124 := n6_; have BK125 := n7_; have BK126 := n8_; have HB := n9_; clear n0_ n1_ n2_ n3_ n4_ n5_ n6_ n7_ n8_ n9_
    refine hK.out _ _ ⟨(blk_cell BK117.out 0).trans rfl, (blk_cell BK117.out 1).trans rfl⟩ (fun hHeld => ?_)
    clear hK K
    have hz0 : w27.cell? ⟨gb124, 0, none⟩ = some (.int .i64 0) := (blk_cell BK124.out 0).trans rfl
    have hz1 : w27.cell? ⟨gb124, 1, none⟩ = some (.slice none 0 0) := (blk_cell BK124.out 1).trans rfl
    have hf0 := blk_frozen BK124.out 0
    have hf1 := blk_frozen BK124.out 1
    refine one_ (i := 13) (N := none) #[true, true, true, true, true, true, true, true, true, true, true, true, true, true, false, false] rfl rfl (one_of HT_.out (by kernel_rfl)) (by decide) (fun K hK => ?_)
    refine skip_ (w1 := ?_) (by rfl) rfl ?_ ?_
    rotate_left
    ·
     go_simp
     rfl
    clear hz0 hz1 hf0 hf1
    have n0_ : Aside0 (Kd.R k47 47 ((w27.setCell ⟨gb124, 0, none⟩ (.int .i64 t113)).setCell ⟨gb124, 1, none⟩ (.slice Ao19 t114.length co19)) w.heap.size (fun _ => True) (.slice Ao19 t114.length co19) t114) := ⟨Kd.R_mono (Kd.R_far (p := ⟨gb124, 1, none⟩) (Kd.R_far (p := ⟨gb124, 0, none⟩) (Kd.R_types HO116.out BK124.out (by decide)) (fun _ hk => hk.2) (.int .i64 t113)) (fun _ hk => hk.2) (.slice Ao19 t114.length co19)) (fun _ hk => trivial)⟩
    have n1_ : Aside0 (Kd.R (Kd.int .i64) 3 ((w27.setCell ⟨gb124, 0, none⟩ (.int .i64 t113)).setCell ⟨gb124, 1, none⟩ (.slice Ao19 t114.length co19)) w.heap.size (fun _ => True) v119 t118) := ⟨Kd.R_mono (Kd.R_far (p := ⟨gb124, 1, none⟩) (Kd.R_far (p := ⟨gb124, 0, none⟩) (Kd.R_types HO120.out BK124.out (by decide)) (fun _ hk => hk.2) (.int .i64 t113)) (fun _ hk => hk.2) (.slice Ao19 t114.length co19)) (fun _ hk => trivial)⟩
    have n2_ : Aside0 (((w27.setCell ⟨gb124, 0, none⟩ (.int .i64 t113)).setCell ⟨gb124, 1, none⟩ (.slice Ao19 t114.length co19)).heap[gb111]? = some (.cells #[.int .u8 a0_0, .slice A0_1 l0_1.length c0_1] 74 (0, 0))) := ⟨blk_far (blk_far BK111.out NB111_124.out _) NB111_124.out _⟩
    have n3_ : Aside0 (((w27.setCell ⟨gb124, 0, none⟩ (.int .i64 t113)).setCell ⟨gb124, 1, none⟩ (.slice Ao19 t114.length co19)).heap[gb112]? = some (.cells #[.int .u8 a1_0, .int .u8 a1_1] 82 (0, 0))) := ⟨blk_far (blk_far BK112.out NB112_124.out _) NB112_124.out _⟩
    have n4_ : Aside0 (((w27.setCell ⟨gb124, 0, none⟩ (.int .i64 t113)).setCell ⟨gb124, 1, none⟩ (.slice Ao19 t114.length co19)).heap[gb117]? = some (.cells #[.int .i64 t113, .slice Ao19 t114.length co19] 24 (0, 0))) := ⟨blk_far (blk_far BK117.out NB117_124.out _) NB117_124.out _⟩
    have n5_ : Aside0 (((w27.setCell ⟨gb124, 0, none⟩ (.int .i64 t113)).setCell ⟨gb124, 1, none⟩ (.slice Ao19 t114.length co19)).heap[gb123]? = some (.cells #[.int .i64 t113, .slice Ao19 t114.length co19] 24 (0, 0))) := ⟨blk_far (blk_far BK123.out NB123_124.out _) NB123_124.out _⟩
    have n6_ : Aside0 (((w27.setCell ⟨gb124, 0, none⟩ (.int .i64 t113)).setCell ⟨gb124, 1, none⟩ (.slice Ao19 t114.length co19)).heap[gb124]? = some (.cells #[.int .i64 t113, .slice Ao19 t114.length co19] 24 (0, 0))) := ⟨blk_put (cs := #[.int .i64 t113, .slice none 0 0]) (blk_put (cs := #[.int .i64 0, .slice none 0 0]) BK124.out 0 _ rfl) 1 _ rfl⟩
    have n7_ : Aside0 (((w27.setCell ⟨gb124, 0, none⟩ (.int .i64 t113)).setCell ⟨gb124, 1, none⟩ (.slice Ao19 t114.length co19)).heap[gb125]? = some (.cells #[.int .i64 0, .slice none 0 0] 24 (0, 0))) := ⟨blk_far (blk_far BK125.out NB125_124.out _) NB125_124.out _⟩
    have n8_ : Aside0 (((w27.setCell ⟨gb124, 0, none⟩ (.int .i64 t113)).setCell ⟨gb124, 1, none⟩ (.slice Ao19 t114.length co19)).heap[gb126]? = some (.cells #[.int .i64 0, .slice none 0 0] 24 (0, 0))) := ⟨blk_far (blk_far BK126.out NB126_124.out _) NB126_124.out _⟩
    have n9_ : Aside0 (Below w.heap.size w ((w27.setCell ⟨gb124, 0, none⟩ (.int .i64 t113)).setCell ⟨gb124, 1, none⟩ (.slice Ao19 t114.length co19))) := ⟨below_set (below_set HB.out GE124.out) GE124.out⟩
    clear HO116 HO120 BK111 BK112 BK117 BK123 BK124 BK125 BK126 HB; generalize ((w27.setCell ⟨gb124, 0, none⟩ (.int .i64 t113)).setCell ⟨gb124, 1, none⟩ (.slice Ao19 t114.length co19)) = w28 at n0_ n1_ n2_ n3_ n4_ n5_ n6_ n7_ n8_ n9_ ⊢; have HO116 := n0_; have HO120 := n1_; have BK111 := n2_; have BK112 := n3_; have BK117 := n4_; have BK123 := n5_; have BK124 := n6_; have BK125 := n7_; have BK126 := n8_; have HB := n9_; clear n0_ n1_ n2_ n3_ n4_ n5_ n6_ n7_ n8_ n9_
    refine hK.out _ _ ⟨(blk_cell BK117.out 0).trans rfl, (blk_cell BK117.out 1).trans rfl⟩ (fun hHeld => ?_)
    clear hK K
    have hz0 : w28.cell? ⟨gb125, 0, none⟩ = some (.int .i64 0) := (blk_cell BK125.out 0).trans rfl
    have hz1 : w28.cell? ⟨gb125, 1, none⟩ = some (.slice none 0 0) := (blk_cell BK125.out 1).trans rfl
    have hf0 := blk_frozen BK125.out 0
    have hf1 := blk_frozen BK125.out 1
    refine one_ (i := 14) (N := none) #[true, true, true, true, true, true, true, true, true, true, true, true, true, true, true, false] rfl rfl (one_of HT_.out (by kernel_rfl)) (by decide) (fun K hK => ?_)
    refine skip_ (w1 := ?_) (by rfl) rfl ?_ ?_
    rotate_left
    ·
     go_simp
     rfl
    clear hz0 hz1 hf0 hf1
    have n0_ : Aside0 (Kd.R k47 47 ((w28.setCell ⟨gb125, 0, none⟩ (.int .i64 t113)).setCell ⟨gb125, 1, none⟩ (.slice none 0 0)) w.heap.size (fun _ => True) (.slice Ao19 t114.length co19) t114) := ⟨Kd.R_mono (Kd.R_far (p := ⟨gb125, 1, none⟩) (Kd.R_far (p := ⟨gb125, 0, none⟩) (Kd.R_types HO116.out BK125.out (by decide)) (fun _ hk => hk.2) (.int .i64 t113)) (fun _ hk => hk.2) (.slice none 0 0)) (fun _ hk => trivial)⟩
    have n1_ : Aside0 (Kd.R (Kd.int .i64) 3 ((w28.setCell ⟨gb125, 0, none⟩ (.int .i64 t113)).setCell ⟨gb125, 1, none⟩ (.slice none 0 0)) w.heap.size (fun _ => True) v119 t118) := ⟨Kd.R_mono (Kd.R_far (p := ⟨gb125, 1, none⟩) (Kd.R_far (p := ⟨gb125, 0, none⟩) (Kd.R_types HO120.out BK125.out (by decide)) (fun _ hk => hk.2) (.int .i64 t113)) (fun _ hk => hk.2) (.slice none 0 0)) (fun _ hk => trivial)⟩
    have n2_ : Aside0 (((w28.setCell ⟨gb125, 0, none⟩ (.int .i64 t113)).setCell ⟨gb125, 1, none⟩ (.slice none 0 0)).heap[gb111]? = some (.cells #[.int .u8 a0_0, .slice A0_1 l0_1.length c0_1] 74 (0, 0))) := ⟨blk_far (blk_far BK111.out NB111_125.out _) NB111_125.out _⟩
    have n3_ : Aside0 (((w28.setCell ⟨gb125, 0, none⟩ (.int .i64 t113)).setCell ⟨gb125, 1, none⟩ (.slice none 0 0)).heap[gb112]? = some (.cells #[.int .u8 a1_0, .int .u8 a1_1] 82 (0, 0))) := ⟨blk_far (blk_far BK112.out NB112_125.out _) NB112_125.out _⟩
    have n4_ : Aside0 (((w28.setCell ⟨gb125, 0, none⟩ (.int .i64 t113)).setCell ⟨gb125, 1, none⟩ (.slice none 0 0)).heap[gb117]? = some (.cells #[.int .i64 t113, .slice Ao19 t114.length co19] 24 (0, 0))) := ⟨blk_far (blk_far BK117.out NB117_125.out _) NB117_125.out _⟩
    have n5_ : Aside0 (((w28.setCell ⟨gb125, 0, none⟩ (.int .i64 t113)).setCell ⟨gb125, 1, none⟩ (.slice none 0 0)).heap[gb123]? = some (.cells #[.int .i64 t113, .slice Ao19 t114.length co19] 24 (0, 0))) := ⟨blk_far (blk_far BK123.out NB123_125.out _) NB123_125.out _⟩
    have n6_ : Aside0 (((w28.setCell ⟨gb125, 0, none⟩ (.int .i64 t113)).setCell ⟨gb125, 1, none⟩ (.slice none 0 0)).heap[gb124]? = some (.cells #[.int .i64 t113, .slice Ao19 t114.length co19] 24 (0, 0))) := ⟨blk_far (blk_far BK124.out NB124_125.out _) NB124_125.out _⟩
    have n7_ : Aside0 (((w28.setCell ⟨gb125, 0, none⟩ (.int .i64 t113)).setCell ⟨gb125, 1, none⟩ (.slice none 0 0)).heap[gb125]? = some (.cells #[.int .i64 t113, .slice none 0 0] 24 (0, 0))) := ⟨blk_put (cs := #[.int .i64 t113, .slice none 0 0]) (blk_put (cs := #[.int .i64 0, .slice none 0 0]) BK125.out 0 _ rfl) 1 _ rfl⟩
    have n8_ : Aside0 (((w28.setCell ⟨gb125, 0, none⟩ (.int .i64 t113)).setCell ⟨gb125, 1, none⟩ (.slice none 0 0)).heap[gb126]? = some (.cells #[.int .i64 0, .slice none 0 0] 24 (0, 0))) := ⟨blk_far (blk_far BK126.out NB126_125.out _) NB126_125.out _⟩
    have n9_ : Aside0 (Below w.heap.size w ((w28.setCell ⟨gb125, 0, none⟩ (.int .i64 t113)).setCell ⟨gb125, 1, none⟩ (.slice none 0 0))) := ⟨below_set (below_set HB.out GE125.out) GE125.out⟩
    clear HO116 HO120 BK111 BK112 BK117 BK123 BK124 BK125 BK126 HB; generalize ((w28.setCell ⟨gb125, 0, none⟩ (.int .i64 t113)).setCell ⟨gb125, 1, none⟩ (.slice none 0 0)) = w29 at n0_ n1_ n2_ n3_ n4_ n5_ n6_ n7_ n8_ n9_ ⊢; have HO116 := n0_; have HO120 := n1_; have BK111 := n2_; have BK112 := n3_; have BK117 := n4_; have BK123 := n5_; have BK124 := n6_; have BK125 := n7_; have BK126 := n8_; have HB := n9_; clear n0_ n1_ n2_ n3_ n4_ n5_ n6_ n7_ n8_ n9_
    refine hK.out _ _ ⟨(blk_cell BK117.out 0).trans rfl, (blk_cell BK117.out 1).trans rfl⟩ (fun hHeld => ?_)
    clear hK K
    have hz0 : w29.cell? ⟨gb126, 0, none⟩ = some (.int .i64 0) := (blk_cell BK126.out 0).trans rfl
    have hz1 : w29.cell? ⟨gb126, 1, none⟩ = some (.slice none 0 0) := (blk_cell BK126.out 1).trans rfl
    have hf0 := blk_frozen BK126.out 0
    have hf1 := blk_frozen BK126.out 1
    refine one_ (i := 15) (N := none) #[true, true, true, true, true, true, true, true, true, true, true, true, true, true, true, true] rfl rfl (one_of HT_.out (by kernel_rfl)) (by decide) (fun K hK => ?_)
    refine skip_ (w1 := ?_) (by rfl) rfl ?_ ?_
    rotate_left
    ·
     go_simp
     rfl
    clear hz0 hz1 hf0 hf1
    have n0_ : Aside0 (Kd.R k47 47 ((w29.setCell ⟨gb126, 0, none⟩ (.int .i64 t113)).setCell ⟨gb126, 1, none⟩ (.slice none 0 0)) w.heap.size (fun _ => True) (.slice Ao19 t114.length co19) t114) := ⟨Kd.R_mono (Kd.R_far (p := ⟨gb126, 1, none⟩) (Kd.R_far (p := ⟨gb126, 0, none⟩) (Kd.R_types HO116.out BK126.out (by decide)) (fun _ hk => hk.2) (.int .i64 t113)) (fun _ hk => hk.2) (.slice none 0 0)) (fun _ hk => trivial)⟩
    have n1_ : Aside0 (Kd.R (Kd.int .i64) 3 ((w29.setCell ⟨gb126, 0, none⟩ (.int .i64 t113)).setCell ⟨gb126, 1, none⟩ (.slice none 0 0)) w.heap.size (fun _ => True) v119 t118) := ⟨Kd.R_mono (Kd.R_far (p := ⟨gb126, 1, none⟩) (Kd.R_far (p := ⟨gb126, 0, none⟩) (Kd.R_types HO120.out BK126.out (by decide)) (fun _ hk => hk.2) (.int .i64 t113)) (fun _ hk => hk.2) (.slice none 0 0)) (fun _ hk => trivial)⟩
    have n2_ : Aside0 (((w29.setCell ⟨gb126, 0, none⟩ (.int .i64 t113)).setCell ⟨gb126, 1, none⟩ (.slice none 0 0)).heap[gb111]? = some (.cells #[.int .u8 a0_0, .slice A0_1 l0_1.length c0_1] 74 (0, 0))) := ⟨blk_far (blk_far BK111.out NB111_126.out _) NB111_126.out _⟩
    have n3_ : Aside0 (((w29.setCell ⟨gb126, 0, none⟩ (.int .i64 t113)).setCell ⟨gb126, 1, none⟩ (.slice none 0 0)).heap[gb112]? = some (.cells #[.int .u8 a1_0, .int .u8 a1_1] 82 (0, 0))) := ⟨blk_far (blk_far BK112.out NB112_126.out _) NB112_126.out _⟩
    have n4_ : Aside0 (((w29.setCell ⟨gb126, 0, none⟩ (.int .i64 t113)).setCell ⟨gb126, 1, none⟩ (.slice none 0 0)).heap[gb117]? = some (.cells #[.int .i64 t113, .slice Ao19 t114.length co19] 24 (0, 0))) := ⟨blk_far (blk_far BK117.out NB117_126.out _) NB117_126.out _⟩
    have n5_ : Aside0 (((w29.setCell ⟨gb126, 0, none⟩ (.int .i64 t113)).setCell ⟨gb126, 1, none⟩ (.slice none 0 0)).heap[gb123]? = some (.cells #[.int .i64 t113, .slice Ao19 t114.length co19] 24 (0, 0))) := ⟨blk_far (blk_far BK123.out NB123_126.out _) NB123_126.out _⟩
    have n6_ : Aside0 (((w29.setCell ⟨gb126, 0, none⟩ (.int .i64 t113)).setCell ⟨gb126, 1, none⟩ (.slice none 0 0)).heap[gb124]? = some (.cells #[.int .i64 t113, .slice Ao19 t114.length co19] 24 (0, 0))) := ⟨blk_far (blk_far BK124.out NB124_126.out _) NB124_126.out _⟩
    have n7_ : Aside0 (((w29.setCell ⟨gb126, 0, none⟩ (.int .i64 t113)).setCell ⟨gb126, 1, none⟩ (.slice none 0 0)).heap[gb125]? = some (.cells #[.int .i64 t113, .slice none 0 0] 24 (0, 0))) := ⟨blk_far (blk_far BK125.out NB125_126.out _) NB125_126.out _⟩
    have n8_ : Aside0 (((w29.setCell ⟨gb126, 0, none⟩ (.int .i64 t113)).setCell ⟨gb126, 1, none⟩ (.slice none 0 0)).heap[gb126]? = some (.cells #[.int .i64 t113, .slice none 0 0] 24 (0, 0))) := ⟨blk_put (cs := #[.int .i64 t113, .slice none 0 0]) (blk_put (cs := #[.int .i64 0, .slice none 0 0]) BK126.out 0 _ rfl) 1 _ rfl⟩
    have n9_ : Aside0 (Below w.heap.size w ((w29.setCell ⟨gb126, 0, none⟩ (.int .i64 t113)).setCell ⟨gb126, 1, none⟩ (.slice none 0 0))) := ⟨below_set (below_set HB.out GE126.out) GE126.out⟩
    clear HO116 HO120 BK111 BK112 BK117 BK123 BK124 BK125 BK126 HB; generalize ((w29.setCell ⟨gb126, 0, none⟩ (.int .i64 t113)).setCell ⟨gb126, 1, none⟩ (.slice none 0 0)) = w49 at n0_ n1_ n2_ n3_ n4_ n5_ n6_ n7_ n8_ n9_ ⊢; have HO116 := n0_; have HO120 := n1_; have BK111 := n2_; have BK112 := n3_; have BK117 := n4_; have BK123 := n5_; have BK124 := n6_; have BK125 := n7_; have BK126 := n8_; have HB := n9_; clear n0_ n1_ n2_ n3_ n4_ n5_ n6_ n7_ n8_ n9_
    refine hK.out _ _ ⟨(blk_cell BK117.out 0).trans rfl, (blk_cell BK117.out 1).trans rfl⟩ (fun hHeld => ?_)
    clear hK K
    refine done_ (done_of HT_.out (by kernel_rfl)) ?_
    try go_wp2
    have n0_ := zA (Kd.R_drew HO116.out); have n1_ := zA (Kd.R_drew HO120.out); have n2_ := zA (blk_drew BK111.out); have n3_ := zA (blk_drew BK112.out); have n4_ := zA (blk_drew BK117.out); have n5_ := zA (blk_drew BK123.out); have n6_ := zA (blk_drew BK124.out); have n7_ := zA (blk_drew BK125.out); have n8_ := zA (blk_drew BK126.out); have n9_ := zA (below_drew1 HB.out); clear HO116 HO120 BK111 BK112 BK117 BK123 BK124 BK125 BK126 HB; have HO116 := n0_; have HO120 := n1_; have BK111 := n2_; have BK112 := n3_; have BK117 := n4_; have BK123 := n5_; have BK124 := n6_; have BK125 := n7_; have BK126 := n8_; have HB := n9_; clear n0_ n1_ n2_ n3_ n4_ n5_ n6_ n7_ n8_ n9_
    refine start_ (n := 17) (S := fun w' => w'.cell? ⟨gb117, 0, none⟩ = some (.int .i64 t113) ∧ w'.cell? ⟨gb117, 1, none⟩ = some (.slice Ao19 t114.length co19) ∧ w'.cell? ⟨gb112, 0, none⟩ = some (.int .u8 a1_0) ∧ w'.cell? ⟨gb112, 1, none⟩ = some (.int .u8 a1_1)) (ds := []) #[false, false, false, false, false, false, false, false, false, false, false, false, false, false, false, false, false] (by kernel_rfl) rfl rfl ⟨(blk_cell BK117.out 0).trans rfl, (blk_cell BK117.out 1).trans rfl, (blk_cell BK112.out 0).trans rfl, (blk_cell BK112.out 1).trans rfl⟩ (fun hHeld => ?_); refine with_tabW pianolalaw03_PunchMore.tab5 pianolalaw03_PunchMore.bits5 (fun HT_ HW_ => ?_)
    generalize w49.drew = w50 at HO116 HO120 BK111 BK112 BK117 BK123 BK124 BK125 BK126 HB hHeld ⊢
    refine pure_ (i := 1) (N := some 55) (v := ?_) (a' := ?_) #[false, true, false, false, false, false, false, false, false, false, false, false, false, false, false, false, false] rfl rfl (any_of HT_.out (by kernel_rfl)) (fun _ _ _ h => h) (Or.inl ⟨by rfl, ?_⟩) ?_ ?_
    rotate_left
    ·
     intro w'
     go_simp
     with_reducible rfl
    rotate_left
    · simp only [Act.put, setIfInBounds_toArray, set_cons_zero, set_cons_succ, i64_w, i32_w]; rfl
    refine pure_ (i := 4) (N := some 58) (v := ?_) (a' := ?_) #[false, true, false, false, true, false, false, false, false, false, false, false, false, false, false, false, false] rfl rfl (any_of HT_.out (by kernel_rfl)) (fun _ _ _ h => h) (Or.inl ⟨by rfl, ?_⟩) ?_ ?_
    rotate_left
    ·
     intro w'
     go_simp
     with_reducible rfl
    rotate_left
    · simp only [Act.put, setIfInBounds_toArray, set_cons_zero, set_cons_succ, i64_w, i32_w]; rfl
    refine pure_ (i := 5) (N := some 59) (v := ?_) (a' := ?_) #[false, true, false, false, true, true, false, false, false, false, false, false, false, false, false, false, false] rfl rfl (any_of HT_.out (by kernel_rfl)) (fun _ _ _ h => h) (Or.inl ⟨by rfl, ?_⟩) ?_ ?_
    rotate_left
    ·
     intro w'
     go_simp
     with_reducible rfl
    rotate_left
    · simp only [Act.put, setIfInBounds_toArray, set_cons_zero, set_cons_succ, i64_w, i32_w]; rfl
    refine pure_ (i := 6) (N := some 60) (v := ?_) (a' := ?_) #[false, true, false, false, true, true, true, false, false, false, false, false, false, false, false, false, false] rfl rfl (any_of HT_.out (by kernel_rfl)) (fun _ _ _ h => h) (Or.inl ⟨by rfl, ?_⟩) ?_ ?_
    rotate_left
    ·
     intro w'
     go_simp
     with_reducible rfl
    rotate_left
    · simp only [Act.put, setIfInBounds_toArray, set_cons_zero, set_cons_succ, i64_w, i32_w]; rfl
    refine pure_ (i := 7) (N := some 61) (v := ?_) (a' := ?_) #[false, true, false, false, true, true, true, true, false, false, false, false, false, false, false, false, false] rfl rfl (any_of HT_.out (by kernel_rfl)) (fun _ _ _ h => h) (Or.inl ⟨by rfl, ?_⟩) ?_ ?_
    rotate_left
    ·
     intro w'
     go_simp
     with_reducible rfl
    rotate_left
    · simp only [Act.put, setIfInBounds_toArray, set_cons_zero, set_cons_succ, i64_w, i32_w]; rfl
    refine take_ (i := 2) (N := some 56) (v := ?_) (a' := ?_) #[false, true, true, false, true, true, true, true, false, false, false, false, false, false, false, false, false] rfl rfl (take_ofW HT_.out HW_.out (by kernel_rfl)) (fun _ _ _ h => h) (Or.inl ⟨by rfl, ?_⟩) hHeld ?_ ?_
    rotate_left
    ·
     rintro w' ⟨s0, s1, s2, s3⟩
     go_simp
     with_reducible rfl
    rotate_left
    · simp only [Act.put, setIfInBounds_toArray, set_cons_zero, set_cons_succ, i64_w, i32_w]; rfl
    refine take_ (i := 8) (N := some 62) (v := ?_) (a' := ?_) #[false, true, true, false, true, true, true, true, true, false, false, false, false, false, false, false, false] rfl rfl (take_ofW HT_.out HW_.out (by kernel_rfl)) (fun _ _ _ h => h) (Or.inl ⟨by rfl, ?_⟩) hHeld ?_ ?_
    rotate_left
    ·
     rintro w' ⟨s0, s1, s2, s3⟩
     go_simp
     with_reducible rfl
    rotate_left
    · simp only [Act.put, setIfInBounds_toArray, set_cons_zero, set_cons_succ, i64_w, i32_w]; rfl
    refine pure_ (i := 9) (N := some 63) (v := ?_) (a' := ?_) #[false, true, true, false, true, true, true, true, true, true, false, false, false, false, false, false, false] rfl rfl (any_of HT_.out (by kernel_rfl)) (fun _ _ _ h => h) (Or.inl ⟨by rfl, ?_⟩) ?_ ?_
    rotate_left
    ·
     intro w'
     go_simp
     with_reducible rfl
    rotate_left
    · simp only [Act.put, setIfInBounds_toArray, set_cons_zero, set_cons_succ, i64_w, i32_w]; rfl
    refine pure_ (i := 10) (N := some 64) (v := ?_) (a' := ?_) #[false, true, true, false, true, true, true, true, true, true, true, false, false, false, false, false, false] rfl rfl (any_of HT_.out (by kernel_rfl)) (fun _ _ _ h => h) (Or.inl ⟨by rfl, ?_⟩) ?_ ?_
    rotate_left
    ·
     intro w'
     go_simp
     with_reducible rfl
    rotate_left
    · simp only [Act.put, setIfInBounds_toArray, set_cons_zero, set_cons_succ, i64_w, i32_w]; rfl
    refine pure_ (i := 11) (N := some 65) (v := ?_) (a' := ?_) #[false, true, true, false, true, true, true, true, true, true, true, true, false, false, false, false, false] rfl rfl (any_of HT_.out (by kernel_rfl)) (fun _ _ _ h => h) (Or.inl ⟨by rfl, ?_⟩) ?_ ?_
    rotate_left
    ·
     intro w'
     go_simp
     with_reducible rfl
    rotate_left
    · simp only [Act.put, setIfInBounds_toArray, set_cons_zero, set_cons_succ, i64_w, i32_w]; rfl
    refine pure_ (i := 12) (N := some 66) (v := ?_) (a' := ?_) #[false, true, true, false, true, true, true, true, true, true, true, true, true, false, false, false, false] rfl rfl (any_of HT_.out (by kernel_rfl)) (fun _ _ _ h => h) (Or.inl ⟨by rfl, ?_⟩) ?_ ?_
    rotate_left
    ·
     intro w'
     go_simp
     with_reducible rfl
    rotate_left
    · simp only [Act.put, setIfInBounds_toArray, set_cons_zero, set_cons_succ, i64_w, i32_w]; rfl
    refine join_ (σ := Value × Value × Value) 3 #[true, true, true, true, true, true, true, true, true, true, true, true, true, true, false, false, false] (fun s_ => [(54, s_.1), (57, s_.2.1), (67, s_.2.2)]) (fun s_ w' => (w'.cell? ⟨gb117, 0, none⟩ = some (.int .i64 t113) ∧ w'.cell? ⟨gb117, 1, none⟩ = some (.slice Ao19 t114.length co19) ∧ w'.cell? ⟨gb112, 0, none⟩ = some (.int .u8 a1_0) ∧ w'.cell? ⟨gb112, 1, none⟩ = some (.int .u8 a1_1)) ∧ (Kd.R k47 47 w' w.heap.size (fun k_ => some k_ ≠ (s_.2.1 : Value).ownBlock ∧ some k_ ≠ (s_.2.2 : Value).ownBlock) (.slice Ao19 t114.length co19) t114) ∧ (Kd.R (Kd.int .i64) 3 w' w.heap.size (fun _ => True) v119 t118) ∧ (Kd.R k47 47 w' w.heap.size (fun k_ => some k_ ≠ (.slice Ao19 t114.length co19 : Value).ownBlock ∧ some k_ ≠ (s_.2.2 : Value).ownBlock) s_.2.1 y130) ∧ (Kd.R k47 47 w' w.heap.size (fun k_ => some k_ ≠ (.slice Ao19 t114.length co19 : Value).ownBlock ∧ some k_ ≠ (s_.2.1 : Value).ownBlock) s_.2.2 y133) ∧ (w'.heap[gb111]? = some (.cells #[.int .u8 a0_0, .slice A0_1 l0_1.length c0_1] 74 (0, 0))) ∧ (w'.heap[gb112]? = some (.cells #[.int .u8 a1_0, .int .u8 a1_1] 82 (0, 0))) ∧ (w'.heap[gb117]? = some (.cells #[.int .i64 t113, .slice Ao19 t114.length co19] 24 (0, 0))) ∧ (w'.heap[gb123]? = some (.cells #[.int .i64 t113, .slice Ao19 t114.length co19] 24 (0, 0))) ∧ (w'.heap[gb124]? = some (.cells #[.int .i64 t113, .slice Ao19 t114.length co19] 24 (0, 0))) ∧ (w'.heap[gb125]? = some (.cells #[.int .i64 t113, .slice none 0 0] 24 (0, 0))) ∧ (w'.heap[gb126]? = some (.cells #[.int .i64 t113, .slice none 0 0] 24 (0, 0))) ∧ (Below w.heap.size w w')) ?_ ?_
    rotate_left
    ·
     intro hCont
     refine two_ (i := 0) (j := 13) (Ni := some 54) (Nj := some 67) #[true, true, true, false, true, true, true, true, true, true, true, true, true, false, false, false, false] #[false, true, true, false, true, true, true, true, true, true, true, true, true, true, false, false, false] rfl rfl rfl rfl (two_of HT_.out (by kernel_rfl)) (by decide) (by decide) (fun K hK => ?_) (fun K hK => ?_)
     ·
      refine Kd.R_lit_step k47 _ 47 ?hg (N := 54) ?hd (xs := ([] : List (S47))) (inner := []) (ok := fun _ => True) (okp := fun _ => True) ?hr ?hp (fun _ hk => hk) trivial (Below.refl _ _) (Nat.le_refl _) (by simp) ?_; (case hd => rfl); (case hg => rfl); (case hr => first | (go_simp; done) | (go_simp; rfl)); (case hp => exact (Reps.none _ _))
      intro v128 w51 ho52 hb hg_ hnew_
      clear hg_ hnew_
      (first | rw [← Ny127.out] at ho52 | (simp only [Int.reduceToNat] at ho52; rw [← Ny127.out] at ho52))
      have n0_ := zA (Kd.R_elder' (zqC HO116.out) (Kd.R_base ho52) hb); have n1_ := zA (Kd.R_below (zqC HO120.out) hb)
      have n2_ := zA (Kd.R_lower (Kd.R_new' ho52 (Kd.R_lt (zqC HO116.out))) (below_size (by repeat (first | (with_reducible first | exact HB.out | apply below_alloc | apply pw_below_drewN | apply below_drew1 | refine below_set ?_ GE111.out | refine below_set ?_ GE112.out | refine below_set ?_ GE117.out | refine below_set ?_ GE123.out | refine below_set ?_ GE124.out | refine below_set ?_ GE125.out | refine below_set ?_ GE126.out) | exact HB.out))))
      have n3_ := zA (blk_below (g := gb111) (o := .cells #[.int .u8 a0_0, .slice A0_1 l0_1.length c0_1] 74 (0, 0)) (zqB BK111.out) hb); have n4_ := zA (blk_below (g := gb112) (o := .cells #[.int .u8 a1_0, .int .u8 a1_1] 82 (0, 0)) (zqB BK112.out) hb); have n5_ := zA (blk_below (g := gb117) (o := .cells #[.int .i64 t113, .slice Ao19 t114.length co19] 24 (0, 0)) (zqB BK117.out) hb); have n6_ := zA (blk_below (g := gb123) (o := .cells #[.int .i64 t113, .slice Ao19 t114.length co19] 24 (0, 0)) (zqB BK123.out) hb); have n7_ := zA (blk_below (g := gb124) (o := .cells #[.int .i64 t113, .slice Ao19 t114.length co19] 24 (0, 0)) (zqB BK124.out) hb); have n8_ := zA (blk_below (g := gb125) (o := .cells #[.int .i64 t113, .slice none 0 0] 24 (0, 0)) (zqB BK125.out) hb); have n9_ := zA (blk_below (g := gb126) (o := .cells #[.int .i64 t113, .slice none 0 0] 24 (0, 0)) (zqB BK126.out) hb)
      have n10_ := zA (below_step (by repeat (first | (with_reducible first | exact HB.out | apply below_alloc | apply pw_below_drewN | apply below_drew1 | refine below_set ?_ GE111.out | refine below_set ?_ GE112.out | refine below_set ?_ GE117.out | refine below_set ?_ GE123.out | refine below_set ?_ GE124.out | refine below_set ?_ GE125.out | refine below_set ?_ GE126.out) | exact HB.out)) hb)
      clear HO116 HO120 BK111 BK112 BK117 BK123 BK124 BK125 BK126 HB; have HO116 := n0_; have HO120 := n1_; have HO129 := n2_; have BK111 := n3_; have BK112 := n4_; have BK117 := n5_; have BK123 := n6_; have BK124 := n7_; have BK125 := n8_; have BK126 := n9_; have HB := n10_; clear n0_ n1_ n2_ n3_ n4_ n5_ n6_ n7_ n8_ n9_ n10_ hb ho52
      refine hK.out _ _ ⟨(blk_cell BK117.out 0).trans rfl, (blk_cell BK117.out 1).trans rfl, (blk_cell BK112.out 0).trans rfl, (blk_cell BK112.out 1).trans rfl⟩ (fun hHeld => ?_)
      clear hK K; refine norm_ (a' := ?_) ?_ ?_; rotate_left
      · show Act.put _ (some 54) _ = _; simp only [Act.put, setIfInBounds_toArray, set_cons_zero, set_cons_succ, i64_w, i32_w]; rfl
      refine two_ (i := 3) (j := 13) (Ni := some 57) (Nj := some 67) #[true, true, true, true, true, true, true, true, true, true, true, true, true, false, false, false, false] #[true, true, true, false, true, true, true, true, true, true, true, true, true, true, false, false, false] rfl rfl rfl rfl (two_of HT_.out (by kernel_rfl)) (by decide) (by decide) (fun K hK => ?_) (fun K hK => ?_)
      ·
       refine Kd.R_append_rows_step k47 (w0 := w) w.heap.size (by rfl) (.tmp 54) (.tmp 56) 22 47 (.agg #[(.int .i64 0), (.int .i64 0)]) 16 rfl Try.underlying22 info47 rfl (by decide) (by omega) v128 y127 t114 _ _ _ (fun k_ => some k_ ≠ (.slice Ao19 t114.length co19 : Value).ownBlock) (fun _ => False) rfl rfl ?aO ?aR (fun _ _ h => h) (fun _ h => h.elim) ?aF ?aB ?aS ?aL ?_
       (case aR => repeat (first | exact (Kd.R_reads' HO116.out).2.2 | (with_reducible refine Kd.C_alloc ?_ _) | (with_reducible refine Kd.C_drewN ?_ _) | (with_reducible refine Kd.C_drew ?_)))
       (case aB => exact (by repeat (first | (with_reducible first | exact HB.out | apply below_alloc | apply pw_below_drewN | apply below_drew1 | refine below_set ?_ GE111.out | refine below_set ?_ GE112.out | refine below_set ?_ GE117.out | refine below_set ?_ GE123.out | refine below_set ?_ GE124.out | refine below_set ?_ GE125.out | refine below_set ?_ GE126.out) | exact HB.out)))
       (case aF => exact (fun k_ hk => Kd.fresh' (Kd.R_lt (zqC HO116.out)) k_ hk))
       (case aO => exact (by (with_reducible repeat (first | apply Kd.R_alloc | apply Kd.R_drewN | apply Kd.R_drew)); exact Kd.R_mono HO129.out (fun _ hk => hk.2)))
       (case aS => exact (below_size (by repeat (first | (with_reducible first | exact HB.out | apply below_alloc | apply pw_below_drewN | apply below_drew1 | refine below_set ?_ GE111.out | refine below_set ?_ GE112.out | refine below_set ?_ GE117.out | refine below_set ?_ GE123.out | refine below_set ?_ GE124.out | refine below_set ?_ GE125.out | refine below_set ?_ GE126.out) | exact HB.out))))
       (case aL => have := LMc8.out; omega)
       intro v131 w53 ho hb hg hat
       rw [← Ny130.out] at ho
       have n0_ := zA (blk_grown (g := gb111) (o := .cells #[.int .u8 a0_0, .slice A0_1 l0_1.length c0_1] 74 (0, 0)) (zqB BK111.out) hg (Kd.R_ne HO129.out BK111.out (by decide))); have n1_ := zA (blk_grown (g := gb112) (o := .cells #[.int .u8 a1_0, .int .u8 a1_1] 82 (0, 0)) (zqB BK112.out) hg (Kd.R_ne HO129.out BK112.out (by decide))); have n2_ := zA (Kd.R_after (ok := (fun _ => True)) (zqC HO116.out) hg hat); have n3_ := zA (blk_grown (g := gb117) (o := .cells #[.int .i64 t113, .slice Ao19 t114.length co19] 24 (0, 0)) (zqB BK117.out) hg (Kd.R_ne HO129.out BK117.out (by decide))); have n4_ := zA (Kd.R_over' (zqC HO120.out) (Kd.R_typed (zqC HO129.out)) (by decide) hg); have n5_ := zA (blk_grown (g := gb123) (o := .cells #[.int .i64 t113, .slice Ao19 t114.length co19] 24 (0, 0)) (zqB BK123.out) hg (Kd.R_ne HO129.out BK123.out (by decide))); have n6_ := zA (blk_grown (g := gb124) (o := .cells #[.int .i64 t113, .slice Ao19 t114.length co19] 24 (0, 0)) (zqB BK124.out) hg (Kd.R_ne HO129.out BK124.out (by decide))); have n7_ := zA (blk_grown (g := gb125) (o := .cells #[.int .i64 t113, .slice none 0 0] 24 (0, 0)) (zqB BK125.out) hg (Kd.R_ne HO129.out BK125.out (by decide))); have n8_ := zA (blk_grown (g := gb126) (o := .cells #[.int .i64 t113, .slice none 0 0] 24 (0, 0)) (zqB BK126.out) hg (Kd.R_ne HO129.out BK126.out (by decide))); have n9_ := zA (hb); have n10_ := zA (ho); clear BK111 BK112 HO116 BK117 HO120 BK123 BK124 BK125 BK126 HB HO129; have BK111 := n0_; have BK112 := n1_; have HO116 := n2_; have BK117 := n3_; have HO120 := n4_; have BK123 := n5_; have BK124 := n6_; have BK125 := n7_; have BK126 := n8_; have HB := n9_; have HO132 := n10_; clear n0_ n1_ n2_ n3_ n4_ n5_ n6_ n7_ n8_ n9_ n10_ ho hb hg hat
       refine hK.out _ _ ⟨(blk_cell BK117.out 0).trans rfl, (blk_cell BK117.out 1).trans rfl, (blk_cell BK112.out 0).trans rfl, (blk_cell BK112.out 1).trans rfl⟩ (fun hHeld => ?_)
       clear hK K; refine norm_ (a' := ?_) ?_ ?_; rotate_left
       · show Act.put _ (some 57) _ = _; simp only [Act.put, setIfInBounds_toArray, set_cons_zero, set_cons_succ, i64_w, i32_w]; rfl
       refine one_ (i := 13) (N := some 67) #[true, true, true, true, true, true, true, true, true, true, true, true, true, true, false, false, false] rfl rfl (one_of HT_.out (by kernel_rfl)) (by decide) (fun K hK => ?_)
       refine Kd.R_lit_step k47 _ 47 ?hg (N := 67) ?hd (xs := ([(⟨Int.tmod (wrap64 (a1_0)) 40, wrap64 ((wrap64 ((Int.tmod (wrap64 (a1_0)) 40) + 1)) + (Int.tmod (wrap64 (a1_1)) 12))⟩ : S47)] : List (S47))) (inner := [.int .i64 (Int.tmod (wrap64 (a1_0)) 40), .int .i64 (wrap64 ((wrap64 ((Int.tmod (wrap64 (a1_0)) 40) + 1)) + (Int.tmod (wrap64 (a1_1)) 12)))]) (ok := fun _ => True) (okp := fun _ => True) ?hr ?hp (fun _ hk => hk) trivial (Below.refl _ _) (Nat.le_refl _) (by simp) ?_; (case hd => rfl); (case hg => rfl); (case hr => first | (go_simp; done) | (go_simp; rfl)); (case hp => exact (Reps.c2 (show Kd.M k47 _ _ _ (⟨Int.tmod (wrap64 (a1_0)) 40, wrap64 ((wrap64 ((Int.tmod (wrap64 (a1_0)) 40) + 1)) + (Int.tmod (wrap64 (a1_1)) 12))⟩ : S47) [.int .i64 (Int.tmod (wrap64 (a1_0)) 40), .int .i64 (wrap64 ((wrap64 ((Int.tmod (wrap64 (a1_0)) 40) + 1)) + (Int.tmod (wrap64 (a1_1)) 12)))] from (k47_mkM _ _ _ (⟨Int.tmod (wrap64 (a1_0)) 40, wrap64 ((wrap64 ((Int.tmod (wrap64 (a1_0)) 40) + 1)) + (Int.tmod (wrap64 (a1_1)) 12))⟩ : S47) )) (Reps.none _ _)))
       intro v134 w54 ho55 hb hg_ hnew_
       clear hg_ hnew_
       (first | rw [← Ny133.out] at ho55 | (simp only [Int.reduceToNat] at ho55; rw [← Ny133.out] at ho55))
       have n0_ := zA (Kd.R_elder' (zqC HO116.out) (Kd.R_base ho55) hb); have n1_ := zA (Kd.R_below (zqC HO120.out) hb); have n2_ := zA (Kd.R_elder' (zqC HO132.out) (Kd.R_base ho55) hb)
       have n3_ := zA (Kd.R_lower (Kd.R_new' (Kd.R_new' ho55 (Kd.R_lt (zqC HO116.out))) (Kd.R_lt (zqC HO132.out))) (below_size (by repeat (first | (with_reducible first | exact HB.out | apply below_alloc | apply pw_below_drewN | apply below_drew1 | refine below_set ?_ GE111.out | refine below_set ?_ GE112.out | refine below_set ?_ GE117.out | refine below_set ?_ GE123.out | refine below_set ?_ GE124.out | refine below_set ?_ GE125.out | refine below_set ?_ GE126.out) | exact HB.out))))
       have n4_ := zA (blk_below (g := gb111) (o := .cells #[.int .u8 a0_0, .slice A0_1 l0_1.length c0_1] 74 (0, 0)) (zqB BK111.out) hb); have n5_ := zA (blk_below (g := gb112) (o := .cells #[.int .u8 a1_0, .int .u8 a1_1] 82 (0, 0)) (zqB BK112.out) hb); have n6_ := zA (blk_below (g := gb117) (o := .cells #[.int .i64 t113, .slice Ao19 t114.length co19] 24 (0, 0)) (zqB BK117.out) hb); have n7_ := zA (blk_below (g := gb123) (o := .cells #[.int .i64 t113, .slice Ao19 t114.length co19] 24 (0, 0)) (zqB BK123.out) hb); have n8_ := zA (blk_below (g := gb124) (o := .cells #[.int .i64 t113, .slice Ao19 t114.length co19] 24 (0, 0)) (zqB BK124.out) hb); have n9_ := zA (blk_below (g := gb125) (o := .cells #[.int .i64 t113, .slice none 0 0] 24 (0, 0)) (zqB BK125.out) hb); have n10_ := zA (blk_below (g := gb126) (o := .cells #[.int .i64 t113, .slice none 0 0] 24 (0, 0)) (zqB BK126.out) hb)
       have n11_ := zA (below_step (by repeat (first | (with_reducible first | exact HB.out | apply below_alloc | apply pw_below_drewN | apply below_drew1 | refine below_set ?_ GE111.out | refine below_set ?_ GE112.out | refine below_set ?_ GE117.out | refine below_set ?_ GE123.out | refine below_set ?_ GE124.out | refine below_set ?_ GE125.out | refine below_set ?_ GE126.out) | exact HB.out)) hb)
       clear HO116 HO120 HO132 BK111 BK112 BK117 BK123 BK124 BK125 BK126 HB; have HO116 := n0_; have HO120 := n1_; have HO132 := n2_; have HO135 := n3_; have BK111 := n4_; have BK112 := n5_; have BK117 := n6_; have BK123 := n7_; have BK124 := n8_; have BK125 := n9_; have BK126 := n10_; have HB := n11_; clear n0_ n1_ n2_ n3_ n4_ n5_ n6_ n7_ n8_ n9_ n10_ n11_ hb ho55
       refine hK.out _ _ ⟨(blk_cell BK117.out 0).trans rfl, (blk_cell BK117.out 1).trans rfl, (blk_cell BK112.out 0).trans rfl, (blk_cell BK112.out 1).trans rfl⟩ (fun hHeld => ?_)
       clear hK K; refine norm_ (a' := ?_) ?_ ?_; rotate_left
       · show Act.put _ (some 67) _ = _; simp only [Act.put, setIfInBounds_toArray, set_cons_zero, set_cons_succ, i64_w, i32_w]; rfl
       exact norm_ (by simp only [putAll, Act.put, setIfInBounds_toArray, set_cons_zero, set_cons_succ]) (hCont (v128, v131, v134) _ ⟨hHeld, (by (with_reducible repeat (first | apply Kd.R_alloc | apply Kd.R_drewN | apply Kd.R_drew)); exact Kd.R_mono HO116.out (fun _ hk => ⟨hk.1.2, hk.2⟩)), (zqC HO120.out), (zqC HO132.out), (by (with_reducible repeat (first | apply Kd.R_alloc | apply Kd.R_drewN | apply Kd.R_drew)); exact Kd.R_mono HO135.out (fun _ hk => ⟨hk.1.2, hk.2⟩)), (zqB BK111.out), (zqB BK112.out), (zqB BK117.out), (zqB BK123.out), (zqB BK124.out), (zqB BK125.out), (zqB BK126.out), (by repeat (first | (with_reducible first | exact HB.out | apply below_alloc | apply pw_below_drewN | apply below_drew1 | refine below_set ?_ GE111.out | refine below_set ?_ GE112.out | refine below_set ?_ GE117.out | refine below_set ?_ GE123.out | refine below_set ?_ GE124.out | refine below_set ?_ GE125.out | refine below_set ?_ GE126.out) | exact HB.out))⟩)
      ·
       refine Kd.R_lit_step k47 _ 47 ?hg (N := 67) ?hd (xs := ([(⟨Int.tmod (wrap64 (a1_0)) 40, wrap64 ((wrap64 ((Int.tmod (wrap64 (a1_0)) 40) + 1)) + (Int.tmod (wrap64 (a1_1)) 12))⟩ : S47)] : List (S47))) (inner := [.int .i64 (Int.tmod (wrap64 (a1_0)) 40), .int .i64 (wrap64 ((wrap64 ((Int.tmod (wrap64 (a1_0)) 40) + 1)) + (Int.tmod (wrap64 (a1_1)) 12)))]) (ok := fun _ => True) (okp := fun _ => True) ?hr ?hp (fun _ hk => hk) trivial (Below.refl _ _) (Nat.le_refl _) (by simp) ?_; (case hd => rfl); (case hg => rfl); (case hr => first | (go_simp; done) | (go_simp; rfl)); (case hp => exact (Reps.c2 (show Kd.M k47 _ _ _ (⟨Int.tmod (wrap64 (a1_0)) 40, wrap64 ((wrap64 ((Int.tmod (wrap64 (a1_0)) 40) + 1)) + (Int.tmod (wrap64 (a1_1)) 12))⟩ : S47) [.int .i64 (Int.tmod (wrap64 (a1_0)) 40), .int .i64 (wrap64 ((wrap64 ((Int.tmod (wrap64 (a1_0)) 40) + 1)) + (Int.tmod (wrap64 (a1_1)) 12)))] from (k47_mkM _ _ _ (⟨Int.tmod (wrap64 (a1_0)) 40, wrap64 ((wrap64 ((Int.tmod (wrap64 (a1_0)) 40) + 1)) + (Int.tmod (wrap64 (a1_1)) 12))⟩ : S47) )) (Reps.none _ _)))
       intro v134 w53 ho54 hb hg_ hnew_
       clear hg_ hnew_
       (first | rw [← Ny133.out] at ho54 | (simp only [Int.reduceToNat] at ho54; rw [← Ny133.out] at ho54))
       have n0_ := zA (Kd.R_elder' (zqC HO116.out) (Kd.R_base ho54) hb); have n1_ := zA (Kd.R_below (zqC HO120.out) hb); have n2_ := zA (Kd.R_elder' (zqC HO129.out) (Kd.R_base ho54) hb)
       have n3_ := zA (Kd.R_lower (Kd.R_new' (Kd.R_new' ho54 (Kd.R_lt (zqC HO116.out))) (Kd.R_lt (zqC HO129.out))) (below_size (by repeat (first | (with_reducible first | exact HB.out | apply below_alloc | apply pw_below_drewN | apply below_drew1 | refine below_set ?_ GE111.out | refine below_set ?_ GE112.out | refine below_set ?_ GE117.out | refine below_set ?_ GE123.out | refine below_set ?_ GE124.out | refine below_set ?_ GE125.out | refine below_set ?_ GE126.out) | exact HB.out))))
       have n4_ := zA (blk_below (g := gb111) (o := .cells #[.int .u8 a0_0, .slice A0_1 l0_1.length c0_1] 74 (0, 0)) (zqB BK111.out) hb); have n5_ := zA (blk_below (g := gb112) (o := .cells #[.int .u8 a1_0, .int .u8 a1_1] 82 (0, 0)) (zqB BK112.out) hb); have n6_ := zA (blk_below (g := gb117) (o := .cells #[.int .i64 t113, .slice Ao19 t114.length co19] 24 (0, 0)) (zqB BK117.out) hb); have n7_ := zA (blk_below (g := gb123) (o := .cells #[.int .i64 t113, .slice Ao19 t114.length co19] 24 (0, 0)) (zqB BK123.out) hb); have n8_ := zA (blk_below (g := gb124) (o := .cells #[.int .i64 t113, .slice Ao19 t114.length co19] 24 (0, 0)) (zqB BK124.out) hb); have n9_ := zA (blk_below (g := gb125) (o := .cells #[.int .i64 t113, .slice none 0 0] 24 (0, 0)) (zqB BK125.out) hb); have n10_ := zA (blk_below (g := gb126) (o := .cells #[.int .i64 t113, .slice none 0 0] 24 (0, 0)) (zqB BK126.out) hb)
       have n11_ := zA (below_step (by repeat (first | (with_reducible first | exact HB.out | apply below_alloc | apply pw_below_drewN | apply below_drew1 | refine below_set ?_ GE111.out | refine below_set ?_ GE112.out | refine below_set ?_ GE117.out | refine below_set ?_ GE123.out | refine below_set ?_ GE124.out | refine below_set ?_ GE125.out | refine below_set ?_ GE126.out) | exact HB.out)) hb)
       clear HO116 HO120 HO129 BK111 BK112 BK117 BK123 BK124 BK125 BK126 HB; have HO116 := n0_; have HO120 := n1_; have HO129 := n2_; have HO135 := n3_; have BK111 := n4_; have BK112 := n5_; have BK117 := n6_; have BK123 := n7_; have BK124 := n8_; have BK125 := n9_; have BK126 := n10_; have HB := n11_; clear n0_ n1_ n2_ n3_ n4_ n5_ n6_ n7_ n8_ n9_ n10_ n11_ hb ho54
       refine hK.out _ _ ⟨(blk_cell BK117.out 0).trans rfl, (blk_cell BK117.out 1).trans rfl, (blk_cell BK112.out 0).trans rfl, (blk_cell BK112.out 1).trans rfl⟩ (fun hHeld => ?_)
       clear hK K; refine norm_ (a' := ?_) ?_ ?_; rotate_left
       · show Act.put _ (some 67) _ = _; simp only [Act.put, setIfInBounds_toArray, set_cons_zero, set_cons_succ, i64_w, i32_w]; rfl
       refine one_ (i := 3) (N := some 57) #[true, true, true, true, true, true, true, true, true, true, true, true, true, true, false, false, false] rfl rfl (one_of HT_.out (by kernel_rfl)) (by decide) (fun K hK => ?_)
       refine Kd.R_append_rows_step k47 (w0 := w) w.heap.size (by rfl) (.tmp 54) (.tmp 56) 22 47 (.agg #[(.int .i64 0), (.int .i64 0)]) 16 rfl Try.underlying22 info47 rfl (by decide) (by omega) v128 y127 t114 _ _ _ (fun k_ => some k_ ≠ (.slice Ao19 t114.length co19 : Value).ownBlock ∧ some k_ ≠ (v134 : Value).ownBlock) (fun _ => False) rfl rfl ?aO ?aR (fun _ _ h => h) (fun _ h => h.elim) ?aF ?aB ?aS ?aL ?_
       (case aR => repeat (first | exact (Kd.R_reads' HO116.out).2.2 | (with_reducible refine Kd.C_alloc ?_ _) | (with_reducible refine Kd.C_drewN ?_ _) | (with_reducible refine Kd.C_drew ?_)))
       (case aB => exact (by repeat (first | (with_reducible first | exact HB.out | apply below_alloc | apply pw_below_drewN | apply below_drew1 | refine below_set ?_ GE111.out | refine below_set ?_ GE112.out | refine below_set ?_ GE117.out | refine below_set ?_ GE123.out | refine below_set ?_ GE124.out | refine below_set ?_ GE125.out | refine below_set ?_ GE126.out) | exact HB.out)))
       (case aF => exact (fun k_ hk => ⟨Kd.fresh' (Kd.R_lt (zqC HO116.out)) k_ hk, Kd.fresh' (Kd.R_lt (zqC HO135.out)) k_ hk⟩))
       (case aO => exact (by (with_reducible repeat (first | apply Kd.R_alloc | apply Kd.R_drewN | apply Kd.R_drew)); exact Kd.R_mono HO129.out (fun _ hk => ⟨hk.1.2, hk.2⟩)))
       (case aS => exact (below_size (by repeat (first | (with_reducible first | exact HB.out | apply below_alloc | apply pw_below_drewN | apply below_drew1 | refine below_set ?_ GE111.out | refine below_set ?_ GE112.out | refine below_set ?_ GE117.out | refine below_set ?_ GE123.out | refine below_set ?_ GE124.out | refine below_set ?_ GE125.out | refine below_set ?_ GE126.out) | exact HB.out))))
       (case aL => have := LMc8.out; omega)
       intro v131 w55 ho hb hg hat
       rw [← Ny130.out] at ho
       have n0_ := zA (blk_grown (g := gb111) (o := .cells #[.int .u8 a0_0, .slice A0_1 l0_1.length c0_1] 74 (0, 0)) (zqB BK111.out) hg (Kd.R_ne HO129.out BK111.out (by decide))); have n1_ := zA (blk_grown (g := gb112) (o := .cells #[.int .u8 a1_0, .int .u8 a1_1] 82 (0, 0)) (zqB BK112.out) hg (Kd.R_ne HO129.out BK112.out (by decide)))
       have n2_ := zA (Kd.R_after (ok := (fun k_ => some k_ ≠ (v134 : Value).ownBlock)) (by (with_reducible repeat (first | apply Kd.R_alloc | apply Kd.R_drewN | apply Kd.R_drew)); exact Kd.R_mono HO116.out (fun _ hk => ⟨hk.2, hk.1.2⟩)) hg hat)
       have n3_ := zA (blk_grown (g := gb117) (o := .cells #[.int .i64 t113, .slice Ao19 t114.length co19] 24 (0, 0)) (zqB BK117.out) hg (Kd.R_ne HO129.out BK117.out (by decide))); have n4_ := zA (Kd.R_over' (zqC HO120.out) (Kd.R_typed (zqC HO129.out)) (by decide) hg); have n5_ := zA (blk_grown (g := gb123) (o := .cells #[.int .i64 t113, .slice Ao19 t114.length co19] 24 (0, 0)) (zqB BK123.out) hg (Kd.R_ne HO129.out BK123.out (by decide))); have n6_ := zA (blk_grown (g := gb124) (o := .cells #[.int .i64 t113, .slice Ao19 t114.length co19] 24 (0, 0)) (zqB BK124.out) hg (Kd.R_ne HO129.out BK124.out (by decide))); have n7_ := zA (blk_grown (g := gb125) (o := .cells #[.int .i64 t113, .slice none 0 0] 24 (0, 0)) (zqB BK125.out) hg (Kd.R_ne HO129.out BK125.out (by decide))); have n8_ := zA (blk_grown (g := gb126) (o := .cells #[.int .i64 t113, .slice none 0 0] 24 (0, 0)) (zqB BK126.out) hg (Kd.R_ne HO129.out BK126.out (by decide)))
       have n9_ := zA (Kd.R_after (ok := (fun k_ => some k_ ≠ (.slice Ao19 t114.length co19 : Value).ownBlock)) (by (with_reducible repeat (first | apply Kd.R_alloc | apply Kd.R_drewN | apply Kd.R_drew)); exact Kd.R_mono HO135.out (fun _ hk => ⟨hk.1.2, hk.2⟩)) hg hat)
       have n10_ := zA (hb); have n11_ := zA (ho); clear BK111 BK112 HO116 BK117 HO120 BK123 BK124 BK125 BK126 HO135 HB HO129; have BK111 := n0_; have BK112 := n1_; have HO116 := n2_; have BK117 := n3_; have HO120 := n4_; have BK123 := n5_; have BK124 := n6_; have BK125 := n7_; have BK126 := n8_; have HO135 := n9_; have HB := n10_; have HO132 := n11_; clear n0_ n1_ n2_ n3_ n4_ n5_ n6_ n7_ n8_ n9_ n10_ n11_ ho hb hg hat
       refine hK.out _ _ ⟨(blk_cell BK117.out 0).trans rfl, (blk_cell BK117.out 1).trans rfl, (blk_cell BK112.out 0).trans rfl, (blk_cell BK112.out 1).trans rfl⟩ (fun hHeld => ?_)
       clear hK K; refine norm_ (a' := ?_) ?_ ?_; rotate_left
       · show Act.put _ (some 57) _ = _; simp only [Act.put, setIfInBounds_toArray, set_cons_zero, set_cons_succ, i64_w, i32_w]; rfl
       exact norm_ (by simp only [putAll, Act.put, setIfInBounds_toArray, set_cons_zero, set_cons_succ]) (hCont (v128, v131, v134) _ ⟨hHeld, (by (with_reducible repeat (first | apply Kd.R_alloc | apply Kd.R_drewN | apply Kd.R_drew)); exact Kd.R_mono HO116.out (fun _ hk => ⟨hk.2, hk.1⟩)), (zqC HO120.out), (zqC HO132.out), (zqC HO135.out), (zqB BK111.out), (zqB BK112.out), (zqB BK117.out), (zqB BK123.out), (zqB BK124.out), (zqB BK125.out), (zqB BK126.out), (by repeat (first | (with_reducible first | exact HB.out | apply below_alloc | apply pw_below_drewN | apply below_drew1 | refine below_set ?_ GE111.out | refine below_set ?_ GE112.out | refine below_set ?_ GE117.out | refine below_set ?_ GE123.out | refine below_set ?_ GE124.out | refine below_set ?_ GE125.out | refine below_set ?_ GE126.out) | exact HB.out))⟩)
     ·
      refine Kd.R_lit_step k47 _ 47 ?hg (N := 67) ?hd (xs := ([(⟨Int.tmod (wrap64 (a1_0)) 40, wrap64 ((wrap64 ((Int.tmod (wrap64 (a1_0)) 40) + 1)) + (Int.tmod (wrap64 (a1_1)) 12))⟩ : S47)] : List (S47))) (inner := [.int .i64 (Int.tmod (wrap64 (a1_0)) 40), .int .i64 (wrap64 ((wrap64 ((Int.tmod (wrap64 (a1_0)) 40) + 1)) + (Int.tmod (wrap64 (a1_1)) 12)))]) (ok := fun _ => True) (okp := fun _ => True) ?hr ?hp (fun _ hk => hk) trivial (Below.refl _ _) (Nat.le_refl _) (by simp) ?_; (case hd => rfl); (case hg => rfl); (case hr => first | (go_simp; done) | (go_simp; rfl)); (case hp => exact (Reps.c2 (show Kd.M k47 _ _ _ (⟨Int.tmod (wrap64 (a1_0)) 40, wrap64 ((wrap64 ((Int.tmod (wrap64 (a1_0)) 40) + 1)) + (Int.tmod (wrap64 (a1_1)) 12))⟩ : S47) [.int .i64 (Int.tmod (wrap64 (a1_0)) 40), .int .i64 (wrap64 ((wrap64 ((Int.tmod (wrap64 (a1_0)) 40) + 1)) + (Int.tmod (wrap64 (a1_1)) 12)))] from (k47_mkM _ _ _ (⟨Int.tmod (wrap64 (a1_0)) 40, wrap64 ((wrap64 ((Int.tmod (wrap64 (a1_0)) 40) + 1)) + (Int.tmod (wrap64 (a1_1)) 12))⟩ : S47) )) (Reps.none _ _)))
      intro v134 w51 ho52 hb hg_ hnew_
      clear hg_ hnew_
      (first | rw [← Ny133.out] at ho52 | (simp only [Int.reduceToNat] at ho52; rw [← Ny133.out] at ho52))
      have n0_ := zA (Kd.R_elder' (zqC HO116.out) (Kd.R_base ho52) hb); have n1_ := zA (Kd.R_below (zqC HO120.out) hb)
      have n2_ := zA (Kd.R_lower (Kd.R_new' ho52 (Kd.R_lt (zqC HO116.out))) (below_size (by repeat (first | (with_reducible first | exact HB.out | apply below_alloc | apply pw_below_drewN | apply below_drew1 | refine below_set ?_ GE111.out | refine below_set ?_ GE112.out | refine below_set ?_ GE117.out | refine below_set ?_ GE123.out | refine below_set ?_ GE124.out | refine below_set ?_ GE125.out | refine below_set ?_ GE126.out) | exact HB.out))))
      have n3_ := zA (blk_below (g := gb111) (o := .cells #[.int .u8 a0_0, .slice A0_1 l0_1.length c0_1] 74 (0, 0)) (zqB BK111.out) hb); have n4_ := zA (blk_below (g := gb112) (o := .cells #[.int .u8 a1_0, .int .u8 a1_1] 82 (0, 0)) (zqB BK112.out) hb); have n5_ := zA (blk_below (g := gb117) (o := .cells #[.int .i64 t113, .slice Ao19 t114.length co19] 24 (0, 0)) (zqB BK117.out) hb); have n6_ := zA (blk_below (g := gb123) (o := .cells #[.int .i64 t113, .slice Ao19 t114.length co19] 24 (0, 0)) (zqB BK123.out) hb); have n7_ := zA (blk_below (g := gb124) (o := .cells #[.int .i64 t113, .slice Ao19 t114.length co19] 24 (0, 0)) (zqB BK124.out) hb); have n8_ := zA (blk_below (g := gb125) (o := .cells #[.int .i64 t113, .slice none 0 0] 24 (0, 0)) (zqB BK125.out) hb); have n9_ := zA (blk_below (g := gb126) (o := .cells #[.int .i64 t113, .slice none 0 0] 24 (0, 0)) (zqB BK126.out) hb)
      have n10_ := zA (below_step (by repeat (first | (with_reducible first | exact HB.out | apply below_alloc | apply pw_below_drewN | apply below_drew1 | refine below_set ?_ GE111.out | refine below_set ?_ GE112.out | refine below_set ?_ GE117.out | refine below_set ?_ GE123.out | refine below_set ?_ GE124.out | refine below_set ?_ GE125.out | refine below_set ?_ GE126.out) | exact HB.out)) hb)
      clear HO116 HO120 BK111 BK112 BK117 BK123 BK124 BK125 BK126 HB; have HO116 := n0_; have HO120 := n1_; have HO135 := n2_; have BK111 := n3_; have BK112 := n4_; have BK117 := n5_; have BK123 := n6_; have BK124 := n7_; have BK125 := n8_; have BK126 := n9_; have HB := n10_; clear n0_ n1_ n2_ n3_ n4_ n5_ n6_ n7_ n8_ n9_ n10_ hb ho52
      refine hK.out _ _ ⟨(blk_cell BK117.out 0).trans rfl, (blk_cell BK117.out 1).trans rfl, (blk_cell BK112.out 0).trans rfl, (blk_cell BK112.out 1).trans rfl⟩ (fun hHeld => ?_)
      clear hK K; refine norm_ (a' := ?_) ?_ ?_; rotate_left
      · show Act.put _ (some 67) _ = _; simp only [Act.put, setIfInBounds_toArray, set_cons_zero, set_cons_succ, i64_w, i32_w]; rfl
      refine one_ (i := 0) (N := some 54) #[true, true, true, false, true, true, true, true, true, true, true, true, true, true, false, false, false] rfl rfl (one_of HT_.out (by kernel_rfl)) (by decide) (fun K hK => ?_)
      refine Kd.R_lit_step k47 _ 47 ?hg (N := 54) ?hd (xs := ([] : List (S47))) (inner := []) (ok := fun _ => True) (okp := fun _ => True) ?hr ?hp (fun _ hk => hk) trivial (Below.refl _ _) (Nat.le_refl _) (by simp) ?_; (case hd => rfl); (case hg => rfl); (case hr => first | (go_simp; done) | (go_simp; rfl)); (case hp => exact (Reps.none _ _))
      intro v128 w53 ho54 hb hg_ hnew_
      clear hg_ hnew_
      (first | rw [← Ny127.out] at ho54 | (simp only [Int.reduceToNat] at ho54; rw [← Ny127.out] at ho54))
      have n0_ := zA (Kd.R_elder' (zqC HO116.out) (Kd.R_base ho54) hb); have n1_ := zA (Kd.R_below (zqC HO120.out) hb); have n2_ := zA (Kd.R_elder' (zqC HO135.out) (Kd.R_base ho54) hb)
      have n3_ := zA (Kd.R_lower (Kd.R_new' (Kd.R_new' ho54 (Kd.R_lt (zqC HO116.out))) (Kd.R_lt (zqC HO135.out))) (below_size (by repeat (first | (with_reducible first | exact HB.out | apply below_alloc | apply pw_below_drewN | apply below_drew1 | refine below_set ?_ GE111.out | refine below_set ?_ GE112.out | refine below_set ?_ GE117.out | refine below_set ?_ GE123.out | refine below_set ?_ GE124.out | refine below_set ?_ GE125.out | refine below_set ?_ GE126.out) | exact HB.out))))
      have n4_ := zA (blk_below (g := gb111) (o := .cells #[.int .u8 a0_0, .slice A0_1 l0_1.length c0_1] 74 (0, 0)) (zqB BK111.out) hb); have n5_ := zA (blk_below (g := gb112) (o := .cells #[.int .u8 a1_0, .int .u8 a1_1] 82 (0, 0)) (zqB BK112.out) hb); have n6_ := zA (blk_below (g := gb117) (o := .cells #[.int .i64 t113, .slice Ao19 t114.length co19] 24 (0, 0)) (zqB BK117.out) hb); have n7_ := zA (blk_below (g := gb123) (o := .cells #[.int .i64 t113, .slice Ao19 t114.length co19] 24 (0, 0)) (zqB BK123.out) hb); have n8_ := zA (blk_below (g := gb124) (o := .cells #[.int .i64 t113, .slice Ao19 t114.length co19] 24 (0, 0)) (zqB BK124.out) hb); have n9_ := zA (blk_below (g := gb125) (o := .cells #[.int .i64 t113, .slice none 0 0] 24 (0, 0)) (zqB BK125.out) hb); have n10_ := zA (blk_below (g := gb126) (o := .cells #[.int .i64 t113, .slice none 0 0] 24 (0, 0)) (zqB BK126.out) hb)
      have n11_ := zA (below_step (by repeat (first | (with_reducible first | exact HB.out | apply below_alloc | apply pw_below_drewN | apply below_drew1 | refine below_set ?_ GE111.out | refine below_set ?_ GE112.out | refine below_set ?_ GE117.out | refine below_set ?_ GE123.out | refine below_set ?_ GE124.out | refine below_set ?_ GE125.out | refine below_set ?_ GE126.out) | exact HB.out)) hb)
      clear HO116 HO120 HO135 BK111 BK112 BK117 BK123 BK124 BK125 BK126 HB; have HO116 := n0_; have HO120 := n1_; have HO135 := n2_; have HO129 := n3_; have BK111 := n4_; have BK112 := n5_; have BK117 := n6_; have BK123 := n7_; have BK124 := n8_; have BK125 := n9_; have BK126 := n10_; have HB := n11_; clear n0_ n1_ n2_ n3_ n4_ n5_ n6_ n7_ n8_ n9_ n10_ n11_ hb ho54
      refine hK.out _ _ ⟨(blk_cell BK117.out 0).trans rfl, (blk_cell BK117.out 1).trans rfl, (blk_cell BK112.out 0).trans rfl, (blk_cell BK112.out 1).trans rfl⟩ (fun hHeld => ?_)
      clear hK K; refine norm_ (a' := ?_) ?_ ?_; rotate_left
      · show Act.put _ (some 54) _ = _; simp only [Act.put, setIfInBounds_toArray, set_cons_zero, set_cons_succ, i64_w, i32_w]; rfl
      refine one_ (i := 3) (N := some 57) #[true, true, true, true, true, true, true, true, true, true, true, true, true, true, false, false, false] rfl rfl (one_of HT_.out (by kernel_rfl)) (by decide) (fun K hK => ?_)
      refine Kd.R_append_rows_step k47 (w0 := w) w.heap.size (by rfl) (.tmp 54) (.tmp 56) 22 47 (.agg #[(.int .i64 0), (.int .i64 0)]) 16 rfl Try.underlying22 info47 rfl (by decide) (by omega) v128 y127 t114 _ _ _ (fun k_ => some k_ ≠ (.slice Ao19 t114.length co19 : Value).ownBlock ∧ some k_ ≠ (v134 : Value).ownBlock) (fun _ => False) rfl rfl ?aO ?aR (fun _ _ h => h) (fun _ h => h.elim) ?aF ?aB ?aS ?aL ?_
      (case aR => repeat (first | exact (Kd.R_reads' HO116.out).2.2 | (with_reducible refine Kd.C_alloc ?_ _) | (with_reducible refine Kd.C_drewN ?_ _) | (with_reducible refine Kd.C_drew ?_)))
      (case aB => exact (by repeat (first | (with_reducible first | exact HB.out | apply below_alloc | apply pw_below_drewN | apply below_drew1 | refine below_set ?_ GE111.out | refine below_set ?_ GE112.out | refine below_set ?_ GE117.out | refine below_set ?_ GE123.out | refine below_set ?_ GE124.out | refine below_set ?_ GE125.out | refine below_set ?_ GE126.out) | exact HB.out)))
      (case aF => exact (fun k_ hk => ⟨Kd.fresh' (Kd.R_lt (zqC HO116.out)) k_ hk, Kd.fresh' (Kd.R_lt (zqC HO135.out)) k_ hk⟩))
      (case aO => exact (by (with_reducible repeat (first | apply Kd.R_alloc | apply Kd.R_drewN | apply Kd.R_drew)); exact Kd.R_mono HO129.out (fun _ hk => ⟨hk.1.2, hk.2⟩)))
      (case aS => exact (below_size (by repeat (first | (with_reducible first | exact HB.out | apply below_alloc | apply pw_below_drewN | apply below_drew1 | refine below_set ?_ GE111.out | refine below_set ?_ GE112.out | refine below_set ?_ GE117.out | refine below_set ?_ GE123.out | refine below_set ?_ GE124.out | refine below_set ?_ GE125.out | refine below_set ?_ GE126.out) | exact HB.out))))
      (case aL => have := LMc8.out; omega)
      intro v131 w55 ho hb hg hat
      rw [← Ny130.out] at ho
      have n0_ := zA (blk_grown (g := gb111) (o := .cells #[.int .u8 a0_0, .slice A0_1 l0_1.length c0_1] 74 (0, 0)) (zqB BK111.out) hg (Kd.R_ne HO129.out BK111.out (by decide))); have n1_ := zA (blk_grown (g := gb112) (o := .cells #[.int .u8 a1_0, .int .u8 a1_1] 82 (0, 0)) (zqB BK112.out) hg (Kd.R_ne HO129.out BK112.out (by decide)))
      have n2_ := zA (Kd.R_after (ok := (fun k_ => some k_ ≠ (v134 : Value).ownBlock)) (by (with_reducible repeat (first | apply Kd.R_alloc | apply Kd.R_drewN | apply Kd.R_drew)); exact Kd.R_mono HO116.out (fun _ hk => ⟨hk.1.2, hk.2⟩)) hg hat)
      have n3_ := zA (blk_grown (g := gb117) (o := .cells #[.int .i64 t113, .slice Ao19 t114.length co19] 24 (0, 0)) (zqB BK117.out) hg (Kd.R_ne HO129.out BK117.out (by decide))); have n4_ := zA (Kd.R_over' (zqC HO120.out) (Kd.R_typed (zqC HO129.out)) (by decide) hg); have n5_ := zA (blk_grown (g := gb123) (o := .cells #[.int .i64 t113, .slice Ao19 t114.length co19] 24 (0, 0)) (zqB BK123.out) hg (Kd.R_ne HO129.out BK123.out (by decide))); have n6_ := zA (blk_grown (g := gb124) (o := .cells #[.int .i64 t113, .slice Ao19 t114.length co19] 24 (0, 0)) (zqB BK124.out) hg (Kd.R_ne HO129.out BK124.out (by decide))); have n7_ := zA (blk_grown (g := gb125) (o := .cells #[.int .i64 t113, .slice none 0 0] 24 (0, 0)) (zqB BK125.out) hg (Kd.R_ne HO129.out BK125.out (by decide))); have n8_ := zA (blk_grown (g := gb126) (o := .cells #[.int .i64 t113, .slice none 0 0] 24 (0, 0)) (zqB BK126.out) hg (Kd.R_ne HO129.out BK126.out (by decide)))
      have n9_ := zA (Kd.R_after (ok := (fun k_ => some k_ ≠ (.slice Ao19 t114.length co19 : Value).ownBlock)) (by (with_reducible repeat (first | apply Kd.R_alloc | apply Kd.R_drewN | apply Kd.R_drew)); exact Kd.R_mono HO135.out (fun _ hk => ⟨hk.1.2, hk.2⟩)) hg hat)
      have n10_ := zA (hb); have n11_ := zA (ho); clear BK111 BK112 HO116 BK117 HO120 BK123 BK124 BK125 BK126 HO135 HB HO129; have BK111 := n0_; have BK112 := n1_; have HO116 := n2_; have BK117 := n3_; have HO120 := n4_; have BK123 := n5_; have BK124 := n6_; have BK125 := n7_; have BK126 := n8_; have HO135 := n9_; have HB := n10_; have HO132 := n11_; clear n0_ n1_ n2_ n3_ n4_ n5_ n6_ n7_ n8_ n9_ n10_ n11_ ho hb hg hat
      refine hK.out _ _ ⟨(blk_cell BK117.out 0).trans rfl, (blk_cell BK117.out 1).trans rfl, (blk_cell BK112.out 0).trans rfl, (blk_cell BK112.out 1).trans rfl⟩ (fun hHeld => ?_)
      clear hK K; refine norm_ (a' := ?_) ?_ ?_; rotate_left
      · show Act.put _ (some 57) _ = _; simp only [Act.put, setIfInBounds_toArray, set_cons_zero, set_cons_succ, i64_w, i32_w]; rfl
      exact norm_ (by simp only [putAll, Act.put, setIfInBounds_toArray, set_cons_zero, set_cons_succ]) (hCont (v128, v131, v134) _ ⟨hHeld, (by (with_reducible repeat (first | apply Kd.R_alloc | apply Kd.R_drewN | apply Kd.R_drew)); exact Kd.R_mono HO116.out (fun _ hk => ⟨hk.2, hk.1⟩)), (zqC HO120.out), (zqC HO132.out), (zqC HO135.out), (zqB BK111.out), (zqB BK112.out), (zqB BK117.out), (zqB BK123.out), (zqB BK124.out), (zqB BK125.out), (zqB BK126.out), (by repeat (first | (with_reducible first | exact HB.out | apply below_alloc | apply pw_below_drewN | apply below_drew1 | refine below_set ?_ GE111.out | refine below_set ?_ GE112.out | refine below_set ?_ GE117.out | refine below_set ?_ GE123.out | refine below_set ?_ GE124.out | refine below_set ?_ GE125.out | refine below_set ?_ GE126.out) | exact HB.out))⟩)
    rintro ⟨v128, v131, v134⟩ w56 ⟨hS_, h0_, h1_, h2_, h3_, h4_, h5_, h6_, h7_, h8_, h9_, h10_, h11_⟩
    have n0_ : Aside0 (Kd.R k47 47 w56 w.heap.size (fun k_ => some k_ ≠ (v131 : Value).ownBlock ∧ some k_ ≠ (v134 : Value).ownBlock) (.slice Ao19 t114.length co19) t114) := ⟨h0_⟩
    have n1_ : Aside0 (Kd.R (Kd.int .i64) 3 w56 w.heap.size (fun _ => True) v119 t118) := ⟨h1_⟩
    have n2_ : Aside0 (Kd.R k47 47 w56 w.heap.size (fun k_ => some k_ ≠ (.slice Ao19 t114.length co19 : Value).ownBlock ∧ some k_ ≠ (v134 : Value).ownBlock) v131 y130) := ⟨h2_⟩
    have n3_ : Aside0 (Kd.R k47 47 w56 w.heap.size (fun k_ => some k_ ≠ (.slice Ao19 t114.length co19 : Value).ownBlock ∧ some k_ ≠ (v131 : Value).ownBlock) v134 y133) := ⟨h3_⟩
    have n4_ : Aside0 (w56.heap[gb111]? = some (.cells #[.int .u8 a0_0, .slice A0_1 l0_1.length c0_1] 74 (0, 0))) := ⟨h4_⟩
    have n5_ : Aside0 (w56.heap[gb112]? = some (.cells #[.int .u8 a1_0, .int .u8 a1_1] 82 (0, 0))) := ⟨h5_⟩
    have n6_ : Aside0 (w56.heap[gb117]? = some (.cells #[.int .i64 t113, .slice Ao19 t114.length co19] 24 (0, 0))) := ⟨h6_⟩
    have n7_ : Aside0 (w56.heap[gb123]? = some (.cells #[.int .i64 t113, .slice Ao19 t114.length co19] 24 (0, 0))) := ⟨h7_⟩
    have n8_ : Aside0 (w56.heap[gb124]? = some (.cells #[.int .i64 t113, .slice Ao19 t114.length co19] 24 (0, 0))) := ⟨h8_⟩
    have n9_ : Aside0 (w56.heap[gb125]? = some (.cells #[.int .i64 t113, .slice none 0 0] 24 (0, 0))) := ⟨h9_⟩
    have n10_ : Aside0 (w56.heap[gb126]? = some (.cells #[.int .i64 t113, .slice none 0 0] 24 (0, 0))) := ⟨h10_⟩
    have n11_ : Aside0 (Below w.heap.size w w56) := ⟨h11_⟩
    clear HO116 HO120 BK111 BK112 BK117 BK123 BK124 BK125 BK126 HB h0_ h1_ h2_ h3_ h4_ h5_ h6_ h7_ h8_ h9_ h10_ h11_; have HO116 := n0_; have HO120 := n1_; have HO132 := n2_; have HO135 := n3_; have BK111 := n4_; have BK112 := n5_; have BK117 := n6_; have BK123 := n7_; have BK124 := n8_; have BK125 := n9_; have BK126 := n10_; have HB := n11_; clear n0_ n1_ n2_ n3_ n4_ n5_ n6_ n7_ n8_ n9_ n10_ n11_
    have hHeld : w56.cell? ⟨gb117, 0, none⟩ = some (.int .i64 t113) ∧ w56.cell? ⟨gb117, 1, none⟩ = some (.slice Ao19 t114.length co19) ∧ w56.cell? ⟨gb112, 0, none⟩ = some (.int .u8 a1_0) ∧ w56.cell? ⟨gb112, 1, none⟩ = some (.int .u8 a1_1) := hS_
    obtain ⟨Ao58, co58, eo58⟩ := Kd.R_slice HO135.out
    (first | subst eo58 | (injection eo58 with f1_ f2_ f3_; have f4_ := f1_.symm; have f5_ := f3_.symm; clear f1_ f2_ f3_; subst f4_; subst f5_))
    refine norm_ (a' := ?_) ?_ ?_; rotate_left
    · simp only [putAll, Act.put, setIfInBounds_toArray, set_cons_zero, set_cons_succ]; rfl
    refine one_ (i := 14) (N := some 68) #[true, true, true, true, true, true, true, true, true, true, true, true, true, true, true, false, false] rfl rfl (one_of HT_.out (by kernel_rfl)) (by decide) (fun K hK => ?_)
    refine Kd.R_append_rows_step k47 (w0 := w) w.heap.size (by rfl) (.tmp 57) (.tmp 67) 22 47 (.agg #[(.int .i64 0), (.int .i64 0)]) 16 rfl Try.underlying22 info47 rfl (by decide) (by omega) v131 y130 y133 _ _ _ (fun k_ => some k_ ≠ (.slice Ao19 t114.length co19 : Value).ownBlock ∧ some k_ ≠ (.slice Ao58 y133.length co58 : Value).ownBlock) (fun _ => False) rfl rfl ?aO ?aR (fun _ _ h => h) (fun _ h => h.elim) ?aF ?aB ?aS ?aL ?_
    (case aR => repeat (first | exact (Kd.R_reads' HO135.out).2.2 | (with_reducible refine Kd.C_alloc ?_ _) | (with_reducible refine Kd.C_drewN ?_ _) | (with_reducible refine Kd.C_drew ?_)))
    (case aB => exact (by repeat (first | (with_reducible first | exact HB.out | apply below_alloc | apply pw_below_drewN | apply below_drew1 | refine below_set ?_ GE111.out | refine below_set ?_ GE112.out | refine below_set ?_ GE117.out | refine below_set ?_ GE123.out | refine below_set ?_ GE124.out | refine below_set ?_ GE125.out | refine below_set ?_ GE126.out) | exact HB.out)))
    (case aF => exact (fun k_ hk => ⟨Kd.fresh' (Kd.R_lt (zqC HO116.out)) k_ hk, Kd.fresh' (Kd.R_lt (zqC HO135.out)) k_ hk⟩))
    (case aO => exact (zqC HO132.out))
    (case aS => exact (below_size (by repeat (first | (with_reducible first | exact HB.out | apply below_alloc | apply pw_below_drewN | apply below_drew1 | refine below_set ?_ GE111.out | refine below_set ?_ GE112.out | refine below_set ?_ GE117.out | refine below_set ?_ GE123.out | refine below_set ?_ GE124.out | refine below_set ?_ GE125.out | refine below_set ?_ GE126.out) | exact HB.out))))
    (case aL => have := LMc9.out; omega)
    intro v137 w57 ho hb hg hat
    rw [← Ny136.out] at ho
    have n0_ := zA (blk_grown (g := gb111) (o := .cells #[.int .u8 a0_0, .slice A0_1 l0_1.length c0_1] 74 (0, 0)) (zqB BK111.out) hg (Kd.R_ne HO132.out BK111.out (by decide))); have n1_ := zA (blk_grown (g := gb112) (o := .cells #[.int .u8 a1_0, .int .u8 a1_1] 82 (0, 0)) (zqB BK112.out) hg (Kd.R_ne HO132.out BK112.out (by decide)))
    have n2_ := zA (Kd.R_after (ok := (fun k_ => some k_ ≠ (.slice Ao58 y133.length co58 : Value).ownBlock)) (by (with_reducible repeat (first | apply Kd.R_alloc | apply Kd.R_drewN | apply Kd.R_drew)); exact Kd.R_mono HO116.out (fun _ hk => ⟨hk.2, hk.1⟩)) hg hat)
    have n3_ := zA (blk_grown (g := gb117) (o := .cells #[.int .i64 t113, .slice Ao19 t114.length co19] 24 (0, 0)) (zqB BK117.out) hg (Kd.R_ne HO132.out BK117.out (by decide))); have n4_ := zA (Kd.R_over' (zqC HO120.out) (Kd.R_typed (zqC HO132.out)) (by decide) hg); have n5_ := zA (blk_grown (g := gb123) (o := .cells #[.int .i64 t113, .slice Ao19 t114.length co19] 24 (0, 0)) (zqB BK123.out) hg (Kd.R_ne HO132.out BK123.out (by decide))); have n6_ := zA (blk_grown (g := gb124) (o := .cells #[.int .i64 t113, .slice Ao19 t114.length co19] 24 (0, 0)) (zqB BK124.out) hg (Kd.R_ne HO132.out BK124.out (by decide))); have n7_ := zA (blk_grown (g := gb125) (o := .cells #[.int .i64 t113, .slice none 0 0] 24 (0, 0)) (zqB BK125.out) hg (Kd.R_ne HO132.out BK125.out (by decide))); have n8_ := zA (blk_grown (g := gb126) (o := .cells #[.int .i64 t113, .slice none 0 0] 24 (0, 0)) (zqB BK126.out) hg (Kd.R_ne HO132.out BK126.out (by decide))); have n9_ := zA (Kd.R_after (ok := (fun k_ => some k_ ≠ (.slice Ao19 t114.length co19 : Value).ownBlock)) (zqC HO135.out) hg hat); have n10_ := zA (hb); have n11_ := zA (ho); clear BK111 BK112 HO116 BK117 HO120 BK123 BK124 BK125 BK126 HO135 HB HO132; have BK111 := n0_; have BK112 := n1_; have HO116 := n2_; have BK117 := n3_; have HO120 := n4_; have BK123 := n5_; have BK124 := n6_; have BK125 := n7_; have BK126 := n8_; have HO135 := n9_; have HB := n10_; have HO138 := n11_; clear n0_ n1_ n2_ n3_ n4_ n5_ n6_ n7_ n8_ n9_ n10_ n11_ ho hb hg hat
    obtain ⟨Ao59, co59, eo59⟩ := Kd.R_slice HO138.out
    (first | subst eo59 | (injection eo59 with f1_ f2_ f3_; have f4_ := f1_.symm; have f5_ := f3_.symm; clear f1_ f2_ f3_; subst f4_; subst f5_))
    refine hK.out _ _ ⟨(blk_cell BK117.out 0).trans rfl, (blk_cell BK117.out 1).trans rfl, (blk_cell BK112.out 0).trans rfl, (blk_cell BK112.out 1).trans rfl⟩ (fun hHeld => ?_)
    clear hK K; refine norm_ (a' := ?_) ?_ ?_; rotate_left
    · show Act.put _ (some 68) _ = _; simp only [Act.put, setIfInBounds_toArray, set_cons_zero, set_cons_succ, i64_w, i32_w]; rfl
    refine pure_ (i := 15) (N := some 69) (v := ?_) (a' := ?_) #[true, true, true, true, true, true, true, true, true, true, true, true, true, true, true, true, false] rfl rfl (any_of HT_.out (by kernel_rfl)) (fun _ _ _ h => h) (Or.inl ⟨by rfl, ?_⟩) ?_ ?_
    rotate_left
    ·
     intro w'
     go_simp
     with_reducible rfl
    rotate_left
    · simp only [Act.put, setIfInBounds_toArray, set_cons_zero, set_cons_succ, i64_w, i32_w]; rfl
    refine one_ (i := 16) (N := none) #[true, true, true, true, true, true, true, true, true, true, true, true, true, true, true, true, true] rfl rfl (one_of HT_.out (by kernel_rfl)) (by decide) (fun K hK => ?_)
    have hs60 : w57.cell? ⟨gb123, 1, none⟩ = some (.slice Ao19 t114.length co19) := (blk_cell BK123.out 1).trans rfl
    have hfs60 := blk_frozen BK123.out 1
    have hns60_0 := NB111_123.out
    have hns60_1 := NB112_123.out
    have hns60_2 := NB117_123.out
    have hns60_4 := NB124_123.out
    have hns60_5 := NB125_123.out
    have hns60_6 := NB126_123.out
    have hms60_0 := NB123_111.out
    have hms60_1 := NB123_112.out
    have hms60_2 := NB123_117.out
    have hms60_4 := NB123_124.out
    have hms60_5 := NB123_125.out
    have hms60_6 := NB123_126.out
    refine skip_ (w1 := ?_) (by rfl) rfl ?_ ?_
    rotate_left
    ·
     go_simp
     rfl
    refine hK.out _ _ ⟨((cell_far (p := ⟨gb123, _, none⟩) NB117_123.out _).trans (hHeld.1)), ((cell_far (p := ⟨gb123, _, none⟩) NB117_123.out _).trans (hHeld.2.1)), ((cell_far (p := ⟨gb123, _, none⟩) NB112_123.out _).trans (hHeld.2.2.1)), ((cell_far (p := ⟨gb123, _, none⟩) NB112_123.out _).trans (hHeld.2.2.2))⟩ (fun hHeld => ?_)
    clear hK K
    refine done_ (done_of HT_.out (by kernel_rfl)) ?_
    have hcz61_0 : w57.cell? ⟨gb124, 0, none⟩ = some (.int .i64 t113) := (blk_cell BK124.out 0).trans rfl
    have hcz61_1 : w57.cell? ⟨gb124, 1, none⟩ = some (.slice Ao19 t114.length co19) := (blk_cell BK124.out 1).trans rfl
    have hfz61_0 := blk_frozen BK124.out 0
    have hfz61_1 := blk_frozen BK124.out 1
    have hcz62_0 : w57.cell? ⟨gb117, 0, none⟩ = some (.int .i64 t113) := (blk_cell BK117.out 0).trans rfl
    have hcz62_1 : w57.cell? ⟨gb117, 1, none⟩ = some (.slice Ao19 t114.length co19) := (blk_cell BK117.out 1).trans rfl
    have hfz62_0 := blk_frozen BK117.out 0
    have hfz62_1 := blk_frozen BK117.out 1
    try go_wp2
    go_loopg [79] k (fun kq v79 w' => ∃ (x79_1 : Int) (x126001_1 : List (S47)) (x127001_1 : List (S47)) (u126001 : Value) (u127001 : Value), v79 = .int .i64 x79_1 ∧ Aside0 (pianolalaw03_PunchMore.l0 kq a3 a4 t118 t121 t122 t114 (t114.length : Int) x79_1 t113 t114 t113 y136 (wrap64 (t113 + (wrap64 (a2)))) t114 t113 x126001_1 t113 x127001_1 = some r) ∧ Aside0 (kq ≤ k) ∧ Aside0 (Kd.R (Kd.int .i64) 3 w' w.heap.size (fun _ => True) v119 t118) ∧ Aside0 (Kd.R k47 47 w' w.heap.size (fun k_ => some k_ ≠ ((.slice Ao59 y136.length co59) : Value).ownBlock ∧ some k_ ≠ (u126001 : Value).ownBlock ∧ some k_ ≠ (u127001 : Value).ownBlock) (.slice Ao19 t114.length co19) t114) ∧ Aside0 (Kd.R k47 47 w' w.heap.size (fun k_ => some k_ ≠ ((.slice Ao59 y136.length co59) : Value).ownBlock ∧ some k_ ≠ (u126001 : Value).ownBlock ∧ some k_ ≠ (u127001 : Value).ownBlock) (.slice Ao19 t114.length co19) t114) ∧ Aside0 (Kd.R k47 47 w' w.heap.size (fun k_ => some k_ ≠ ((.slice Ao19 t114.length co19) : Value).ownBlock ∧ some k_ ≠ ((.slice Ao19 t114.length co19) : Value).ownBlock ∧ some k_ ≠ ((.slice Ao19 t114.length co19) : Value).ownBlock ∧ some k_ ≠ (u126001 : Value).ownBlock ∧ some k_ ≠ (u127001 : Value).ownBlock) (.slice Ao59 y136.length co59) y136) ∧ Aside0 (Kd.R k47 47 w' w.heap.size (fun k_ => some k_ ≠ ((.slice Ao59 y136.length co59) : Value).ownBlock ∧ some k_ ≠ (u126001 : Value).ownBlock ∧ some k_ ≠ (u127001 : Value).ownBlock) (.slice Ao19 t114.length co19) t114) ∧ Aside0 (Kd.R k47 47 w' w.heap.size (fun k_ => some k_ ≠ ((.slice Ao19 t114.length co19) : Value).ownBlock ∧ some k_ ≠ ((.slice Ao19 t114.length co19) : Value).ownBlock ∧ some k_ ≠ ((.slice Ao59 y136.length co59) : Value).ownBlock ∧ some k_ ≠ ((.slice Ao19 t114.length co19) : Value).ownBlock ∧ some k_ ≠ (u127001 : Value).ownBlock) u126001 x126001_1) ∧ Aside0 (Kd.R k47 47 w' w.heap.size (fun k_ => some k_ ≠ ((.slice Ao19 t114.length co19) : Value).ownBlock ∧ some k_ ≠ ((.slice Ao19 t114.length co19) : Value).ownBlock ∧ some k_ ≠ ((.slice Ao59 y136.length co59) : Value).ownBlock ∧ some k_ ≠ ((.slice Ao19 t114.length co19) : Value).ownBlock ∧ some k_ ≠ (u126001 : Value).ownBlock) u127001 x127001_1) ∧ Aside0 (w'.heap[gb111]? = some (.cells #[.int .u8 a0_0, (.slice A0_1 l0_1.length c0_1)] 74 (0, 0))) ∧ Aside0 (w'.heap[gb112]? = some (.cells #[.int .u8 a1_0, .int .u8 a1_1] 82 (0, 0))) ∧ Aside0 (w'.heap[gb117]? = some (.cells #[.int .i64 t113, (.slice Ao19 t114.length co19)] 24 (0, 0))) ∧ Aside0 (w'.heap[gb123]? = some (.cells #[.int .i64 t113, (.slice Ao59 y136.length co59)] 24 (0, 0))) ∧ Aside0 (w'.heap[gb124]? = some (.cells #[.int .i64 (wrap64 (t113 + (wrap64 (a2)))), (.slice Ao19 t114.length co19)] 24 (0, 0))) ∧ Aside0 (w'.heap[gb125]? = some (.cells #[.int .i64 t113, u126001] 24 (0, 0))) ∧ Aside0 (w'.heap[gb126]? = some (.cells #[.int .i64 t113, u127001] 24 (0, 0))) ∧ Aside0 (Below w.heap.size w w'))
    case atStart => exact ⟨(0), (([] : List (S47))), (([] : List (S47))), (.slice none 0 0), (.slice none 0 0), zqQ, H', ⟨Nat.le_refl _⟩, ⟨by (with_reducible repeat (first | apply Kd.R_alloc | apply Kd.R_drewN | apply Kd.R_drew)); exact Kd.R_mono (Kd.R_far (p := ⟨gb124, 0, none⟩) (Kd.R_far (p := ⟨gb123, 1, none⟩) (Kd.R_types (Kd.R_types HO120.out BK123.out (by decide)) BK124.out (by decide)) (fun _ hk => hk.1.2) (.slice Ao59 y136.length co59)) (fun _ hk => hk.2) (.int .i64 (wrap64 (t113 + (wrap64 (a2)))))) (fun _ hk => trivial)⟩, ⟨by (with_reducible repeat (first | apply Kd.R_alloc | apply Kd.R_drewN | apply Kd.R_drew)); exact Kd.R_mono (Kd.R_far (p := ⟨gb124, 0, none⟩) (Kd.R_far (p := ⟨gb123, 1, none⟩) (Kd.R_types (Kd.R_types HO116.out BK123.out (by decide)) BK124.out (by decide)) (fun _ hk => hk.1.2) (.slice Ao59 y136.length co59)) (fun _ hk => hk.2) (.int .i64 (wrap64 (t113 + (wrap64 (a2)))))) (fun _ hk => ⟨hk.1.1.2, ⟨(by simp [Value.ownBlock]), (by simp [Value.ownBlock])⟩⟩)⟩, ⟨by (with_reducible repeat (first | apply Kd.R_alloc | apply Kd.R_drewN | apply Kd.R_drew)); exact Kd.R_mono (Kd.R_far (p := ⟨gb124, 0, none⟩) (Kd.R_far (p := ⟨gb123, 1, none⟩) (Kd.R_types (Kd.R_types HO116.out BK123.out (by decide)) BK124.out (by decide)) (fun _ hk => hk.1.2) (.slice Ao59 y136.length co59)) (fun _ hk => hk.2) (.int .i64 (wrap64 (t113 + (wrap64 (a2)))))) (fun _ hk => ⟨hk.1.1.2, ⟨(by simp [Value.ownBlock]), (by simp [Value.ownBlock])⟩⟩)⟩, ⟨by (with_reducible repeat (first | apply Kd.R_alloc | apply Kd.R_drewN | apply Kd.R_drew)); exact Kd.R_mono (Kd.R_far (p := ⟨gb124, 0, none⟩) (Kd.R_far (p := ⟨gb123, 1, none⟩) (Kd.R_types (Kd.R_types HO138.out BK123.out (by decide)) BK124.out (by decide)) (fun _ hk => hk.1.2) (.slice Ao59 y136.length co59)) (fun _ hk => hk.2) (.int .i64 (wrap64 (t113 + (wrap64 (a2)))))) (fun _ hk => ⟨hk.1.1.1, ⟨hk.1.1.1, ⟨hk.1.1.1, ⟨(by simp [Value.ownBlock]), (by simp [Value.ownBlock])⟩⟩⟩⟩)⟩, ⟨by (with_reducible repeat (first | apply Kd.R_alloc | apply Kd.R_drewN | apply Kd.R_drew)); exact Kd.R_mono (Kd.R_far (p := ⟨gb124, 0, none⟩) (Kd.R_far (p := ⟨gb123, 1, none⟩) (Kd.R_types (Kd.R_types HO116.out BK123.out (by decide)) BK124.out (by decide)) (fun _ hk => hk.1.2) (.slice Ao59 y136.length co59)) (fun _ hk => hk.2) (.int .i64 (wrap64 (t113 + (wrap64 (a2)))))) (fun _ hk => ⟨hk.1.1.2, ⟨(by simp [Value.ownBlock]), (by simp [Value.ownBlock])⟩⟩)⟩, ⟨by first | exact Kd.R_nil _ _ _ _ _ | exact Kd.N_nil _ _ _ _ _ | exact Kd.V_nil _ _ _ _ _ | exact Kd.Q_nil _ _ _ _ _ | exact Kd.S_nil _ _ _ _ _⟩, ⟨by first | exact Kd.R_nil _ _ _ _ _ | exact Kd.N_nil _ _ _ _ _ | exact Kd.V_nil _ _ _ _ _ | exact Kd.Q_nil _ _ _ _ _ | exact Kd.S_nil _ _ _ _ _⟩, ⟨by (with_reducible repeat (first | refine blk_drewN ?_ _ | refine blk_drew ?_ | refine blk_alloc ?_ _)); refine blk_far ?_ NB111_124.out _; (with_reducible repeat (first | refine blk_drewN ?_ _ | refine blk_drew ?_ | refine blk_alloc ?_ _)); refine blk_far ?_ NB111_123.out _; (with_reducible repeat (first | refine blk_drewN ?_ _ | refine blk_drew ?_ | refine blk_alloc ?_ _)); exact BK111.out⟩, ⟨by (with_reducible repeat (first | refine blk_drewN ?_ _ | refine blk_drew ?_ | refine blk_alloc ?_ _)); refine blk_far ?_ NB112_124.out _; (with_reducible repeat (first | refine blk_drewN ?_ _ | refine blk_drew ?_ | refine blk_alloc ?_ _)); refine blk_far ?_ NB112_123.out _; (with_reducible repeat (first | refine blk_drewN ?_ _ | refine blk_drew ?_ | refine blk_alloc ?_ _)); exact BK112.out⟩, ⟨by (with_reducible repeat (first | refine blk_drewN ?_ _ | refine blk_drew ?_ | refine blk_alloc ?_ _)); refine blk_far ?_ NB117_124.out _; (with_reducible repeat (first | refine blk_drewN ?_ _ | refine blk_drew ?_ | refine blk_alloc ?_ _)); refine blk_far ?_ NB117_123.out _; (with_reducible repeat (first | refine blk_drewN ?_ _ | refine blk_drew ?_ | refine blk_alloc ?_ _)); exact BK117.out⟩, ⟨by (with_reducible repeat (first | refine blk_drewN ?_ _ | refine blk_drew ?_ | refine blk_alloc ?_ _)); refine blk_far ?_ NB123_124.out _; (with_reducible repeat (first | refine blk_drewN ?_ _ | refine blk_drew ?_ | refine blk_alloc ?_ _)); refine blk_put (cs := #[.int .i64 t113, .slice Ao19 t114.length co19]) ?_ 1 _ rfl; (with_reducible repeat (first | refine blk_drewN ?_ _ | refine blk_drew ?_ | refine blk_alloc ?_ _)); exact BK123.out⟩, ⟨by (with_reducible repeat (first | refine blk_drewN ?_ _ | refine blk_drew ?_ | refine blk_alloc ?_ _)); refine blk_put (cs := #[.int .i64 t113, .slice Ao19 t114.length co19]) ?_ 0 _ rfl; (with_reducible repeat (first | refine blk_drewN ?_ _ | refine blk_drew ?_ | refine blk_alloc ?_ _)); refine blk_far ?_ NB124_123.out _; (with_reducible repeat (first | refine blk_drewN ?_ _ | refine blk_drew ?_ | refine blk_alloc ?_ _)); exact BK124.out⟩, ⟨by (with_reducible repeat (first | refine blk_drewN ?_ _ | refine blk_drew ?_ | refine blk_alloc ?_ _)); refine blk_far ?_ NB125_124.out _; (with_reducible repeat (first | refine blk_drewN ?_ _ | refine blk_drew ?_ | refine blk_alloc ?_ _)); refine blk_far ?_ NB125_123.out _; (with_reducible repeat (first | refine blk_drewN ?_ _ | refine blk_drew ?_ | refine blk_alloc ?_ _)); exact BK125.out⟩, ⟨by (with_reducible repeat (first | refine blk_drewN ?_ _ | refine blk_drew ?_ | refine blk_alloc ?_ _)); refine blk_far ?_ NB126_124.out _; (with_reducible repeat (first | refine blk_drewN ?_ _ | refine blk_drew ?_ | refine blk_alloc ?_ _)); refine blk_far ?_ NB126_123.out _; (with_reducible repeat (first | refine blk_drewN ?_ _ | refine blk_drew ?_ | refine blk_alloc ?_ _)); exact BK126.out⟩, ⟨by repeat (first | (with_reducible first | exact HB.out | apply below_alloc | apply pw_below_drewN | apply below_drew1 | refine below_set ?_ GE111.out | refine below_set ?_ GE112.out | refine below_set ?_ GE117.out | refine below_set ?_ GE123.out | refine below_set ?_ GE124.out | refine below_set ?_ GE125.out | refine below_set ?_ GE126.out) | exact HB.out)⟩⟩
    case round => as_aux_lemma =>
     clear H'
     try clear c2
     try clear p2
     try clear p6
     try clear c8
     try clear c9
     try clear hcz61_0
     try clear hcz61_1
     try clear hcz62_0
     try clear hcz62_1
     try clear hfz61_0
     try clear hfz61_1
     try clear hfz62_0
     try clear hfz62_1
     try clear HO_12
     try clear HO_77
     try clear HO_118001
     try clear HO_124001
     try clear HO_125001
     try clear HO_126001
     try clear HO_127001
     try clear BK111
     try clear BK112
     try clear BK117
     try clear BK123
     try clear BK124
     try clear BK125
     try clear BK126
     try clear HB
     try clear hHeld
     try clear hs60
     try clear hfs60
     try clear HO116
     try clear HO135
     try clear HO138
     try clear HO120
     try clear HT_
     try clear HW_
     try clear hS_
     try clear hHeld
     try clear hs60
     try clear hfs60
     try clear HO116
     try clear HO135
     try clear HO138
     try clear HO120
     try clear HT_
     try clear HW_
     try clear hS_
     try clear hHeld
     try clear hHeld
     try clear hHeld
     try clear hHeld
     obtain ⟨x79_1, x126001_1, x127001_1, u126001, u127001, rfl, HA, HK1, HO_12, HO_77, HO_118001, HO_124001, HO_125001, HO_126001, HO_127001, BK111, BK112, BK117, BK123, BK124, BK125, BK126, HB⟩ := hrel
     cases gk with
     | zero => exact absurd HA.out (by simp [pianolalaw03_PunchMore.l0])
     | succ k1 =>
      have H := HA.out
      clear HA
      simp only [pianolalaw03_PunchMore.l0] at H
      by_cases c63 : x79_1 < (t114.length : Int)
      ·
       rw [if_pos c63] at H
       have c63b0 : decide (x79_1 < (t114.length : Int)) = true := decide_eq_true c63
       clear c63
       by_cases c64 : 0 ≤ x79_1
       ·
        rw [if_pos c64] at H
        have c64b0 : decide (0 ≤ x79_1) = true := decide_eq_true c64
        clear c64
        by_cases c65 : x79_1 < (t114.length : Int)
        ·
         rw [if_pos c65] at H
         have c65b0 : decide (x79_1 < (t114.length : Int)) = true := decide_eq_true c65
         clear c65
         by_cases c66 : (t114.length : Int) = 0
         ·
          rw [if_pos c66] at H
          exact absurd H (by simp)
         ·
          rw [if_neg c66] at H
          have c66b0 : ((t114.length : Int) == 0) = false := beq_eq_false_iff_ne.mpr c66
          have c66b1 : ((t114.length : Int) != 0) = true := bne_iff_ne.mpr c66
          have c66b2 : ¬ (t114 = []) := fun h_ => c66 (by rw [h_]; rfl)
          obtain ⟨ji67, hji67⟩ : ∃ j_ : Int, (Int.tmod (wrap64 (x79_1 + (wrap64 (a4)))) (t114.length : Int)) = j_ := ⟨_, rfl⟩
          replace H : (if 0 ≤ (ji67) then (if (ji67) < (t114.length : Int) then ((some (([(⟨(rd_T47 t114 (ji67)).f0, (rd_T47 t114 (ji67)).f1⟩ : S47)] : List (S47)) : List (S47))).bind fun y142 => (if x126001_1.length + y142.length < 8796093022208 then ((some (([(⟨wrap64 (((rd_T47 t114 x79_1).f0) + (wrap64 (a3))), wrap64 (((rd_T47 t114 x79_1).f1) + (wrap64 (a3)))⟩ : S47)] : List (S47)) : List (S47))).bind fun y148 => (if x127001_1.length + y148.length < 8796093022208 then (pianolalaw03_PunchMore.l0 k1 a3 a4 t118 t121 t122 t114 (t114.length : Int) (wrap64 (x79_1 + 1)) t113 t114 t113 y136 (wrap64 (t113 + (wrap64 (a2)))) t114 t113 (x126001_1 ++ y142) t113 (x127001_1 ++ y148)) else (none))) else (none))) else (none)) else (none)) = some r := by first | (rw [hji67] at H; exact H) | (simp only [hji67] at H ⊢; exact H)
          by_cases c68 : 0 ≤ (ji67)
          ·
           rw [if_pos c68] at H
           have c68b0 : decide (0 ≤ (ji67)) = true := decide_eq_true c68
           clear c68
           by_cases c69 : (ji67) < (t114.length : Int)
           ·
            rw [if_pos c69] at H
            have c69b0 : decide ((ji67) < (t114.length : Int)) = true := decide_eq_true c69
            clear c69
            obtain ⟨y142, hy142⟩ : ∃ y_ : List (S47), y_ = (([(⟨(rd_T47 t114 (ji67)).f0, (rd_T47 t114 (ji67)).f1⟩ : S47)] : List (S47))) := ⟨_, rfl⟩
            replace H : (if x126001_1.length + y142.length < 8796093022208 then ((some (([(⟨wrap64 (((rd_T47 t114 x79_1).f0) + (wrap64 (a3))), wrap64 (((rd_T47 t114 x79_1).f1) + (wrap64 (a3)))⟩ : S47)] : List (S47)) : List (S47))).bind fun y148 => (if x127001_1.length + y148.length < 8796093022208 then (pianolalaw03_PunchMore.l0 k1 a3 a4 t118 t121 t122 t114 (t114.length : Int) (wrap64 (x79_1 + 1)) t113 t114 t113 y136 (wrap64 (t113 + (wrap64 (a2)))) t114 t113 (x126001_1 ++ y142) t113 (x127001_1 ++ y148)) else (none))) else (none)) = some r := zqF hy142 H
            have Ny142 := zA hy142
            clear hy142
            by_cases c70 : x126001_1.length + y142.length < 8796093022208
            ·
             rw [if_pos c70] at H
             have LMc70 := zA c70
             clear c70
             obtain ⟨y145, hy145⟩ : ∃ y_ : List (S47), y_ = (x126001_1 ++ y142) := ⟨_, rfl⟩
             replace H : ((some (([(⟨wrap64 (((rd_T47 t114 x79_1).f0) + (wrap64 (a3))), wrap64 (((rd_T47 t114 x79_1).f1) + (wrap64 (a3)))⟩ : S47)] : List (S47)) : List (S47))).bind fun y148 => (if x127001_1.length + y148.length < 8796093022208 then (pianolalaw03_PunchMore.l0 k1 a3 a4 t118 t121 t122 t114 (t114.length : Int) (wrap64 (x79_1 + 1)) t113 t114 t113 y136 (wrap64 (t113 + (wrap64 (a2)))) t114 t113 y145 t113 (x127001_1 ++ y148)) else (none))) = some r := zqF hy145 H
             have Ny145 := zA hy145
             clear hy145
             obtain ⟨y148, hy148⟩ : ∃ y_ : List (S47), y_ = (([(⟨wrap64 (((rd_T47 t114 x79_1).f0) + (wrap64 (a3))), wrap64 (((rd_T47 t114 x79_1).f1) + (wrap64 (a3)))⟩ : S47)] : List (S47))) := ⟨_, rfl⟩
             replace H : (if x127001_1.length + y148.length < 8796093022208 then (pianolalaw03_PunchMore.l0 k1 a3 a4 t118 t121 t122 t114 (t114.length : Int) (wrap64 (x79_1 + 1)) t113 t114 t113 y136 (wrap64 (t113 + (wrap64 (a2)))) t114 t113 y145 t113 (x127001_1 ++ y148)) else (none)) = some r := zqF hy148 H
             have Ny148 := zA hy148
             clear hy148
             by_cases c71 : x127001_1.length + y148.length < 8796093022208
             ·
              rw [if_pos c71] at H
              have LMc71 := zA c71
              clear c71
              obtain ⟨y151, hy151⟩ : ∃ y_ : List (S47), y_ = (x127001_1 ++ y148) := ⟨_, rfl⟩
              replace H : (pianolalaw03_PunchMore.l0 k1 a3 a4 t118 t121 t122 t114 (t114.length : Int) (wrap64 (x79_1 + 1)) t113 t114 t113 y136 (wrap64 (t113 + (wrap64 (a2)))) t114 t113 y145 t113 y151) = some r := zqF hy151 H
              have Ny151 := zA hy151
              clear hy151
              have H' := zA H
              clear H
              have p139 : 0 ≤ (x79_1 : Int) := of_decide_eq_true (zqD)
              have q139 : x79_1 < (t114.length : Int) := of_decide_eq_true (zqD)
              obtain ⟨ad139, e139, hx139_0, hx139_1⟩ := at_T47 (Kd.R_reads' HO_77.out).2.2 x79_1 p139 q139
              cases e139; replace p139 := eq_true p139; replace q139 := eq_true q139
              try go_wp2_with (first | ((with_reducible refine gate_dst (N := 21) rfl ?_); refine box_event ?hg (N := 21) ?hd (cs := #[.int .i64 0, .int .i64 0]) (t := 47) ?hr ?_; (case hd => rfl); (case hg => rfl); (case hr => first | (go_simp; done) | (go_simp; rfl)); intro gb140 hg w72 hbox hb; have n0_ := zA (Kd.R_below (zqC HO_12.out) hb); have n1_ := zA (Kd.R_below (Kd.R_elderB (zqC HO_77.out) gb140 (Nat.le_of_eq hg.symm)) hb); have n2_ := zA (Kd.R_below (Kd.R_elderB (zqC HO_118001.out) gb140 (Nat.le_of_eq hg.symm)) hb); have n3_ := zA (Kd.R_below (Kd.R_elderB (zqC HO_124001.out) gb140 (Nat.le_of_eq hg.symm)) hb); have n4_ := zA (Kd.R_below (Kd.R_elderB (zqC HO_125001.out) gb140 (Nat.le_of_eq hg.symm)) hb); have n5_ := zA (Kd.R_below (Kd.R_elderB (zqC HO_126001.out) gb140 (Nat.le_of_eq hg.symm)) hb); have n6_ := zA (Kd.R_below (Kd.R_elderB (zqC HO_127001.out) gb140 (Nat.le_of_eq hg.symm)) hb); have n7_ := zA (blk_below (g := gb111) (o := .cells #[.int .u8 a0_0, .slice A0_1 l0_1.length c0_1] 74 (0, 0)) (zqB BK111.out) hb); have n8_ := zA (blk_below (g := gb112) (o := .cells #[.int .u8 a1_0, .int .u8 a1_1] 82 (0, 0)) (zqB BK112.out) hb); have n9_ := zA (blk_below (g := gb117) (o := .cells #[.int .i64 t113, .slice (some ad139) t114.length co19] 24 (0, 0)) (zqB BK117.out) hb); have n10_ := zA (blk_below (g := gb123) (o := .cells #[.int .i64 t113, .slice Ao59 y136.length co59] 24 (0, 0)) (zqB BK123.out) hb); have n11_ := zA (blk_below (g := gb124) (o := .cells #[.int .i64 (wrap64 (t113 + (wrap64 (a2)))), .slice (some ad139) t114.length co19] 24 (0, 0)) (zqB BK124.out) hb); have n12_ := zA (blk_below (g := gb125) (o := .cells #[.int .i64 t113, u126001] 24 (0, 0)) (zqB BK125.out) hb); have n13_ := zA (blk_below (g := gb126) (o := .cells #[.int .i64 t113, u127001] 24 (0, 0)) (zqB BK126.out) hb); have n14_ := zA (below_step (by repeat (first | (with_reducible first | exact HB.out | apply below_alloc | apply pw_below_drewN | apply below_drew1 | refine below_set ?_ GE111.out | refine below_set ?_ GE112.out | refine below_set ?_ GE117.out | refine below_set ?_ GE123.out | refine below_set ?_ GE124.out | refine below_set ?_ GE125.out | refine below_set ?_ GE126.out) | exact HB.out)) hb); have n15_ := zA (hbox); have n16_ := zA ((by rw [hg]; exact (below_size (by repeat (first | (with_reducible first | exact HB.out | apply below_alloc | apply pw_below_drewN | apply below_drew1 | refine below_set ?_ GE111.out | refine below_set ?_ GE112.out | refine below_set ?_ GE117.out | refine below_set ?_ GE123.out | refine below_set ?_ GE124.out | refine below_set ?_ GE125.out | refine below_set ?_ GE126.out) | exact HB.out))) : w.heap.size ≤ gb140)); have n17_ := zA ((by rw [hg]; exact (below_size (by repeat (first | (with_reducible first | exact HB.out | apply below_alloc | apply pw_below_drewN | apply below_drew1 | refine below_set ?_ GE111.out | refine below_set ?_ GE112.out | refine below_set ?_ GE117.out | refine below_set ?_ GE123.out | refine below_set ?_ GE124.out | refine below_set ?_ GE125.out | refine below_set ?_ GE126.out) | exact HB.out))) : w.heap.size ≤ gb140)); have n18_ := zA ((by rw [hg]; exact Nat.ne_of_lt (blk_lt (g := gb111) (o := .cells #[.int .u8 a0_0, .slice A0_1 l0_1.length c0_1] 74 (0, 0)) (zqB BK111.out)) : gb111 ≠ gb140)); have n19_ := zA ((by rw [hg]; exact Nat.ne_of_gt (blk_lt (g := gb111) (o := .cells #[.int .u8 a0_0, .slice A0_1 l0_1.length c0_1] 74 (0, 0)) (zqB BK111.out)) : gb140 ≠ gb111)); have n20_ := zA ((by rw [hg]; exact Nat.ne_of_lt (blk_lt (g := gb112) (o := .cells #[.int .u8 a1_0, .int .u8 a1_1] 82 (0, 0)) (zqB BK112.out)) : gb112 ≠ gb140)); have n21_ := zA ((by rw [hg]; exact Nat.ne_of_gt (blk_lt (g := gb112) (o := .cells #[.int .u8 a1_0, .int .u8 a1_1] 82 (0, 0)) (zqB BK112.out)) : gb140 ≠ gb112)); have n22_ := zA ((by rw [hg]; exact Nat.ne_of_lt (blk_lt (g := gb117) (o := .cells #[.int .i64 t113, .slice (some ad139) t114.length co19] 24 (0, 0)) (zqB BK117.out)) : gb117 ≠ gb140)); have n23_ := zA ((by rw [hg]; exact Nat.ne_of_gt (blk_lt (g := gb117) (o := .cells #[.int .i64 t113, .slice (some ad139) t114.length co19] 24 (0, 0)) (zqB BK117.out)) : gb140 ≠ gb117)); have n24_ := zA ((by rw [hg]; exact Nat.ne_of_lt (blk_lt (g := gb123) (o := .cells #[.int .i64 t113, .slice Ao59 y136.length co59] 24 (0, 0)) (zqB BK123.out)) : gb123 ≠ gb140)); have n25_ := zA ((by rw [hg]; exact Nat.ne_of_gt (blk_lt (g := gb123) (o := .cells #[.int .i64 t113, .slice Ao59 y136.length co59] 24 (0, 0)) (zqB BK123.out)) : gb140 ≠ gb123)); have n26_ := zA ((by rw [hg]; exact Nat.ne_of_lt (blk_lt (g := gb124) (o := .cells #[.int .i64 (wrap64 (t113 + (wrap64 (a2)))), .slice (some ad139) t114.length co19] 24 (0, 0)) (zqB BK124.out)) : gb124 ≠ gb140)); have n27_ := zA ((by rw [hg]; exact Nat.ne_of_gt (blk_lt (g := gb124) (o := .cells #[.int .i64 (wrap64 (t113 + (wrap64 (a2)))), .slice (some ad139) t114.length co19] 24 (0, 0)) (zqB BK124.out)) : gb140 ≠ gb124)); have n28_ := zA ((by rw [hg]; exact Nat.ne_of_lt (blk_lt (g := gb125) (o := .cells #[.int .i64 t113, u126001] 24 (0, 0)) (zqB BK125.out)) : gb125 ≠ gb140)); have n29_ := zA ((by rw [hg]; exact Nat.ne_of_gt (blk_lt (g := gb125) (o := .cells #[.int .i64 t113, u126001] 24 (0, 0)) (zqB BK125.out)) : gb140 ≠ gb125)); have n30_ := zA ((by rw [hg]; exact Nat.ne_of_lt (blk_lt (g := gb126) (o := .cells #[.int .i64 t113, u127001] 24 (0, 0)) (zqB BK126.out)) : gb126 ≠ gb140)); have n31_ := zA ((by rw [hg]; exact Nat.ne_of_gt (blk_lt (g := gb126) (o := .cells #[.int .i64 t113, u127001] 24 (0, 0)) (zqB BK126.out)) : gb140 ≠ gb126)); clear HO_12; clear HO_77; clear HO_118001; clear HO_124001; clear HO_125001; clear HO_126001; clear HO_127001; clear BK111; clear BK112; clear BK117; clear BK123; clear BK124; clear BK125; clear BK126; clear HB; have HO_12 := n0_; have HO_77 := n1_; have HO_118001 := n2_; have HO_124001 := n3_; have HO_125001 := n4_; have HO_126001 := n5_; have HO_127001 := n6_; have BK111 := n7_; have BK112 := n8_; have BK117 := n9_; have BK123 := n10_; have BK124 := n11_; have BK125 := n12_; have BK126 := n13_; have HB := n14_; have BK140 := n15_; have GW140 := n16_; have GE140 := n17_; have NB111_140 := n18_; have NB140_111 := n19_; have NB112_140 := n20_; have NB140_112 := n21_; have NB117_140 := n22_; have NB140_117 := n23_; have NB123_140 := n24_; have NB140_123 := n25_; have NB124_140 := n26_; have NB140_124 := n27_; have NB125_140 := n28_; have NB140_125 := n29_; have NB126_140 := n30_; have NB140_126 := n31_; clear n0_ n1_ n2_ n3_ n4_ n5_ n6_ n7_ n8_ n9_ n10_ n11_ n12_ n13_ n14_ n15_ n16_ n17_ n18_ n19_ n20_ n21_ n22_ n23_ n24_ n25_ n26_ n27_ n28_ n29_ n30_ n31_; clear hb hbox hg; have hnb73 := NB140_111.out; have hnc73 := NB111_140.out; have hnb74 := NB140_112.out; have hnc74 := NB112_140.out; have hnb75 := NB140_117.out; have hnc75 := NB117_140.out; have hnb76 := NB140_123.out; have hnc76 := NB123_140.out; have hnb77 := NB140_124.out; have hnc77 := NB124_140.out; have hnb78 := NB140_125.out; have hnc78 := NB125_140.out; have hnb79 := NB140_126.out; have hnc79 := NB126_140.out; have hcz80_0 : w72.cell? ⟨gb140, 0, none⟩ = some (.int .i64 0) := (blk_cell BK140.out 0).trans rfl; have hcz80_1 : w72.cell? ⟨gb140, 1, none⟩ = some (.int .i64 0) := (blk_cell BK140.out 1).trans rfl; have hfz80_0 := blk_frozen BK140.out 0; have hfz80_1 := blk_frozen BK140.out 1))
              have n0_ : Aside0 (Kd.R (Kd.int .i64) 3 ((w72.setCell ⟨gb140, 0, none⟩ (.int .i64 ((rd_T47 t114 x79_1).f0))).setCell ⟨gb140, 1, none⟩ (.int .i64 ((rd_T47 t114 x79_1).f1))) w.heap.size (fun _ => True) v119 t118) := ⟨by (with_reducible repeat (first | apply Kd.R_alloc | apply Kd.R_drewN | apply Kd.R_drew)); exact Kd.R_mono (Kd.R_far (p := ⟨gb140, 1, none⟩) (Kd.R_far (p := ⟨gb140, 0, none⟩) (Kd.R_types HO_12.out BK140.out (by decide)) (fun _ hk => hk.2) (.int .i64 ((rd_T47 t114 x79_1).f0))) (fun _ hk => hk.2) (.int .i64 ((rd_T47 t114 x79_1).f1))) (fun _ hk => trivial)⟩
              have n1_ : Aside0 (Kd.R k47 47 ((w72.setCell ⟨gb140, 0, none⟩ (.int .i64 ((rd_T47 t114 x79_1).f0))).setCell ⟨gb140, 1, none⟩ (.int .i64 ((rd_T47 t114 x79_1).f1))) w.heap.size (fun k_ => some k_ ≠ (.slice Ao59 y136.length co59 : Value).ownBlock ∧ some k_ ≠ (u126001 : Value).ownBlock ∧ some k_ ≠ (u127001 : Value).ownBlock ∧ k_ ≠ gb140) (.slice (some ad139) t114.length co19) t114) := ⟨by (with_reducible repeat (first | apply Kd.R_alloc | apply Kd.R_drewN | apply Kd.R_drew)); exact Kd.R_mono (Kd.R_far (p := ⟨gb140, 1, none⟩) (Kd.R_far (p := ⟨gb140, 0, none⟩) (Kd.R_mono HO_77.out (fun k_ hk => (⟨hk, hk.2⟩ : _ ∧ k_ ≠ gb140))) (fun _ hk => hk.2) (.int .i64 ((rd_T47 t114 x79_1).f0))) (fun _ hk => hk.2) (.int .i64 ((rd_T47 t114 x79_1).f1))) (fun _ hk => ⟨hk.1.1.1, ⟨hk.1.1.2.1, ⟨hk.1.1.2.2, hk.1.2⟩⟩⟩)⟩
              have n2_ : Aside0 (Kd.R k47 47 ((w72.setCell ⟨gb140, 0, none⟩ (.int .i64 ((rd_T47 t114 x79_1).f0))).setCell ⟨gb140, 1, none⟩ (.int .i64 ((rd_T47 t114 x79_1).f1))) w.heap.size (fun k_ => some k_ ≠ (.slice Ao59 y136.length co59 : Value).ownBlock ∧ some k_ ≠ (u126001 : Value).ownBlock ∧ some k_ ≠ (u127001 : Value).ownBlock ∧ k_ ≠ gb140) (.slice (some ad139) t114.length co19) t114) := ⟨by (with_reducible repeat (first | apply Kd.R_alloc | apply Kd.R_drewN | apply Kd.R_drew)); exact Kd.R_mono (Kd.R_far (p := ⟨gb140, 1, none⟩) (Kd.R_far (p := ⟨gb140, 0, none⟩) (Kd.R_mono HO_118001.out (fun k_ hk => (⟨hk, hk.2⟩ : _ ∧ k_ ≠ gb140))) (fun _ hk => hk.2) (.int .i64 ((rd_T47 t114 x79_1).f0))) (fun _ hk => hk.2) (.int .i64 ((rd_T47 t114 x79_1).f1))) (fun _ hk => ⟨hk.1.1.1, ⟨hk.1.1.2.1, ⟨hk.1.1.2.2, hk.1.2⟩⟩⟩)⟩
              have n3_ : Aside0 (Kd.R k47 47 ((w72.setCell ⟨gb140, 0, none⟩ (.int .i64 ((rd_T47 t114 x79_1).f0))).setCell ⟨gb140, 1, none⟩ (.int .i64 ((rd_T47 t114 x79_1).f1))) w.heap.size (fun k_ => some k_ ≠ (.slice (some ad139) t114.length co19 : Value).ownBlock ∧ some k_ ≠ (.slice (some ad139) t114.length co19 : Value).ownBlock ∧ some k_ ≠ (.slice (some ad139) t114.length co19 : Value).ownBlock ∧ some k_ ≠ (u126001 : Value).ownBlock ∧ some k_ ≠ (u127001 : Value).ownBlock ∧ k_ ≠ gb140) (.slice Ao59 y136.length co59) y136) := ⟨by (with_reducible repeat (first | apply Kd.R_alloc | apply Kd.R_drewN | apply Kd.R_drew)); exact Kd.R_mono (Kd.R_far (p := ⟨gb140, 1, none⟩) (Kd.R_far (p := ⟨gb140, 0, none⟩) (Kd.R_mono HO_124001.out (fun k_ hk => (⟨hk, hk.2⟩ : _ ∧ k_ ≠ gb140))) (fun _ hk => hk.2) (.int .i64 ((rd_T47 t114 x79_1).f0))) (fun _ hk => hk.2) (.int .i64 ((rd_T47 t114 x79_1).f1))) (fun _ hk => ⟨hk.1.1.1, ⟨hk.1.1.2.1, ⟨hk.1.1.2.2.1, ⟨hk.1.1.2.2.2.1, ⟨hk.1.1.2.2.2.2, hk.1.2⟩⟩⟩⟩⟩)⟩
              have n4_ : Aside0 (Kd.R k47 47 ((w72.setCell ⟨gb140, 0, none⟩ (.int .i64 ((rd_T47 t114 x79_1).f0))).setCell ⟨gb140, 1, none⟩ (.int .i64 ((rd_T47 t114 x79_1).f1))) w.heap.size (fun k_ => some k_ ≠ (.slice Ao59 y136.length co59 : Value).ownBlock ∧ some k_ ≠ (u126001 : Value).ownBlock ∧ some k_ ≠ (u127001 : Value).ownBlock ∧ k_ ≠ gb140) (.slice (some ad139) t114.length co19) t114) := ⟨by (with_reducible repeat (first | apply Kd.R_alloc | apply Kd.R_drewN | apply Kd.R_drew)); exact Kd.R_mono (Kd.R_far (p := ⟨gb140, 1, none⟩) (Kd.R_far (p := ⟨gb140, 0, none⟩) (Kd.R_mono HO_125001.out (fun k_ hk => (⟨hk, hk.2⟩ : _ ∧ k_ ≠ gb140))) (fun _ hk => hk.2) (.int .i64 ((rd_T47 t114 x79_1).f0))) (fun _ hk => hk.2) (.int .i64 ((rd_T47 t114 x79_1).f1))) (fun _ hk => ⟨hk.1.1.1, ⟨hk.1.1.2.1, ⟨hk.1.1.2.2, hk.1.2⟩⟩⟩)⟩
              have n5_ : Aside0 (Kd.R k47 47 ((w72.setCell ⟨gb140, 0, none⟩ (.int .i64 ((rd_T47 t114 x79_1).f0))).setCell ⟨gb140, 1, none⟩ (.int .i64 ((rd_T47 t114 x79_1).f1))) w.heap.size (fun k_ => some k_ ≠ (.slice (some ad139) t114.length co19 : Value).ownBlock ∧ some k_ ≠ (.slice (some ad139) t114.length co19 : Value).ownBlock ∧ some k_ ≠ (.slice Ao59 y136.length co59 : Value).ownBlock ∧ some k_ ≠ (.slice (some ad139) t114.length co19 : Value).ownBlock ∧ some k_ ≠ (u127001 : Value).ownBlock ∧ k_ ≠ gb140) u126001 x126001_1) := ⟨by (with_reducible repeat (first | apply Kd.R_alloc | apply Kd.R_drewN | apply Kd.R_drew)); exact Kd.R_mono (Kd.R_far (p := ⟨gb140, 1, none⟩) (Kd.R_far (p := ⟨gb140, 0, none⟩) (Kd.R_mono HO_126001.out (fun k_ hk => (⟨hk, hk.2⟩ : _ ∧ k_ ≠ gb140))) (fun _ hk => hk.2) (.int .i64 ((rd_T47 t114 x79_1).f0))) (fun _ hk => hk.2) (.int .i64 ((rd_T47 t114 x79_1).f1))) (fun _ hk => ⟨hk.1.1.1, ⟨hk.1.1.2.1, ⟨hk.1.1.2.2.1, ⟨hk.1.1.2.2.2.1, ⟨hk.1.1.2.2.2.2, hk.1.2⟩⟩⟩⟩⟩)⟩
              have n6_ : Aside0 (Kd.R k47 47 ((w72.setCell ⟨gb140, 0, none⟩ (.int .i64 ((rd_T47 t114 x79_1).f0))).setCell ⟨gb140, 1, none⟩ (.int .i64 ((rd_T47 t114 x79_1).f1))) w.heap.size (fun k_ => some k_ ≠ (.slice (some ad139) t114.length co19 : Value).ownBlock ∧ some k_ ≠ (.slice (some ad139) t114.length co19 : Value).ownBlock ∧ some k_ ≠ (.slice Ao59 y136.length co59 : Value).ownBlock ∧ some k_ ≠ (.slice (some ad139) t114.length co19 : Value).ownBlock ∧ some k_ ≠ (u126001 : Value).ownBlock ∧ k_ ≠ gb140) u127001 x127001_1) := ⟨by (with_reducible repeat (first | apply Kd.R_alloc | apply Kd.R_drewN | apply Kd.R_drew)); exact Kd.R_mono (Kd.R_far (p := ⟨gb140, 1, none⟩) (Kd.R_far (p := ⟨gb140, 0, none⟩) (Kd.R_mono HO_127001.out (fun k_ hk => (⟨hk, hk.2⟩ : _ ∧ k_ ≠ gb140))) (fun _ hk => hk.2) (.int .i64 ((rd_T47 t114 x79_1).f0))) (fun _ hk => hk.2) (.int .i64 ((rd_T47 t114 x79_1).f1))) (fun _ hk => ⟨hk.1.1.1, ⟨hk.1.1.2.1, ⟨hk.1.1.2.2.1, ⟨hk.1.1.2.2.2.1, ⟨hk.1.1.2.2.2.2, hk.1.2⟩⟩⟩⟩⟩)⟩
              have n7_ : Aside0 (((w72.setCell ⟨gb140, 0, none⟩ (.int .i64 ((rd_T47 t114 x79_1).f0))).setCell ⟨gb140, 1, none⟩ (.int .i64 ((rd_T47 t114 x79_1).f1))).heap[gb111]? = some (.cells #[.int .u8 a0_0, .slice A0_1 l0_1.length c0_1] 74 (0, 0))) := ⟨by (with_reducible repeat (first | refine blk_drewN ?_ _ | refine blk_drew ?_ | refine blk_alloc ?_ _)); refine blk_far ?_ NB111_140.out _; (with_reducible repeat (first | refine blk_drewN ?_ _ | refine blk_drew ?_ | refine blk_alloc ?_ _)); refine blk_far ?_ NB111_140.out _; (with_reducible repeat (first | refine blk_drewN ?_ _ | refine blk_drew ?_ | refine blk_alloc ?_ _)); exact BK111.out⟩
              have n8_ : Aside0 (((w72.setCell ⟨gb140, 0, none⟩ (.int .i64 ((rd_T47 t114 x79_1).f0))).setCell ⟨gb140, 1, none⟩ (.int .i64 ((rd_T47 t114 x79_1).f1))).heap[gb112]? = some (.cells #[.int .u8 a1_0, .int .u8 a1_1] 82 (0, 0))) := ⟨by (with_reducible repeat (first | refine blk_drewN ?_ _ | refine blk_drew ?_ | refine blk_alloc ?_ _)); refine blk_far ?_ NB112_140.out _; (with_reducible repeat (first | refine blk_drewN ?_ _ | refine blk_drew ?_ | refine blk_alloc ?_ _)); refine blk_far ?_ NB112_140.out _; (with_reducible repeat (first | refine blk_drewN ?_ _ | refine blk_drew ?_ | refine blk_alloc ?_ _)); exact BK112.out⟩
              have n9_ : Aside0 (((w72.setCell ⟨gb140, 0, none⟩ (.int .i64 ((rd_T47 t114 x79_1).f0))).setCell ⟨gb140, 1, none⟩ (.int .i64 ((rd_T47 t114 x79_1).f1))).heap[gb117]? = some (.cells #[.int .i64 t113, .slice (some ad139) t114.length co19] 24 (0, 0))) := ⟨by (with_reducible repeat (first | refine blk_drewN ?_ _ | refine blk_drew ?_ | refine blk_alloc ?_ _)); refine blk_far ?_ NB117_140.out _; (with_reducible repeat (first | refine blk_drewN ?_ _ | refine blk_drew ?_ | refine blk_alloc ?_ _)); refine blk_far ?_ NB117_140.out _; (with_reducible repeat (first | refine blk_drewN ?_ _ | refine blk_drew ?_ | refine blk_alloc ?_ _)); exact BK117.out⟩
              have n10_ : Aside0 (((w72.setCell ⟨gb140, 0, none⟩ (.int .i64 ((rd_T47 t114 x79_1).f0))).setCell ⟨gb140, 1, none⟩ (.int .i64 ((rd_T47 t114 x79_1).f1))).heap[gb123]? = some (.cells #[.int .i64 t113, .slice Ao59 y136.length co59] 24 (0, 0))) := ⟨by (with_reducible repeat (first | refine blk_drewN ?_ _ | refine blk_drew ?_ | refine blk_alloc ?_ _)); refine blk_far ?_ NB123_140.out _; (with_reducible repeat (first | refine blk_drewN ?_ _ | refine blk_drew ?_ | refine blk_alloc ?_ _)); refine blk_far ?_ NB123_140.out _; (with_reducible repeat (first | refine blk_drewN ?_ _ | refine blk_drew ?_ | refine blk_alloc ?_ _)); exact BK123.out⟩
              have n11_ : Aside0 (((w72.setCell ⟨gb140, 0, none⟩ (.int .i64 ((rd_T47 t114 x79_1).f0))).setCell ⟨gb140, 1, none⟩ (.int .i64 ((rd_T47 t114 x79_1).f1))).heap[gb124]? = some (.cells #[.int .i64 (wrap64 (t113 + (wrap64 (a2)))), .slice (some ad139) t114.length co19] 24 (0, 0))) := ⟨by (with_reducible repeat (first | refine blk_drewN ?_ _ | refine blk_drew ?_ | refine blk_alloc ?_ _)); refine blk_far ?_ NB124_140.out _; (with_reducible repeat (first | refine blk_drewN ?_ _ | refine blk_drew ?_ | refine blk_alloc ?_ _)); refine blk_far ?_ NB124_140.out _; (with_reducible repeat (first | refine blk_drewN ?_ _ | refine blk_drew ?_ | refine blk_alloc ?_ _)); exact BK124.out⟩
              have n12_ : Aside0 (((w72.setCell ⟨gb140, 0, none⟩ (.int .i64 ((rd_T47 t114 x79_1).f0))).setCell ⟨gb140, 1, none⟩ (.int .i64 ((rd_T47 t114 x79_1).f1))).heap[gb125]? = some (.cells #[.int .i64 t113, u126001] 24 (0, 0))) := ⟨by (with_reducible repeat (first | refine blk_drewN ?_ _ | refine blk_drew ?_ | refine blk_alloc ?_ _)); refine blk_far ?_ NB125_140.out _; (with_reducible repeat (first | refine blk_drewN ?_ _ | refine blk_drew ?_ | refine blk_alloc ?_ _)); refine blk_far ?_ NB125_140.out _; (with_reducible repeat (first | refine blk_drewN ?_ _ | refine blk_drew ?_ | refine blk_alloc ?_ _)); exact BK125.out⟩
              have n13_ : Aside0 (((w72.setCell ⟨gb140, 0, none⟩ (.int .i64 ((rd_T47 t114 x79_1).f0))).setCell ⟨gb140, 1, none⟩ (.int .i64 ((rd_T47 t114 x79_1).f1))).heap[gb126]? = some (.cells #[.int .i64 t113, u127001] 24 (0, 0))) := ⟨by (with_reducible repeat (first | refine blk_drewN ?_ _ | refine blk_drew ?_ | refine blk_alloc ?_ _)); refine blk_far ?_ NB126_140.out _; (with_reducible repeat (first | refine blk_drewN ?_ _ | refine blk_drew ?_ | refine blk_alloc ?_ _)); refine blk_far ?_ NB126_140.out _; (with_reducible repeat (first | refine blk_drewN ?_ _ | refine blk_drew ?_ | refine blk_alloc ?_ _)); exact BK126.out⟩
              have n14_ : Aside0 (((w72.setCell ⟨gb140, 0, none⟩ (.int .i64 ((rd_T47 t114 x79_1).f0))).setCell ⟨gb140, 1, none⟩ (.int .i64 ((rd_T47 t114 x79_1).f1))).heap[gb140]? = some (.cells #[.int .i64 ((rd_T47 t114 x79_1).f0), .int .i64 ((rd_T47 t114 x79_1).f1)] 47 (0, 0))) := ⟨by (with_reducible repeat (first | refine blk_drewN ?_ _ | refine blk_drew ?_ | refine blk_alloc ?_ _)); refine blk_put (cs := #[.int .i64 ((rd_T47 t114 x79_1).f0), .int .i64 0]) ?_ 1 _ rfl; (with_reducible repeat (first | refine blk_drewN ?_ _ | refine blk_drew ?_ | refine blk_alloc ?_ _)); refine blk_put (cs := #[.int .i64 0, .int .i64 0]) ?_ 0 _ rfl; (with_reducible repeat (first | refine blk_drewN ?_ _ | refine blk_drew ?_ | refine blk_alloc ?_ _)); exact BK140.out⟩
              have n15_ : Aside0 (Below w.heap.size w ((w72.setCell ⟨gb140, 0, none⟩ (.int .i64 ((rd_T47 t114 x79_1).f0))).setCell ⟨gb140, 1, none⟩ (.int .i64 ((rd_T47 t114 x79_1).f1)))) := ⟨by repeat (first | (with_reducible first | exact HB.out | apply below_alloc | apply pw_below_drewN | apply below_drew1 | refine below_set ?_ GE111.out | refine below_set ?_ GE112.out | refine below_set ?_ GE117.out | refine below_set ?_ GE123.out | refine below_set ?_ GE124.out | refine below_set ?_ GE125.out | refine below_set ?_ GE126.out | refine below_set ?_ GE140.out) | exact HB.out)⟩
              (try clear HO_12)
              (try clear HO_77)
              (try clear HO_118001)
              (try clear HO_124001)
              (try clear HO_125001)
              (try clear HO_126001)
              (try clear HO_127001)
              (try clear BK111)
              (try clear BK112)
              (try clear BK117)
              (try clear BK123)
              (try clear BK124)
              (try clear BK125)
              (try clear BK126)
              (try clear BK140)
              (try clear HB)
              generalize ((w72.setCell ⟨gb140, 0, none⟩ (.int .i64 ((rd_T47 t114 x79_1).f0))).setCell ⟨gb140, 1, none⟩ (.int .i64 ((rd_T47 t114 x79_1).f1))) = w81 at n0_ n1_ n2_ n3_ n4_ n5_ n6_ n7_ n8_ n9_ n10_ n11_ n12_ n13_ n14_ n15_ ⊢; have HO_12 := n0_; have HO_77 := n1_; have HO_118001 := n2_; have HO_124001 := n3_; have HO_125001 := n4_; have HO_126001 := n5_; have HO_127001 := n6_; have BK111 := n7_; have BK112 := n8_; have BK117 := n9_; have BK123 := n10_; have BK124 := n11_; have BK125 := n12_; have BK126 := n13_; have BK140 := n14_; have HB := n15_; clear n0_ n1_ n2_ n3_ n4_ n5_ n6_ n7_ n8_ n9_ n10_ n11_ n12_ n13_ n14_ n15_; have n0_ := zA (Kd.R_drew HO_12.out); have n1_ := zA (Kd.R_drew HO_77.out); have n2_ := zA (Kd.R_drew HO_118001.out); have n3_ := zA (Kd.R_drew HO_124001.out); have n4_ := zA (Kd.R_drew HO_125001.out); have n5_ := zA (Kd.R_drew HO_126001.out); have n6_ := zA (Kd.R_drew HO_127001.out); have n7_ := zA (blk_drew BK111.out); have n8_ := zA (blk_drew BK112.out); have n9_ := zA (blk_drew BK117.out); have n10_ := zA (blk_drew BK123.out); have n11_ := zA (blk_drew BK124.out); have n12_ := zA (blk_drew BK125.out); have n13_ := zA (blk_drew BK126.out); have n14_ := zA (blk_drew BK140.out); have n15_ := zA (below_drew1 HB.out); clear HO_12 HO_77 HO_118001 HO_124001 HO_125001 HO_126001 HO_127001 BK111 BK112 BK117 BK123 BK124 BK125 BK126 BK140 HB; have HO_12 := n0_; have HO_77 := n1_; have HO_118001 := n2_; have HO_124001 := n3_; have HO_125001 := n4_; have HO_126001 := n5_; have HO_127001 := n6_; have BK111 := n7_; have BK112 := n8_; have BK117 := n9_; have BK123 := n10_; have BK124 := n11_; have BK125 := n12_; have BK126 := n13_; have BK140 := n14_; have HB := n15_; clear n0_ n1_ n2_ n3_ n4_ n5_ n6_ n7_ n8_ n9_ n10_ n11_ n12_ n13_ n14_ n15_
              have p141 : 0 ≤ ((ji67) : Int) := of_decide_eq_true (zqD)
              have q141 : (ji67) < (t114.length : Int) := of_decide_eq_true (zqD)
              obtain ⟨ad141, e141, hx141_0, hx141_1⟩ := at_T47 (Kd.R_reads' HO_118001.out).2.2 (ji67) p141 q141
              obtain rfl : ad139 = ad141 := (by injection e141)
              replace p141 := eq_true p141; replace q141 := eq_true q141
              refine start_ (n := 18) (S := fun w' => w'.cell? ⟨gb125, 0, none⟩ = some (.int .i64 t113) ∧ w'.cell? ⟨gb125, 1, none⟩ = some (u126001) ∧ w'.cell? ⟨gb117, 0, none⟩ = some (.int .i64 t113) ∧ w'.cell? ⟨gb117, 1, none⟩ = some (.slice (some ad139) t114.length co19) ∧ w'.cell? (ad139.add (((ji67)).toNat * 2)) = some (.int .i64 ((rd_T47 t114 (ji67)).f0)) ∧ w'.cell? ⟨(ad139.add (((ji67)).toNat * 2)).block, (ad139.add (((ji67)).toNat * 2)).off + 1, none⟩ = some (.int .i64 ((rd_T47 t114 (ji67)).f1))) (ds := [15, 17]) #[false, false, false, false, false, false, false, false, false, false, false, false, false, false, false, false, false, false] (by kernel_rfl) rfl rfl ⟨(blk_cell BK125.out 0).trans rfl, (blk_cell BK125.out 1).trans rfl, (blk_cell BK117.out 0).trans rfl, (blk_cell BK117.out 1).trans rfl, hx141_0, hx141_1⟩ (fun hHeld => ?_); refine with_tabW pianolalaw03_PunchMore.tab10 pianolalaw03_PunchMore.bits10 (fun HT_ HW_ => ?_)
              generalize w81.drew = w82 at HO_12 HO_77 HO_118001 HO_124001 HO_125001 HO_126001 HO_127001 BK111 BK112 BK117 BK123 BK124 BK125 BK126 BK140 HB hx141_0 hx141_1 hHeld ⊢
              refine pure_ (i := 0) (N := some 84) (v := ?_) (a' := ?_) #[true, false, false, false, false, false, false, false, false, false, false, false, false, false, false, false, false, false] rfl rfl (any_of HT_.out (by kernel_rfl)) (fun _ _ _ h => h) (Or.inl ⟨by rfl, ?_⟩) ?_ ?_
              rotate_left
              ·
               intro w'
               go_simp
               with_reducible rfl
              rotate_left
              · simp only [Act.put, setIfInBounds_toArray, set_cons_zero, set_cons_succ, i64_w, i32_w]; rfl
              refine pure_ (i := 2) (N := some 86) (v := ?_) (a' := ?_) #[true, false, true, false, false, false, false, false, false, false, false, false, false, false, false, false, false, false] rfl rfl (any_of HT_.out (by kernel_rfl)) (fun _ _ _ h => h) (Or.inl ⟨by rfl, ?_⟩) ?_ ?_
              rotate_left
              ·
               intro w'
               go_simp
               with_reducible rfl
              rotate_left
              · simp only [Act.put, setIfInBounds_toArray, set_cons_zero, set_cons_succ, i64_w, i32_w]; rfl
              refine pure_ (i := 4) (N := some 88) (v := ?_) (a' := ?_) #[true, false, true, false, true, false, false, false, false, false, false, false, false, false, false, false, false, false] rfl rfl (any_of HT_.out (by kernel_rfl)) (fun _ _ _ h => h) (Or.inl ⟨by rfl, ?_⟩) ?_ ?_
              rotate_left
              ·
               intro w'
               go_simp
               with_reducible rfl
              rotate_left
              · simp only [Act.put, setIfInBounds_toArray, set_cons_zero, set_cons_succ, i64_w, i32_w]; rfl
              refine pure_ (i := 5) (N := some 89) (v := ?_) (a' := ?_) #[true, false, true, false, true, true, false, false, false, false, false, false, false, false, false, false, false, false] rfl rfl (any_of HT_.out (by kernel_rfl)) (fun _ _ _ h => h) (Or.inl ⟨by rfl, ?_⟩) ?_ ?_
              rotate_left
              ·
               intro w'
               go_simp
               with_reducible rfl
              rotate_left
              · simp only [Act.put, setIfInBounds_toArray, set_cons_zero, set_cons_succ, i64_w, i32_w]; rfl
              refine pure_ (i := 6) (N := some 90) (v := ?_) (a' := ?_) #[true, false, true, false, true, true, true, false, false, false, false, false, false, false, false, false, false, false] rfl rfl (any_of HT_.out (by kernel_rfl)) (fun _ _ _ h => h) (Or.inl ⟨by rfl, ?_⟩) ?_ ?_
              rotate_left
              ·
               intro w'
               go_simp
               with_reducible rfl
              rotate_left
              · simp only [Act.put, setIfInBounds_toArray, set_cons_zero, set_cons_succ, i64_w, i32_w]; rfl
              refine pure_ (i := 7) (N := some 91) (v := ?_) (a' := ?_) #[true, false, true, false, true, true, true, true, false, false, false, false, false, false, false, false, false, false] rfl rfl (any_of HT_.out (by kernel_rfl)) (fun _ _ _ h => h) (Or.inl ⟨by rfl, ?_⟩) ?_ ?_
              rotate_left
              ·
               intro w'
               go_simp
               with_reducible rfl
              rotate_left
              · simp only [Act.put, setIfInBounds_toArray, set_cons_zero, set_cons_succ, i64_w, i32_w]; rfl
              refine pure_ (i := 8) (N := some 92) (v := ?_) (a' := ?_) #[true, false, true, false, true, true, true, true, true, false, false, false, false, false, false, false, false, false] rfl rfl (any_of HT_.out (by kernel_rfl)) (fun _ _ _ h => h) (Or.inl ⟨by rfl, ?_⟩) ?_ ?_
              rotate_left
              ·
               intro w'
               go_simp
               with_reducible rfl
              rotate_left
              · simp only [Act.put, setIfInBounds_toArray, set_cons_zero, set_cons_succ, i64_w, i32_w]; rfl
              refine take_ (i := 1) (N := some 85) (v := ?_) (a' := ?_) #[true, true, true, false, true, true, true, true, true, false, false, false, false, false, false, false, false, false] rfl rfl (take_ofW HT_.out HW_.out (by kernel_rfl)) (fun _ _ _ h => h) (Or.inl ⟨by rfl, ?_⟩) hHeld ?_ ?_
              rotate_left
              ·
               rintro w' ⟨s0, s1, s2, s3, s4, s5⟩
               go_simp
               with_reducible rfl
              rotate_left
              · simp only [Act.put, setIfInBounds_toArray, set_cons_zero, set_cons_succ, i64_w, i32_w]; rfl
              refine take_ (i := 3) (N := some 87) (v := ?_) (a' := ?_) #[true, true, true, true, true, true, true, true, true, false, false, false, false, false, false, false, false, false] rfl rfl (take_ofW HT_.out HW_.out (by kernel_rfl)) (fun _ _ _ h => h) (Or.inl ⟨by rfl, ?_⟩) hHeld ?_ ?_
              rotate_left
              ·
               rintro w' ⟨s0, s1, s2, s3, s4, s5⟩
               go_simp
               with_reducible rfl
              rotate_left
              · simp only [Act.put, setIfInBounds_toArray, set_cons_zero, set_cons_succ, i64_w, i32_w]; rfl
              refine take_ (i := 9) (N := some 93) (v := ?_) (a' := ?_) #[true, true, true, true, true, true, true, true, true, true, false, false, false, false, false, false, false, false] rfl rfl (take_ofW HT_.out HW_.out (by kernel_rfl)) (fun _ _ _ h => h) (Or.inl ⟨by rfl, ?_⟩) hHeld ?_ ?_
              rotate_left
              ·
               rintro w' ⟨s0, s1, s2, s3, s4, s5⟩
               go_simp
               with_reducible rfl
              rotate_left
              · simp only [Act.put, setIfInBounds_toArray, set_cons_zero, set_cons_succ, i64_w, i32_w]; rfl
              refine pure_ (i := 10) (N := some 94) (v := ?_) (a' := ?_) #[true, true, true, true, true, true, true, true, true, true, true, false, false, false, false, false, false, false] rfl rfl (any_of HT_.out (by kernel_rfl)) (fun _ _ _ h => h) (Or.inl ⟨by rfl, ?_⟩) ?_ ?_
              rotate_left
              ·
               intro w'
               go_simp
               with_reducible rfl
              rotate_left
              · simp only [Act.put, setIfInBounds_toArray, set_cons_zero, set_cons_succ, i64_w, i32_w]; rfl
              refine pure_ (i := 11) (N := some 95) (v := ?_) (a' := ?_) #[true, true, true, true, true, true, true, true, true, true, true, true, false, false, false, false, false, false] rfl rfl (any_of HT_.out (by kernel_rfl)) (fun _ _ _ h => h) (Or.inl ⟨by rfl, ?_⟩) ?_ ?_
              rotate_left
              ·
               intro w'
               go_simp
               with_reducible rfl
              rotate_left
              · simp only [Act.put, setIfInBounds_toArray, set_cons_zero, set_cons_succ, i64_w, i32_w]; rfl
              refine pure_ (i := 12) (N := some 96) (v := ?_) (a' := ?_) #[true, true, true, true, true, true, true, true, true, true, true, true, true, false, false, false, false, false] rfl rfl (any_of HT_.out (by kernel_rfl)) (fun _ _ _ h => h) (Or.inl ⟨by rfl, ?_⟩) ?_ ?_
              rotate_left
              ·
               intro w'
               go_simp
               with_reducible rfl
              rotate_left
              · simp only [Act.put, setIfInBounds_toArray, set_cons_zero, set_cons_succ, i64_w, i32_w]; rfl
              refine take_ (i := 13) (N := some 97) (v := ?_) (a' := ?_) #[true, true, true, true, true, true, true, true, true, true, true, true, true, true, false, false, false, false] rfl rfl (take_ofW HT_.out HW_.out (by kernel_rfl)) (fun _ _ _ h => h) (Or.inl ⟨by rfl, ?_⟩) hHeld ?_ ?_
              rotate_left
              ·
               rintro w' ⟨s0, s1, s2, s3, s4, s5⟩
               go_simp
               with_reducible rfl
              rotate_left
              · simp only [Act.put, setIfInBounds_toArray, set_cons_zero, set_cons_succ, i64_w, i32_w]; rfl
              refine one_ (i := 14) (N := some 98) #[true, true, true, true, true, true, true, true, true, true, true, true, true, true, true, false, false, false] rfl rfl (one_of HT_.out (by kernel_rfl)) (by decide) (fun K hK => ?_)
              refine Kd.R_lit_step k47 _ 47 ?hg (N := 98) ?hd (xs := ([(⟨(rd_T47 t114 (ji67)).f0, (rd_T47 t114 (ji67)).f1⟩ : S47)] : List (S47))) (inner := [.int .i64 ((rd_T47 t114 (ji67)).f0), .int .i64 ((rd_T47 t114 (ji67)).f1)]) (ok := fun _ => True) (okp := fun _ => True) ?hr ?hp (fun _ hk => hk) trivial (Below.refl _ _) (Nat.le_refl _) (by simp) ?_; (case hd => rfl); (case hg => rfl); (case hr => first | (go_simp; done) | (go_simp; rfl)); (case hp => exact (Reps.c2 (show Kd.M k47 _ _ _ (⟨(rd_T47 t114 (ji67)).f0, (rd_T47 t114 (ji67)).f1⟩ : S47) [.int .i64 ((rd_T47 t114 (ji67)).f0), .int .i64 ((rd_T47 t114 (ji67)).f1)] from (k47_mkM _ _ _ (⟨(rd_T47 t114 (ji67)).f0, (rd_T47 t114 (ji67)).f1⟩ : S47) )) (Reps.none _ _)))
              intro v143 w83 ho84 hb hg_ hnew_
              have HS4_ := (hb.cell (World.block_lt_of_cell? _ _ (hHeld.2.2.2.2.1))).trans (hHeld.2.2.2.2.1)
              have HS5_ := (hb.cell (World.block_lt_of_cell? _ _ (hHeld.2.2.2.2.2))).trans (hHeld.2.2.2.2.2)
              clear hg_ hnew_
              (first | rw [← Ny142.out] at ho84 | (simp only [Int.reduceToNat] at ho84; rw [← Ny142.out] at ho84))
              have n0_ := zA (Kd.R_below (zqC HO_12.out) hb); have n1_ := zA (Kd.R_elder' (zqC HO_77.out) (Kd.R_base ho84) hb); have n2_ := zA (Kd.R_elder' (zqC HO_118001.out) (Kd.R_base ho84) hb); have n3_ := zA (Kd.R_elder' (zqC HO_124001.out) (Kd.R_base ho84) hb); have n4_ := zA (Kd.R_elder' (zqC HO_125001.out) (Kd.R_base ho84) hb); have n5_ := zA (Kd.R_elder' (zqC HO_126001.out) (Kd.R_base ho84) hb); have n6_ := zA (Kd.R_elder' (zqC HO_127001.out) (Kd.R_base ho84) hb)
              have n7_ := zA (Kd.R_lower (Kd.R_newB (Kd.R_new' (Kd.R_new' (Kd.R_new' (Kd.R_new' (Kd.R_new' (Kd.R_new' ho84 (Kd.R_lt (zqC HO_77.out))) (Kd.R_lt (zqC HO_118001.out))) (Kd.R_lt (zqC HO_124001.out))) (Kd.R_lt (zqC HO_125001.out))) (Kd.R_lt (zqC HO_126001.out))) (Kd.R_lt (zqC HO_127001.out))) (g := gb140) (o := .cells #[.int .i64 ((rd_T47 t114 x79_1).f0), .int .i64 ((rd_T47 t114 x79_1).f1)] 47 (0, 0)) (zqB BK140.out)) (below_size (by repeat (first | (with_reducible first | exact HB.out | apply below_alloc | apply pw_below_drewN | apply below_drew1 | refine below_set ?_ GE111.out | refine below_set ?_ GE112.out | refine below_set ?_ GE117.out | refine below_set ?_ GE123.out | refine below_set ?_ GE124.out | refine below_set ?_ GE125.out | refine below_set ?_ GE126.out | refine below_set ?_ GE140.out) | exact HB.out))))
              have n8_ := zA (blk_below (g := gb111) (o := .cells #[.int .u8 a0_0, .slice A0_1 l0_1.length c0_1] 74 (0, 0)) (zqB BK111.out) hb); have n9_ := zA (blk_below (g := gb112) (o := .cells #[.int .u8 a1_0, .int .u8 a1_1] 82 (0, 0)) (zqB BK112.out) hb); have n10_ := zA (blk_below (g := gb117) (o := .cells #[.int .i64 t113, .slice (some ad139) t114.length co19] 24 (0, 0)) (zqB BK117.out) hb); have n11_ := zA (blk_below (g := gb123) (o := .cells #[.int .i64 t113, .slice Ao59 y136.length co59] 24 (0, 0)) (zqB BK123.out) hb); have n12_ := zA (blk_below (g := gb124) (o := .cells #[.int .i64 (wrap64 (t113 + (wrap64 (a2)))), .slice (some ad139) t114.length co19] 24 (0, 0)) (zqB BK124.out) hb); have n13_ := zA (blk_below (g := gb125) (o := .cells #[.int .i64 t113, u126001] 24 (0, 0)) (zqB BK125.out) hb); have n14_ := zA (blk_below (g := gb126) (o := .cells #[.int .i64 t113, u127001] 24 (0, 0)) (zqB BK126.out) hb); have n15_ := zA (blk_below (g := gb140) (o := .cells #[.int .i64 ((rd_T47 t114 x79_1).f0), .int .i64 ((rd_T47 t114 x79_1).f1)] 47 (0, 0)) (zqB BK140.out) hb)
              have n16_ := zA (below_step (by repeat (first | (with_reducible first | exact HB.out | apply below_alloc | apply pw_below_drewN | apply below_drew1 | refine below_set ?_ GE111.out | refine below_set ?_ GE112.out | refine below_set ?_ GE117.out | refine below_set ?_ GE123.out | refine below_set ?_ GE124.out | refine below_set ?_ GE125.out | refine below_set ?_ GE126.out | refine below_set ?_ GE140.out) | exact HB.out)) hb)
              clear HO_12 HO_77 HO_118001 HO_124001 HO_125001 HO_126001 HO_127001 BK111 BK112 BK117 BK123 BK124 BK125 BK126 BK140 HB; have HO_12 := n0_; have HO_77 := n1_; have HO_118001 := n2_; have HO_124001 := n3_; have HO_125001 := n4_; have HO_126001 := n5_; have HO_127001 := n6_; have HO144 := n7_; have BK111 := n8_; have BK112 := n9_; have BK117 := n10_; have BK123 := n11_; have BK124 := n12_; have BK125 := n13_; have BK126 := n14_; have BK140 := n15_; have HB := n16_; clear n0_ n1_ n2_ n3_ n4_ n5_ n6_ n7_ n8_ n9_ n10_ n11_ n12_ n13_ n14_ n15_ n16_ hb ho84
              obtain ⟨Ao86, co86, eo86⟩ := Kd.R_slice HO144.out
              (first | subst eo86 | (injection eo86 with f1_ f2_ f3_; have f4_ := f1_.symm; have f5_ := f3_.symm; clear f1_ f2_ f3_; subst f4_; subst f5_))
              refine hK.out _ _ ⟨(blk_cell BK125.out 0).trans rfl, (blk_cell BK125.out 1).trans rfl, (blk_cell BK117.out 0).trans rfl, (blk_cell BK117.out 1).trans rfl, HS4_, HS5_⟩ (fun hHeld => ?_)
              clear hK K; refine norm_ (a' := ?_) ?_ ?_; rotate_left
              · show Act.put _ (some 98) _ = _; simp only [Act.put, setIfInBounds_toArray, set_cons_zero, set_cons_succ, i64_w, i32_w]; rfl
              refine last_ (i := 15) (N := some 99) #[true, true, true, true, true, true, true, true, true, true, true, true, true, true, true, true, false, false] rfl rfl (one_of HT_.out (by kernel_rfl)) (by decide) (fun K hK => ?_)
              refine Kd.R_append_rows_step k47 (w0 := w) w.heap.size (by rfl) (.tmp 85) (.tmp 98) 22 47 (.agg #[(.int .i64 0), (.int .i64 0)]) 16 rfl Try.underlying22 info47 rfl (by decide) (by omega) u126001 x126001_1 y142 _ _ _ (fun k_ => some k_ ≠ (.slice (some ad139) t114.length co19 : Value).ownBlock ∧ some k_ ≠ (.slice (some ad139) t114.length co19 : Value).ownBlock ∧ some k_ ≠ (.slice Ao59 y136.length co59 : Value).ownBlock ∧ some k_ ≠ (.slice (some ad139) t114.length co19 : Value).ownBlock ∧ some k_ ≠ (u127001 : Value).ownBlock ∧ some k_ ≠ (.slice Ao86 y142.length co86 : Value).ownBlock ∧ k_ ≠ gb140) (fun _ => False) rfl rfl ?aO ?aR (fun _ _ h => h) (fun _ h => h.elim) ?aF ?aB ?aS ?aL ?_
              (case aR => repeat (first | exact (Kd.R_reads' HO144.out).2.2 | (with_reducible refine Kd.C_alloc ?_ _) | (with_reducible refine Kd.C_drewN ?_ _) | (with_reducible refine Kd.C_drew ?_)))
              (case aB => exact (by repeat (first | (with_reducible first | exact HB.out | apply below_alloc | apply pw_below_drewN | apply below_drew1 | refine below_set ?_ GE111.out | refine below_set ?_ GE112.out | refine below_set ?_ GE117.out | refine below_set ?_ GE123.out | refine below_set ?_ GE124.out | refine below_set ?_ GE125.out | refine below_set ?_ GE126.out | refine below_set ?_ GE140.out) | exact HB.out)))
              (case aF => exact (fun k_ hk => ⟨Kd.fresh' (Kd.R_lt (zqC HO_77.out)) k_ hk, Kd.fresh' (Kd.R_lt (zqC HO_118001.out)) k_ hk, Kd.fresh' (Kd.R_lt (zqC HO_124001.out)) k_ hk, Kd.fresh' (Kd.R_lt (zqC HO_125001.out)) k_ hk, Kd.fresh' (Kd.R_lt (zqC HO_127001.out)) k_ hk, Kd.fresh' (Kd.R_lt (zqC HO144.out)) k_ hk, Kd.freshB (g := gb140) (o := .cells #[.int .i64 ((rd_T47 t114 x79_1).f0), .int .i64 ((rd_T47 t114 x79_1).f1)] 47 (0, 0)) (zqB BK140.out) k_ hk⟩))
              (case aO => exact (by (with_reducible repeat (first | apply Kd.R_alloc | apply Kd.R_drewN | apply Kd.R_drew)); exact Kd.R_mono HO_126001.out (fun _ hk => ⟨hk.1.1, ⟨hk.1.2.1, ⟨hk.1.2.2.1, ⟨hk.1.2.2.2.1, ⟨hk.1.2.2.2.2.1, ⟨hk.2, hk.1.2.2.2.2.2⟩⟩⟩⟩⟩⟩)))
              (case aS => exact (below_size (by repeat (first | (with_reducible first | exact HB.out | apply below_alloc | apply pw_below_drewN | apply below_drew1 | refine below_set ?_ GE111.out | refine below_set ?_ GE112.out | refine below_set ?_ GE117.out | refine below_set ?_ GE123.out | refine below_set ?_ GE124.out | refine below_set ?_ GE125.out | refine below_set ?_ GE126.out | refine below_set ?_ GE140.out) | exact HB.out))))
              (case aL => have := LMc70.out; omega)
              intro v146 w85 ho hb hg hat
              rw [← Ny145.out] at ho
              have n0_ := zA (Kd.R_over' (zqC HO_12.out) (Kd.R_typed (zqC HO_126001.out)) (by decide) hg)
              have n1_ := zA (Kd.R_after (ok := (fun k_ => some k_ ≠ (.slice Ao59 y136.length co59 : Value).ownBlock ∧ some k_ ≠ (u127001 : Value).ownBlock ∧ some k_ ≠ (.slice Ao86 y142.length co86 : Value).ownBlock ∧ k_ ≠ gb140)) (by (with_reducible repeat (first | apply Kd.R_alloc | apply Kd.R_drewN | apply Kd.R_drew)); exact Kd.R_mono HO_77.out (fun _ hk => ⟨⟨hk.1.1, ⟨hk.1.2.2.1, ⟨hk.2, hk.1.2.2.2⟩⟩⟩, hk.1.2.1⟩)) hg hat)
              have n2_ := zA (Kd.R_after (ok := (fun k_ => some k_ ≠ (.slice Ao59 y136.length co59 : Value).ownBlock ∧ some k_ ≠ (u127001 : Value).ownBlock ∧ some k_ ≠ (.slice Ao86 y142.length co86 : Value).ownBlock ∧ k_ ≠ gb140)) (by (with_reducible repeat (first | apply Kd.R_alloc | apply Kd.R_drewN | apply Kd.R_drew)); exact Kd.R_mono HO_118001.out (fun _ hk => ⟨⟨hk.1.1, ⟨hk.1.2.2.1, ⟨hk.2, hk.1.2.2.2⟩⟩⟩, hk.1.2.1⟩)) hg hat)
              have n3_ := zA (Kd.R_after (ok := (fun k_ => some k_ ≠ (.slice (some ad139) t114.length co19 : Value).ownBlock ∧ some k_ ≠ (.slice (some ad139) t114.length co19 : Value).ownBlock ∧ some k_ ≠ (.slice (some ad139) t114.length co19 : Value).ownBlock ∧ some k_ ≠ (u127001 : Value).ownBlock ∧ some k_ ≠ (.slice Ao86 y142.length co86 : Value).ownBlock ∧ k_ ≠ gb140)) (by (with_reducible repeat (first | apply Kd.R_alloc | apply Kd.R_drewN | apply Kd.R_drew)); exact Kd.R_mono HO_124001.out (fun _ hk => ⟨⟨hk.1.1, ⟨hk.1.2.1, ⟨hk.1.2.2.1, ⟨hk.1.2.2.2.2.1, ⟨hk.2, hk.1.2.2.2.2.2⟩⟩⟩⟩⟩, hk.1.2.2.2.1⟩)) hg hat)
              have n4_ := zA (Kd.R_after (ok := (fun k_ => some k_ ≠ (.slice Ao59 y136.length co59 : Value).ownBlock ∧ some k_ ≠ (u127001 : Value).ownBlock ∧ some k_ ≠ (.slice Ao86 y142.length co86 : Value).ownBlock ∧ k_ ≠ gb140)) (by (with_reducible repeat (first | apply Kd.R_alloc | apply Kd.R_drewN | apply Kd.R_drew)); exact Kd.R_mono HO_125001.out (fun _ hk => ⟨⟨hk.1.1, ⟨hk.1.2.2.1, ⟨hk.2, hk.1.2.2.2⟩⟩⟩, hk.1.2.1⟩)) hg hat)
              have n5_ := zA (Kd.R_after (ok := (fun k_ => some k_ ≠ (.slice (some ad139) t114.length co19 : Value).ownBlock ∧ some k_ ≠ (.slice (some ad139) t114.length co19 : Value).ownBlock ∧ some k_ ≠ (.slice Ao59 y136.length co59 : Value).ownBlock ∧ some k_ ≠ (.slice (some ad139) t114.length co19 : Value).ownBlock ∧ some k_ ≠ (.slice Ao86 y142.length co86 : Value).ownBlock ∧ k_ ≠ gb140)) (by (with_reducible repeat (first | apply Kd.R_alloc | apply Kd.R_drewN | apply Kd.R_drew)); exact Kd.R_mono HO_127001.out (fun _ hk => ⟨⟨hk.1.1, ⟨hk.1.2.1, ⟨hk.1.2.2.1, ⟨hk.1.2.2.2.1, ⟨hk.2, hk.1.2.2.2.2.2⟩⟩⟩⟩⟩, hk.1.2.2.2.2.1⟩)) hg hat)
              have n6_ := zA (blk_grown (g := gb111) (o := .cells #[.int .u8 a0_0, .slice A0_1 l0_1.length c0_1] 74 (0, 0)) (zqB BK111.out) hg (Kd.R_ne HO_126001.out BK111.out (by decide))); have n7_ := zA (blk_grown (g := gb112) (o := .cells #[.int .u8 a1_0, .int .u8 a1_1] 82 (0, 0)) (zqB BK112.out) hg (Kd.R_ne HO_126001.out BK112.out (by decide))); have n8_ := zA (blk_grown (g := gb117) (o := .cells #[.int .i64 t113, .slice (some ad139) t114.length co19] 24 (0, 0)) (zqB BK117.out) hg (Kd.R_ne HO_126001.out BK117.out (by decide))); have n9_ := zA (blk_grown (g := gb123) (o := .cells #[.int .i64 t113, .slice Ao59 y136.length co59] 24 (0, 0)) (zqB BK123.out) hg (Kd.R_ne HO_126001.out BK123.out (by decide))); have n10_ := zA (blk_grown (g := gb124) (o := .cells #[.int .i64 (wrap64 (t113 + (wrap64 (a2)))), .slice (some ad139) t114.length co19] 24 (0, 0)) (zqB BK124.out) hg (Kd.R_ne HO_126001.out BK124.out (by decide))); have n11_ := zA (blk_grown (g := gb125) (o := .cells #[.int .i64 t113, u126001] 24 (0, 0)) (zqB BK125.out) hg (Kd.R_ne HO_126001.out BK125.out (by decide))); have n12_ := zA (blk_grown (g := gb126) (o := .cells #[.int .i64 t113, u127001] 24 (0, 0)) (zqB BK126.out) hg (Kd.R_ne HO_126001.out BK126.out (by decide))); have n13_ := zA (blk_grown (g := gb140) (o := .cells #[.int .i64 ((rd_T47 t114 x79_1).f0), .int .i64 ((rd_T47 t114 x79_1).f1)] 47 (0, 0)) (zqB BK140.out) hg (Kd.R_away HO_126001.out (fun _ hk => hk.1.2.2.2.2.2)))
              have n14_ := zA (Kd.R_after (ok := (fun k_ => some k_ ≠ (.slice (some ad139) t114.length co19 : Value).ownBlock ∧ some k_ ≠ (.slice (some ad139) t114.length co19 : Value).ownBlock ∧ some k_ ≠ (.slice Ao59 y136.length co59 : Value).ownBlock ∧ some k_ ≠ (.slice (some ad139) t114.length co19 : Value).ownBlock ∧ some k_ ≠ (u127001 : Value).ownBlock ∧ k_ ≠ gb140)) (by (with_reducible repeat (first | apply Kd.R_alloc | apply Kd.R_drewN | apply Kd.R_drew)); exact Kd.R_mono HO144.out (fun _ hk => ⟨⟨hk.1.1.1.1.1.1.2, ⟨hk.1.1.1.1.1.2, ⟨hk.1.1.1.1.2, ⟨hk.1.1.1.2, ⟨hk.1.2, hk.2⟩⟩⟩⟩⟩, hk.1.1.2⟩)) hg hat)
              have n15_ := zA (hb); have n16_ := zA (ho); clear HO_12 HO_77 HO_118001 HO_124001 HO_125001 HO_127001 BK111 BK112 BK117 BK123 BK124 BK125 BK126 BK140 HO144 HB HO_126001; have HO_12 := n0_; have HO_77 := n1_; have HO_118001 := n2_; have HO_124001 := n3_; have HO_125001 := n4_; have HO_127001 := n5_; have BK111 := n6_; have BK112 := n7_; have BK117 := n8_; have BK123 := n9_; have BK124 := n10_; have BK125 := n11_; have BK126 := n12_; have BK140 := n13_; have HO144 := n14_; have HB := n15_; have HO147 := n16_; clear n0_ n1_ n2_ n3_ n4_ n5_ n6_ n7_ n8_ n9_ n10_ n11_ n12_ n13_ n14_ n15_ n16_ ho hb hg hat
              obtain ⟨Ao87, co87, eo87⟩ := Kd.R_slice HO147.out
              (first | subst eo87 | (injection eo87 with f1_ f2_ f3_; have f4_ := f1_.symm; have f5_ := f3_.symm; clear f1_ f2_ f3_; subst f4_; subst f5_))
              refine hK.out _ _ ?_
              clear hK K; refine norm_ (a' := ?_) ?_ ?_; rotate_left
              · show Act.put _ (some 99) _ = _; simp only [Act.put, setIfInBounds_toArray, set_cons_zero, set_cons_succ, i64_w, i32_w]; rfl
              refine pure_ (i := 16) (N := some 100) (v := ?_) (a' := ?_) #[true, true, true, true, true, true, true, true, true, true, true, true, true, true, true, true, true, false] rfl rfl (any_of HT_.out (by kernel_rfl)) (fun _ _ _ h => h) (Or.inl ⟨by rfl, ?_⟩) ?_ ?_
              rotate_left
              ·
               intro w'
               go_simp
               with_reducible rfl
              rotate_left
              · simp only [Act.put, setIfInBounds_toArray, set_cons_zero, set_cons_succ, i64_w, i32_w]; rfl
              refine last_ (i := 17) (N := none) #[true, true, true, true, true, true, true, true, true, true, true, true, true, true, true, true, true, true] rfl rfl (one_of HT_.out (by kernel_rfl)) (by decide) (fun K hK => ?_)
              have hs88 : w85.cell? ⟨gb125, 1, none⟩ = some (u126001) := (blk_cell BK125.out 1).trans rfl
              have hfs88 := blk_frozen BK125.out 1
              have hns88_0 := NB111_125.out
              have hns88_1 := NB112_125.out
              have hns88_2 := NB117_125.out
              have hns88_3 := NB123_125.out
              have hns88_4 := NB124_125.out
              have hns88_6 := NB126_125.out
              have hns88_7 := NB140_125.out
              have hms88_0 := NB125_111.out
              have hms88_1 := NB125_112.out
              have hms88_2 := NB125_117.out
              have hms88_3 := NB125_123.out
              have hms88_4 := NB125_124.out
              have hms88_6 := NB125_126.out
              have hms88_7 := NB125_140.out
              refine skip_ (w1 := ?_) (by rfl) rfl ?_ ?_
              rotate_left
              ·
               go_simp
               rfl
              refine hK.out _ _ ?_
              clear hK K
              refine done_ (done_of HT_.out (by kernel_rfl)) ?_
              have hnb89 := NB126_111.out
              have hnc89 := NB111_126.out
              have hnb90 := NB126_112.out
              have hnc90 := NB112_126.out
              have hnb91 := NB126_117.out
              have hnc91 := NB117_126.out
              have hnb92 := NB126_123.out
              have hnc92 := NB123_126.out
              have hnb93 := NB126_124.out
              have hnc93 := NB124_126.out
              have hnb94 := NB126_125.out
              have hnc94 := NB125_126.out
              have hcz95_0 : w85.cell? ⟨gb126, 0, none⟩ = some (.int .i64 t113) := (blk_cell BK126.out 0).trans rfl
              have hcz95_1 : w85.cell? ⟨gb126, 1, none⟩ = some (u127001) := (blk_cell BK126.out 1).trans rfl
              have hfz95_0 := blk_frozen BK126.out 0
              have hfz95_1 := blk_frozen BK126.out 1
              have hcz96_0 : w85.cell? ⟨gb140, 0, none⟩ = some (.int .i64 ((rd_T47 t114 x79_1).f0)) := (blk_cell BK140.out 0).trans rfl
              have hcz96_1 : w85.cell? ⟨gb140, 1, none⟩ = some (.int .i64 ((rd_T47 t114 x79_1).f1)) := (blk_cell BK140.out 1).trans rfl
              have hfz96_0 := blk_frozen BK140.out 0
              have hfz96_1 := blk_frozen BK140.out 1
              try go_wp2_with (first | ((with_reducible refine gate_dst (N := 114) rfl ?_); refine Kd.R_lit k47 _ 47 ?hg (N := 114) ?hd (xs := ([(⟨wrap64 (((rd_T47 t114 x79_1).f0) + (wrap64 (a3))), wrap64 (((rd_T47 t114 x79_1).f1) + (wrap64 (a3)))⟩ : S47)] : List (S47))) (inner := [.int .i64 (wrap64 (((rd_T47 t114 x79_1).f0) + (wrap64 (a3)))), .int .i64 (wrap64 (((rd_T47 t114 x79_1).f1) + (wrap64 (a3))))]) (ok := fun _ => True) (okp := fun _ => True) ?hr ?hp (fun _ hk => hk) trivial (Below.refl _ _) (Nat.le_refl _) (by simp) ?_; (case hd => rfl); (case hg => rfl); (case hr => first | (go_simp; done) | (go_simp; rfl)); (case hp => exact (Reps.c2 (show Kd.M k47 _ _ _ (⟨wrap64 (((rd_T47 t114 x79_1).f0) + (wrap64 (a3))), wrap64 (((rd_T47 t114 x79_1).f1) + (wrap64 (a3)))⟩ : S47) [.int .i64 (wrap64 (((rd_T47 t114 x79_1).f0) + (wrap64 (a3)))), .int .i64 (wrap64 (((rd_T47 t114 x79_1).f1) + (wrap64 (a3))))] from (k47_mkM _ _ _ (⟨wrap64 (((rd_T47 t114 x79_1).f0) + (wrap64 (a3))), wrap64 (((rd_T47 t114 x79_1).f1) + (wrap64 (a3)))⟩ : S47) )) (Reps.none _ _))); intro v149 w97 ho98 hb hg_ hnew_; clear hg_ hnew_; (first | rw [← Ny148.out] at ho98 | (simp only [Int.reduceToNat] at ho98; rw [← Ny148.out] at ho98)); have n0_ := zA (Kd.R_below (by (with_reducible repeat (first | apply Kd.R_alloc | apply Kd.R_drewN | apply Kd.R_drew)); exact (Kd.R_mono (Kd.R_far (p := ⟨gb125, 1, none⟩) (Kd.R_types HO_12.out BK125.out (by decide)) (fun _ hk => hk.2) (.slice Ao87 y145.length co87)) (fun _ h_ => h_.1))) hb); have n1_ := zA (Kd.R_elder' (by (with_reducible repeat (first | apply Kd.R_alloc | apply Kd.R_drewN | apply Kd.R_drew)); exact (Kd.R_mono (Kd.R_far (p := ⟨gb125, 1, none⟩) (Kd.R_types HO_77.out BK125.out (by decide)) (fun _ hk => hk.2) (.slice Ao87 y145.length co87)) (fun _ h_ => h_.1))) (Kd.R_base ho98) hb); have n2_ := zA (Kd.R_elder' (by (with_reducible repeat (first | apply Kd.R_alloc | apply Kd.R_drewN | apply Kd.R_drew)); exact (Kd.R_mono (Kd.R_far (p := ⟨gb125, 1, none⟩) (Kd.R_types HO_118001.out BK125.out (by decide)) (fun _ hk => hk.2) (.slice Ao87 y145.length co87)) (fun _ h_ => h_.1))) (Kd.R_base ho98) hb); have n3_ := zA (Kd.R_elder' (by (with_reducible repeat (first | apply Kd.R_alloc | apply Kd.R_drewN | apply Kd.R_drew)); exact (Kd.R_mono (Kd.R_far (p := ⟨gb125, 1, none⟩) (Kd.R_types HO_124001.out BK125.out (by decide)) (fun _ hk => hk.2) (.slice Ao87 y145.length co87)) (fun _ h_ => h_.1))) (Kd.R_base ho98) hb); have n4_ := zA (Kd.R_elder' (by (with_reducible repeat (first | apply Kd.R_alloc | apply Kd.R_drewN | apply Kd.R_drew)); exact (Kd.R_mono (Kd.R_far (p := ⟨gb125, 1, none⟩) (Kd.R_types HO_125001.out BK125.out (by decide)) (fun _ hk => hk.2) (.slice Ao87 y145.length co87)) (fun _ h_ => h_.1))) (Kd.R_base ho98) hb); have n5_ := zA (Kd.R_elder' (by (with_reducible repeat (first | apply Kd.R_alloc | apply Kd.R_drewN | apply Kd.R_drew)); exact (Kd.R_mono (Kd.R_far (p := ⟨gb125, 1, none⟩) (Kd.R_types HO_127001.out BK125.out (by decide)) (fun _ hk => hk.2) (.slice Ao87 y145.length co87)) (fun _ h_ => h_.1))) (Kd.R_base ho98) hb); have n6_ := zA (Kd.R_elder' (by (with_reducible repeat (first | apply Kd.R_alloc | apply Kd.R_drewN | apply Kd.R_drew)); exact (Kd.R_mono (Kd.R_far (p := ⟨gb125, 1, none⟩) (Kd.R_types HO144.out BK125.out (by decide)) (fun _ hk => hk.2) (.slice Ao87 y145.length co87)) (fun _ h_ => h_.1))) (Kd.R_base ho98) hb); have n7_ := zA (Kd.R_elder' (by (with_reducible repeat (first | apply Kd.R_alloc | apply Kd.R_drewN | apply Kd.R_drew)); exact (Kd.R_mono (Kd.R_far (p := ⟨gb125, 1, none⟩) (Kd.R_types HO147.out BK125.out (by decide)) (fun _ hk => hk.2) (.slice Ao87 y145.length co87)) (fun _ h_ => h_.1))) (Kd.R_base ho98) hb); have n8_ := zA (Kd.R_lower (Kd.R_newB (Kd.R_new' (Kd.R_new' (Kd.R_new' (Kd.R_new' (Kd.R_new' (Kd.R_new' (Kd.R_new' ho98 (Kd.R_lt (by (with_reducible repeat (first | apply Kd.R_alloc | apply Kd.R_drewN | apply Kd.R_drew)); exact (Kd.R_mono (Kd.R_far (p := ⟨gb125, 1, none⟩) (Kd.R_types HO_77.out BK125.out (by decide)) (fun _ hk => hk.2) (.slice Ao87 y145.length co87)) (fun _ h_ => h_.1))))) (Kd.R_lt (by (with_reducible repeat (first | apply Kd.R_alloc | apply Kd.R_drewN | apply Kd.R_drew)); exact (Kd.R_mono (Kd.R_far (p := ⟨gb125, 1, none⟩) (Kd.R_types HO_118001.out BK125.out (by decide)) (fun _ hk => hk.2) (.slice Ao87 y145.length co87)) (fun _ h_ => h_.1))))) (Kd.R_lt (by (with_reducible repeat (first | apply Kd.R_alloc | apply Kd.R_drewN | apply Kd.R_drew)); exact (Kd.R_mono (Kd.R_far (p := ⟨gb125, 1, none⟩) (Kd.R_types HO_124001.out BK125.out (by decide)) (fun _ hk => hk.2) (.slice Ao87 y145.length co87)) (fun _ h_ => h_.1))))) (Kd.R_lt (by (with_reducible repeat (first | apply Kd.R_alloc | apply Kd.R_drewN | apply Kd.R_drew)); exact (Kd.R_mono (Kd.R_far (p := ⟨gb125, 1, none⟩) (Kd.R_types HO_125001.out BK125.out (by decide)) (fun _ hk => hk.2) (.slice Ao87 y145.length co87)) (fun _ h_ => h_.1))))) (Kd.R_lt (by (with_reducible repeat (first | apply Kd.R_alloc | apply Kd.R_drewN | apply Kd.R_drew)); exact (Kd.R_mono (Kd.R_far (p := ⟨gb125, 1, none⟩) (Kd.R_types HO_127001.out BK125.out (by decide)) (fun _ hk => hk.2) (.slice Ao87 y145.length co87)) (fun _ h_ => h_.1))))) (Kd.R_lt (by (with_reducible repeat (first | apply Kd.R_alloc | apply Kd.R_drewN | apply Kd.R_drew)); exact (Kd.R_mono (Kd.R_far (p := ⟨gb125, 1, none⟩) (Kd.R_types HO144.out BK125.out (by decide)) (fun _ hk => hk.2) (.slice Ao87 y145.length co87)) (fun _ h_ => h_.1))))) (Kd.R_lt (by (with_reducible repeat (first | apply Kd.R_alloc | apply Kd.R_drewN | apply Kd.R_drew)); exact (Kd.R_mono (Kd.R_far (p := ⟨gb125, 1, none⟩) (Kd.R_types HO147.out BK125.out (by decide)) (fun _ hk => hk.2) (.slice Ao87 y145.length co87)) (fun _ h_ => h_.1))))) (g := gb140) (o := .cells #[.int .i64 ((rd_T47 t114 x79_1).f0), .int .i64 ((rd_T47 t114 x79_1).f1)] 47 (0, 0)) (by (with_reducible repeat (first | refine blk_drewN ?_ _ | refine blk_drew ?_ | refine blk_alloc ?_ _)); refine blk_far ?_ NB140_125.out _; (with_reducible repeat (first | refine blk_drewN ?_ _ | refine blk_drew ?_ | refine blk_alloc ?_ _)); exact BK140.out)) (below_size (by repeat (first | (with_reducible first | exact HB.out | apply below_alloc | apply pw_below_drewN | apply below_drew1 | refine below_set ?_ GE111.out | refine below_set ?_ GE112.out | refine below_set ?_ GE117.out | refine below_set ?_ GE123.out | refine below_set ?_ GE124.out | refine below_set ?_ GE125.out | refine below_set ?_ GE126.out | refine below_set ?_ GE140.out) | exact HB.out)))); have n9_ := zA (blk_below (g := gb111) (o := .cells #[.int .u8 a0_0, .slice A0_1 l0_1.length c0_1] 74 (0, 0)) (by (with_reducible repeat (first | refine blk_drewN ?_ _ | refine blk_drew ?_ | refine blk_alloc ?_ _)); refine blk_far ?_ NB111_125.out _; (with_reducible repeat (first | refine blk_drewN ?_ _ | refine blk_drew ?_ | refine blk_alloc ?_ _)); exact BK111.out) hb); have n10_ := zA (blk_below (g := gb112) (o := .cells #[.int .u8 a1_0, .int .u8 a1_1] 82 (0, 0)) (by (with_reducible repeat (first | refine blk_drewN ?_ _ | refine blk_drew ?_ | refine blk_alloc ?_ _)); refine blk_far ?_ NB112_125.out _; (with_reducible repeat (first | refine blk_drewN ?_ _ | refine blk_drew ?_ | refine blk_alloc ?_ _)); exact BK112.out) hb); have n11_ := zA (blk_below (g := gb117) (o := .cells #[.int .i64 t113, .slice (some ad139) t114.length co19] 24 (0, 0)) (by (with_reducible repeat (first | refine blk_drewN ?_ _ | refine blk_drew ?_ | refine blk_alloc ?_ _)); refine blk_far ?_ NB117_125.out _; (with_reducible repeat (first | refine blk_drewN ?_ _ | refine blk_drew ?_ | refine blk_alloc ?_ _)); exact BK117.out) hb); have n12_ := zA (blk_below (g := gb123) (o := .cells #[.int .i64 t113, .slice Ao59 y136.length co59] 24 (0, 0)) (by (with_reducible repeat (first | refine blk_drewN ?_ _ | refine blk_drew ?_ | refine blk_alloc ?_ _)); refine blk_far ?_ NB123_125.out _; (with_reducible repeat (first | refine blk_drewN ?_ _ | refine blk_drew ?_ | refine blk_alloc ?_ _)); exact BK123.out) hb); have n13_ := zA (blk_below (g := gb124) (o := .cells #[.int .i64 (wrap64 (t113 + (wrap64 (a2)))), .slice (some ad139) t114.length co19] 24 (0, 0)) (by (with_reducible repeat (first | refine blk_drewN ?_ _ | refine blk_drew ?_ | refine blk_alloc ?_ _)); refine blk_far ?_ NB124_125.out _; (with_reducible repeat (first | refine blk_drewN ?_ _ | refine blk_drew ?_ | refine blk_alloc ?_ _)); exact BK124.out) hb); have n14_ := zA (blk_below (g := gb125) (o := .cells #[.int .i64 t113, .slice Ao87 y145.length co87] 24 (0, 0)) (by (with_reducible repeat (first | refine blk_drewN ?_ _ | refine blk_drew ?_ | refine blk_alloc ?_ _)); refine blk_put (cs := #[.int .i64 t113, u126001]) ?_ 1 _ rfl; (with_reducible repeat (first | refine blk_drewN ?_ _ | refine blk_drew ?_ | refine blk_alloc ?_ _)); exact BK125.out) hb); have n15_ := zA (blk_below (g := gb126) (o := .cells #[.int .i64 t113, u127001] 24 (0, 0)) (by (with_reducible repeat (first | refine blk_drewN ?_ _ | refine blk_drew ?_ | refine blk_alloc ?_ _)); refine blk_far ?_ NB126_125.out _; (with_reducible repeat (first | refine blk_drewN ?_ _ | refine blk_drew ?_ | refine blk_alloc ?_ _)); exact BK126.out) hb); have n16_ := zA (blk_below (g := gb140) (o := .cells #[.int .i64 ((rd_T47 t114 x79_1).f0), .int .i64 ((rd_T47 t114 x79_1).f1)] 47 (0, 0)) (by (with_reducible repeat (first | refine blk_drewN ?_ _ | refine blk_drew ?_ | refine blk_alloc ?_ _)); refine blk_far ?_ NB140_125.out _; (with_reducible repeat (first | refine blk_drewN ?_ _ | refine blk_drew ?_ | refine blk_alloc ?_ _)); exact BK140.out) hb); have n17_ := zA (below_step (by repeat (first | (with_reducible first | exact HB.out | apply below_alloc | apply pw_below_drewN | apply below_drew1 | refine below_set ?_ GE111.out | refine below_set ?_ GE112.out | refine below_set ?_ GE117.out | refine below_set ?_ GE123.out | refine below_set ?_ GE124.out | refine below_set ?_ GE125.out | refine below_set ?_ GE126.out | refine below_set ?_ GE140.out) | exact HB.out)) hb); clear HO_12; clear HO_77; clear HO_118001; clear HO_124001; clear HO_125001; clear HO_127001; clear HO144; clear HO147; clear BK111; clear BK112; clear BK117; clear BK123; clear BK124; clear BK125; clear BK126; clear BK140; clear HB; have HO_12 := n0_; have HO_77 := n1_; have HO_118001 := n2_; have HO_124001 := n3_; have HO_125001 := n4_; have HO_127001 := n5_; have HO144 := n6_; have HO147 := n7_; have HO150 := n8_; have BK111 := n9_; have BK112 := n10_; have BK117 := n11_; have BK123 := n12_; have BK124 := n13_; have BK125 := n14_; have BK126 := n15_; have BK140 := n16_; have HB := n17_; clear n0_ n1_ n2_ n3_ n4_ n5_ n6_ n7_ n8_ n9_ n10_ n11_ n12_ n13_ n14_ n15_ n16_ n17_; clear hb ho98; obtain ⟨Ao100, co100, eo100⟩ := Kd.R_slice HO150.out; subst eo100) | ((with_reducible refine gate_builtin (b := .append) (xs := #[.tmp 102, .tmp 114]) rfl ?_); at_builtin; refine Kd.R_append_rows k47 (w0 := w) w.heap.size rfl (.tmp 102) (.tmp 114) 22 47 (.agg #[(.int .i64 0), (.int .i64 0)]) 16 rfl Try.underlying22 info47 rfl (by decide) (by omega) u127001 x127001_1 y148 _ _ _ (fun k_ => some k_ ≠ (.slice (some ad139) t114.length co19 : Value).ownBlock ∧ some k_ ≠ (.slice (some ad139) t114.length co19 : Value).ownBlock ∧ some k_ ≠ (.slice Ao59 y136.length co59 : Value).ownBlock ∧ some k_ ≠ (.slice (some ad139) t114.length co19 : Value).ownBlock ∧ some k_ ≠ (.slice Ao86 y142.length co86 : Value).ownBlock ∧ some k_ ≠ (.slice Ao87 y145.length co87 : Value).ownBlock ∧ some k_ ≠ (.slice Ao100 y148.length co100 : Value).ownBlock ∧ k_ ≠ gb140) (fun _ => False) rfl rfl ?aO ?aR (fun _ _ h => h) (fun _ h => h.elim) ?aF ?aB ?aS ?aL ?_; (case aR => repeat (first | exact (Kd.R_reads' HO150.out).2.2 | (with_reducible refine Kd.C_alloc ?_ _) | (with_reducible refine Kd.C_drewN ?_ _) | (with_reducible refine Kd.C_drew ?_))); (case aB => exact (by repeat (first | (with_reducible first | exact HB.out | apply below_alloc | apply pw_below_drewN | apply below_drew1 | refine below_set ?_ GE111.out | refine below_set ?_ GE112.out | refine below_set ?_ GE117.out | refine below_set ?_ GE123.out | refine below_set ?_ GE124.out | refine below_set ?_ GE125.out | refine below_set ?_ GE126.out | refine below_set ?_ GE140.out) | exact HB.out))); (case aF => exact (fun k_ hk => ⟨Kd.fresh' (Kd.R_lt (zqC HO_77.out)) k_ hk, Kd.fresh' (Kd.R_lt (zqC HO_118001.out)) k_ hk, Kd.fresh' (Kd.R_lt (zqC HO_124001.out)) k_ hk, Kd.fresh' (Kd.R_lt (zqC HO_125001.out)) k_ hk, Kd.fresh' (Kd.R_lt (zqC HO144.out)) k_ hk, Kd.fresh' (Kd.R_lt (zqC HO147.out)) k_ hk, Kd.fresh' (Kd.R_lt (zqC HO150.out)) k_ hk, Kd.freshB (g := gb140) (o := .cells #[.int .i64 ((rd_T47 t114 x79_1).f0), .int .i64 ((rd_T47 t114 x79_1).f1)] 47 (0, 0)) (zqB BK140.out) k_ hk⟩)); (case aO => exact (by (with_reducible repeat (first | apply Kd.R_alloc | apply Kd.R_drewN | apply Kd.R_drew)); exact Kd.R_mono HO_127001.out (fun _ hk => ⟨hk.1.1.1, ⟨hk.1.1.2.1, ⟨hk.1.1.2.2.1, ⟨hk.1.1.2.2.2.1, ⟨hk.1.1.2.2.2.2.1, ⟨hk.1.2, ⟨hk.2, hk.1.1.2.2.2.2.2⟩⟩⟩⟩⟩⟩⟩))); (case aS => exact (below_size (by repeat (first | (with_reducible first | exact HB.out | apply below_alloc | apply pw_below_drewN | apply below_drew1 | refine below_set ?_ GE111.out | refine below_set ?_ GE112.out | refine below_set ?_ GE117.out | refine below_set ?_ GE123.out | refine below_set ?_ GE124.out | refine below_set ?_ GE125.out | refine below_set ?_ GE126.out | refine below_set ?_ GE140.out) | exact HB.out)))); (case aL => have := LMc71.out; omega); intro v152 w99 ho hb hg hat; rw [← Ny151.out] at ho; have n0_ := zA (Kd.R_over' (zqC HO_12.out) (Kd.R_typed (zqC HO_127001.out)) (by decide) hg); have n1_ := zA (Kd.R_after (ok := (fun k_ => some k_ ≠ (.slice Ao59 y136.length co59 : Value).ownBlock ∧ some k_ ≠ (.slice Ao86 y142.length co86 : Value).ownBlock ∧ some k_ ≠ (.slice Ao87 y145.length co87 : Value).ownBlock ∧ some k_ ≠ (.slice Ao100 y148.length co100 : Value).ownBlock ∧ k_ ≠ gb140)) (by (with_reducible repeat (first | apply Kd.R_alloc | apply Kd.R_drewN | apply Kd.R_drew)); exact Kd.R_mono HO_77.out (fun _ hk => ⟨⟨hk.1.1.1, ⟨hk.1.1.2.2.1, ⟨hk.1.2, ⟨hk.2, hk.1.1.2.2.2⟩⟩⟩⟩, hk.1.1.2.1⟩)) hg hat); have n2_ := zA (Kd.R_after (ok := (fun k_ => some k_ ≠ (.slice Ao59 y136.length co59 : Value).ownBlock ∧ some k_ ≠ (.slice Ao86 y142.length co86 : Value).ownBlock ∧ some k_ ≠ (.slice Ao87 y145.length co87 : Value).ownBlock ∧ some k_ ≠ (.slice Ao100 y148.length co100 : Value).ownBlock ∧ k_ ≠ gb140)) (by (with_reducible repeat (first | apply Kd.R_alloc | apply Kd.R_drewN | apply Kd.R_drew)); exact Kd.R_mono HO_118001.out (fun _ hk => ⟨⟨hk.1.1.1, ⟨hk.1.1.2.2.1, ⟨hk.1.2, ⟨hk.2, hk.1.1.2.2.2⟩⟩⟩⟩, hk.1.1.2.1⟩)) hg hat); have n3_ := zA (Kd.R_after (ok := (fun k_ => some k_ ≠ (.slice (some ad139) t114.length co19 : Value).ownBlock ∧ some k_ ≠ (.slice (some ad139) t114.length co19 : Value).ownBlock ∧ some k_ ≠ (.slice (some ad139) t114.length co19 : Value).ownBlock ∧ some k_ ≠ (.slice Ao86 y142.length co86 : Value).ownBlock ∧ some k_ ≠ (.slice Ao87 y145.length co87 : Value).ownBlock ∧ some k_ ≠ (.slice Ao100 y148.length co100 : Value).ownBlock ∧ k_ ≠ gb140)) (by (with_reducible repeat (first | apply Kd.R_alloc | apply Kd.R_drewN | apply Kd.R_drew)); exact Kd.R_mono HO_124001.out (fun _ hk => ⟨⟨hk.1.1.1, ⟨hk.1.1.2.1, ⟨hk.1.1.2.2.1, ⟨hk.1.1.2.2.2.2.1, ⟨hk.1.2, ⟨hk.2, hk.1.1.2.2.2.2.2⟩⟩⟩⟩⟩⟩, hk.1.1.2.2.2.1⟩)) hg hat); have n4_ := zA (Kd.R_after (ok := (fun k_ => some k_ ≠ (.slice Ao59 y136.length co59 : Value).ownBlock ∧ some k_ ≠ (.slice Ao86 y142.length co86 : Value).ownBlock ∧ some k_ ≠ (.slice Ao87 y145.length co87 : Value).ownBlock ∧ some k_ ≠ (.slice Ao100 y148.length co100 : Value).ownBlock ∧ k_ ≠ gb140)) (by (with_reducible repeat (first | apply Kd.R_alloc | apply Kd.R_drewN | apply Kd.R_drew)); exact Kd.R_mono HO_125001.out (fun _ hk => ⟨⟨hk.1.1.1, ⟨hk.1.1.2.2.1, ⟨hk.1.2, ⟨hk.2, hk.1.1.2.2.2⟩⟩⟩⟩, hk.1.1.2.1⟩)) hg hat); have n5_ := zA (blk_grown (g := gb111) (o := .cells #[.int .u8 a0_0, .slice A0_1 l0_1.length c0_1] 74 (0, 0)) (zqB BK111.out) hg (Kd.R_ne HO_127001.out BK111.out (by decide))); have n6_ := zA (blk_grown (g := gb112) (o := .cells #[.int .u8 a1_0, .int .u8 a1_1] 82 (0, 0)) (zqB BK112.out) hg (Kd.R_ne HO_127001.out BK112.out (by decide))); have n7_ := zA (blk_grown (g := gb117) (o := .cells #[.int .i64 t113, .slice (some ad139) t114.length co19] 24 (0, 0)) (zqB BK117.out) hg (Kd.R_ne HO_127001.out BK117.out (by decide))); have n8_ := zA (blk_grown (g := gb123) (o := .cells #[.int .i64 t113, .slice Ao59 y136.length co59] 24 (0, 0)) (zqB BK123.out) hg (Kd.R_ne HO_127001.out BK123.out (by decide))); have n9_ := zA (blk_grown (g := gb124) (o := .cells #[.int .i64 (wrap64 (t113 + (wrap64 (a2)))), .slice (some ad139) t114.length co19] 24 (0, 0)) (zqB BK124.out) hg (Kd.R_ne HO_127001.out BK124.out (by decide))); have n10_ := zA (blk_grown (g := gb125) (o := .cells #[.int .i64 t113, .slice Ao87 y145.length co87] 24 (0, 0)) (zqB BK125.out) hg (Kd.R_ne HO_127001.out BK125.out (by decide))); have n11_ := zA (blk_grown (g := gb126) (o := .cells #[.int .i64 t113, u127001] 24 (0, 0)) (zqB BK126.out) hg (Kd.R_ne HO_127001.out BK126.out (by decide))); have n12_ := zA (blk_grown (g := gb140) (o := .cells #[.int .i64 ((rd_T47 t114 x79_1).f0), .int .i64 ((rd_T47 t114 x79_1).f1)] 47 (0, 0)) (zqB BK140.out) hg (Kd.R_away HO_127001.out (fun _ hk => hk.1.1.2.2.2.2.2))); have n13_ := zA (Kd.R_after (ok := (fun k_ => some k_ ≠ (.slice (some ad139) t114.length co19 : Value).ownBlock ∧ some k_ ≠ (.slice (some ad139) t114.length co19 : Value).ownBlock ∧ some k_ ≠ (.slice Ao59 y136.length co59 : Value).ownBlock ∧ some k_ ≠ (.slice (some ad139) t114.length co19 : Value).ownBlock ∧ some k_ ≠ (.slice Ao87 y145.length co87 : Value).ownBlock ∧ some k_ ≠ (.slice Ao100 y148.length co100 : Value).ownBlock ∧ k_ ≠ gb140)) (by (with_reducible repeat (first | apply Kd.R_alloc | apply Kd.R_drewN | apply Kd.R_drew)); exact Kd.R_mono HO144.out (fun _ hk => ⟨⟨hk.1.1.1, ⟨hk.1.1.2.1, ⟨hk.1.1.2.2.1, ⟨hk.1.1.2.2.2.1, ⟨hk.1.2, ⟨hk.2, hk.1.1.2.2.2.2.2⟩⟩⟩⟩⟩⟩, hk.1.1.2.2.2.2.1⟩)) hg hat); have n14_ := zA (Kd.R_after (ok := (fun k_ => some k_ ≠ (.slice (some ad139) t114.length co19 : Value).ownBlock ∧ some k_ ≠ (.slice (some ad139) t114.length co19 : Value).ownBlock ∧ some k_ ≠ (.slice Ao59 y136.length co59 : Value).ownBlock ∧ some k_ ≠ (.slice (some ad139) t114.length co19 : Value).ownBlock ∧ some k_ ≠ (.slice Ao86 y142.length co86 : Value).ownBlock ∧ some k_ ≠ (.slice Ao100 y148.length co100 : Value).ownBlock ∧ k_ ≠ gb140)) (by (with_reducible repeat (first | apply Kd.R_alloc | apply Kd.R_drewN | apply Kd.R_drew)); exact Kd.R_mono HO147.out (fun _ hk => ⟨⟨hk.1.1, ⟨hk.1.2.1, ⟨hk.1.2.2.1, ⟨hk.1.2.2.2.1, ⟨hk.1.2.2.2.2.2.1, ⟨hk.2, hk.1.2.2.2.2.2.2⟩⟩⟩⟩⟩⟩, hk.1.2.2.2.2.1⟩)) hg hat); have n15_ := zA (Kd.R_after (ok := (fun k_ => some k_ ≠ (.slice (some ad139) t114.length co19 : Value).ownBlock ∧ some k_ ≠ (.slice (some ad139) t114.length co19 : Value).ownBlock ∧ some k_ ≠ (.slice Ao59 y136.length co59 : Value).ownBlock ∧ some k_ ≠ (.slice (some ad139) t114.length co19 : Value).ownBlock ∧ some k_ ≠ (.slice Ao86 y142.length co86 : Value).ownBlock ∧ some k_ ≠ (.slice Ao87 y145.length co87 : Value).ownBlock ∧ k_ ≠ gb140)) (by (with_reducible repeat (first | apply Kd.R_alloc | apply Kd.R_drewN | apply Kd.R_drew)); exact Kd.R_mono HO150.out (fun _ hk => ⟨⟨hk.1.1.1.1.1.1.1.2, ⟨hk.1.1.1.1.1.1.2, ⟨hk.1.1.1.1.1.2, ⟨hk.1.1.1.1.2, ⟨hk.1.1.2, ⟨hk.1.2, hk.2⟩⟩⟩⟩⟩⟩, hk.1.1.1.2⟩)) hg hat); have n16_ := zA (hb); have n17_ := zA (ho); clear HO_12; clear HO_77; clear HO_118001; clear HO_124001; clear HO_125001; clear BK111; clear BK112; clear BK117; clear BK123; clear BK124; clear BK125; clear BK126; clear BK140; clear HO144; clear HO147; clear HO150; clear HB; clear HO_127001; have HO_12 := n0_; have HO_77 := n1_; have HO_118001 := n2_; have HO_124001 := n3_; have HO_125001 := n4_; have BK111 := n5_; have BK112 := n6_; have BK117 := n7_; have BK123 := n8_; have BK124 := n9_; have BK125 := n10_; have BK126 := n11_; have BK140 := n12_; have HO144 := n13_; have HO147 := n14_; have HO150 := n15_; have HB := n16_; have HO153 := n17_; clear n0_ n1_ n2_ n3_ n4_ n5_ n6_ n7_ n8_ n9_ n10_ n11_ n12_ n13_ n14_ n15_ n16_ n17_; clear ho hb hg hat; obtain ⟨Ao101, co101, eo101⟩ := Kd.R_slice HO153.out; subst eo101; have hcz102_0 : w99.cell? ⟨gb126, 0, none⟩ = some (.int .i64 t113) := (blk_cell BK126.out 0).trans rfl; have hcz102_1 : w99.cell? ⟨gb126, 1, none⟩ = some (u127001) := (blk_cell BK126.out 1).trans rfl; have hfz102_0 := blk_frozen BK126.out 0; have hfz102_1 := blk_frozen BK126.out 1))
              go_roundg k1
              case measure => have := HK1.out; omega
              case rel => exact ⟨(wrap64 (x79_1 + 1)), (y145), (y151), (.slice Ao87 y145.length co87), (.slice Ao101 y151.length co101), zqQ, H', ⟨by have := HK1.out; omega⟩, ⟨by (with_reducible repeat (first | apply Kd.R_alloc | apply Kd.R_drewN | apply Kd.R_drew)); exact Kd.R_mono (Kd.R_far (p := ⟨gb126, 1, none⟩) (Kd.R_types HO_12.out BK126.out (by decide)) (fun _ hk => hk.2) (.slice Ao101 y151.length co101)) (fun _ hk => trivial)⟩, ⟨by (with_reducible repeat (first | apply Kd.R_alloc | apply Kd.R_drewN | apply Kd.R_drew)); exact Kd.R_mono (Kd.R_far (p := ⟨gb126, 1, none⟩) (Kd.R_types HO_77.out BK126.out (by decide)) (fun _ hk => hk.2) (.slice Ao101 y151.length co101)) (fun _ hk => ⟨hk.1.1.1, ⟨hk.1.1.2.2.1, hk.1.2⟩⟩)⟩, ⟨by (with_reducible repeat (first | apply Kd.R_alloc | apply Kd.R_drewN | apply Kd.R_drew)); exact Kd.R_mono (Kd.R_far (p := ⟨gb126, 1, none⟩) (Kd.R_types HO_118001.out BK126.out (by decide)) (fun _ hk => hk.2) (.slice Ao101 y151.length co101)) (fun _ hk => ⟨hk.1.1.1, ⟨hk.1.1.2.2.1, hk.1.2⟩⟩)⟩, ⟨by (with_reducible repeat (first | apply Kd.R_alloc | apply Kd.R_drewN | apply Kd.R_drew)); exact Kd.R_mono (Kd.R_far (p := ⟨gb126, 1, none⟩) (Kd.R_types HO_124001.out BK126.out (by decide)) (fun _ hk => hk.2) (.slice Ao101 y151.length co101)) (fun _ hk => ⟨hk.1.1.1, ⟨hk.1.1.2.1, ⟨hk.1.1.2.2.1, ⟨hk.1.1.2.2.2.2.1, hk.1.2⟩⟩⟩⟩)⟩, ⟨by (with_reducible repeat (first | apply Kd.R_alloc | apply Kd.R_drewN | apply Kd.R_drew)); exact Kd.R_mono (Kd.R_far (p := ⟨gb126, 1, none⟩) (Kd.R_types HO_125001.out BK126.out (by decide)) (fun _ hk => hk.2) (.slice Ao101 y151.length co101)) (fun _ hk => ⟨hk.1.1.1, ⟨hk.1.1.2.2.1, hk.1.2⟩⟩)⟩, ⟨by (with_reducible repeat (first | apply Kd.R_alloc | apply Kd.R_drewN | apply Kd.R_drew)); exact Kd.R_mono (Kd.R_far (p := ⟨gb126, 1, none⟩) (Kd.R_types HO147.out BK126.out (by decide)) (fun _ hk => hk.2) (.slice Ao101 y151.length co101)) (fun _ hk => ⟨hk.1.1.1, ⟨hk.1.1.2.1, ⟨hk.1.1.2.2.1, ⟨hk.1.1.2.2.2.1, hk.1.2⟩⟩⟩⟩)⟩, ⟨by (with_reducible repeat (first | apply Kd.R_alloc | apply Kd.R_drewN | apply Kd.R_drew)); exact Kd.R_mono (Kd.R_far (p := ⟨gb126, 1, none⟩) (Kd.R_types HO153.out BK126.out (by decide)) (fun _ hk => hk.2) (.slice Ao101 y151.length co101)) (fun _ hk => ⟨hk.1.1, ⟨hk.1.2.1, ⟨hk.1.2.2.1, ⟨hk.1.2.2.2.1, hk.1.2.2.2.2.2.1⟩⟩⟩⟩)⟩, ⟨by (with_reducible repeat (first | refine blk_drewN ?_ _ | refine blk_drew ?_ | refine blk_alloc ?_ _)); refine blk_far ?_ NB111_126.out _; (with_reducible repeat (first | refine blk_drewN ?_ _ | refine blk_drew ?_ | refine blk_alloc ?_ _)); exact BK111.out⟩, ⟨by (with_reducible repeat (first | refine blk_drewN ?_ _ | refine blk_drew ?_ | refine blk_alloc ?_ _)); refine blk_far ?_ NB112_126.out _; (with_reducible repeat (first | refine blk_drewN ?_ _ | refine blk_drew ?_ | refine blk_alloc ?_ _)); exact BK112.out⟩, ⟨by (with_reducible repeat (first | refine blk_drewN ?_ _ | refine blk_drew ?_ | refine blk_alloc ?_ _)); refine blk_far ?_ NB117_126.out _; (with_reducible repeat (first | refine blk_drewN ?_ _ | refine blk_drew ?_ | refine blk_alloc ?_ _)); exact BK117.out⟩, ⟨by (with_reducible repeat (first | refine blk_drewN ?_ _ | refine blk_drew ?_ | refine blk_alloc ?_ _)); refine blk_far ?_ NB123_126.out _; (with_reducible repeat (first | refine blk_drewN ?_ _ | refine blk_drew ?_ | refine blk_alloc ?_ _)); exact BK123.out⟩, ⟨by (with_reducible repeat (first | refine blk_drewN ?_ _ | refine blk_drew ?_ | refine blk_alloc ?_ _)); refine blk_far ?_ NB124_126.out _; (with_reducible repeat (first | refine blk_drewN ?_ _ | refine blk_drew ?_ | refine blk_alloc ?_ _)); exact BK124.out⟩, ⟨by (with_reducible repeat (first | refine blk_drewN ?_ _ | refine blk_drew ?_ | refine blk_alloc ?_ _)); refine blk_far ?_ NB125_126.out _; (with_reducible repeat (first | refine blk_drewN ?_ _ | refine blk_drew ?_ | refine blk_alloc ?_ _)); exact BK125.out⟩, ⟨by (with_reducible repeat (first | refine blk_drewN ?_ _ | refine blk_drew ?_ | refine blk_alloc ?_ _)); refine blk_put (cs := #[.int .i64 t113, u127001]) ?_ 1 _ rfl; (with_reducible repeat (first | refine blk_drewN ?_ _ | refine blk_drew ?_ | refine blk_alloc ?_ _)); exact BK126.out⟩, ⟨by repeat (first | (with_reducible first | exact HB.out | apply below_alloc | apply pw_below_drewN | apply below_drew1 | refine below_set ?_ GE111.out | refine below_set ?_ GE112.out | refine below_set ?_ GE117.out | refine below_set ?_ GE123.out | refine below_set ?_ GE124.out | refine below_set ?_ GE125.out | refine below_set ?_ GE126.out | refine below_set ?_ GE140.out) | exact HB.out)⟩⟩
             ·
              rw [if_neg c71] at H
              exact absurd H (by simp)
            ·
             rw [if_neg c70] at H
             exact absurd H (by simp)
           ·
            rw [if_neg c69] at H
            exact absurd H (by simp)
          ·
           rw [if_neg c68] at H
           exact absurd H (by simp)
        ·
         rw [if_neg c65] at H
         exact absurd H (by simp)
       ·
        rw [if_neg c64] at H
        exact absurd H (by simp)
      ·
       rw [if_neg c63] at H
       have c63b0 : decide (x79_1 < (t114.length : Int)) = false := decide_eq_false c63
       clear c63
       replace H := Option.bind_eq_some_iff.mp H
       obtain ⟨⟨t154, t157, t158⟩, A1030, H⟩ := H
       replace H : ((punch_Passes.f (wrap64 (t113 + (wrap64 (a2)))) t114).bind fun bt159 => ((punch_Passes.f t113 x126001_1).bind fun bt164 => ((punch_Passes.f t113 x127001_1).bind fun bt169 => (if t122 = 0 then (if t158 = 0 then (if bt159.2.2 = 0 then (if bt164.2.2 = 0 then (if bt169.2.2 = 0 then (if t157 ≥ t121 then (if t157 ≤ (wrap64 (t121 + 1)) then (if bt159.2.1 ≥ t121 then (if bt164.2.1 = t121 then (if bt169.2.1 = t121 then ((pianolalaw03_numbers.f k1 t118 bt169.1).bind fun t174 => (if t174 = true then ((pianolalaw03_works.f).bind fun t175 => (some t175)) else (some false))) else (some false)) else (some false)) else (some false)) else (some false)) else (some false)) else (some false)) else (some false)) else (some false)) else (some false)) else (some false))))) = some r := H
       have A103 := zA A1030
       clear A1030
       replace H := Option.bind_eq_some_iff.mp H
       obtain ⟨⟨t159, t162, t163⟩, A1040, H⟩ := H
       replace H : ((punch_Passes.f t113 x126001_1).bind fun bt164 => ((punch_Passes.f t113 x127001_1).bind fun bt169 => (if t122 = 0 then (if t158 = 0 then (if t163 = 0 then (if bt164.2.2 = 0 then (if bt169.2.2 = 0 then (if t157 ≥ t121 then (if t157 ≤ (wrap64 (t121 + 1)) then (if t162 ≥ t121 then (if bt164.2.1 = t121 then (if bt169.2.1 = t121 then ((pianolalaw03_numbers.f k1 t118 bt169.1).bind fun t174 => (if t174 = true then ((pianolalaw03_works.f).bind fun t175 => (some t175)) else (some false))) else (some false)) else (some false)) else (some false)) else (some false)) else (some false)) else (some false)) else (some false)) else (some false)) else (some false)) else (some false)))) = some r := H
       have A104 := zA A1040
       clear A1040
       replace H := Option.bind_eq_some_iff.mp H
       obtain ⟨⟨t164, t167, t168⟩, A1050, H⟩ := H
       replace H : ((punch_Passes.f t113 x127001_1).bind fun bt169 => (if t122 = 0 then (if t158 = 0 then (if t163 = 0 then (if t168 = 0 then (if bt169.2.2 = 0 then (if t157 ≥ t121 then (if t157 ≤ (wrap64 (t121 + 1)) then (if t162 ≥ t121 then (if t167 = t121 then (if bt169.2.1 = t121 then ((pianolalaw03_numbers.f k1 t118 bt169.1).bind fun t174 => (if t174 = true then ((pianolalaw03_works.f).bind fun t175 => (some t175)) else (some false))) else (some false)) else (some false)) else (some false)) else (some false)) else (some false)) else (some false)) else (some false)) else (some false)) else (some false)) else (some false))) = some r := H
       have A105 := zA A1050
       clear A1050
       replace H := Option.bind_eq_some_iff.mp H
       obtain ⟨⟨t169, t172, t173⟩, A1060, H⟩ := H
       replace H : (if t122 = 0 then (if t158 = 0 then (if t163 = 0 then (if t168 = 0 then (if t173 = 0 then (if t157 ≥ t121 then (if t157 ≤ (wrap64 (t121 + 1)) then (if t162 ≥ t121 then (if t167 = t121 then (if t172 = t121 then ((pianolalaw03_numbers.f k1 t118 t169).bind fun t174 => (if t174 = true then ((pianolalaw03_works.f).bind fun t175 => (some t175)) else (some false))) else (some false)) else (some false)) else (some false)) else (some false)) else (some false)) else (some false)) else (some false)) else (some false)) else (some false)) else (some false)) = some r := H
       have A106 := zA A1060
       clear A1060
       by_cases c107 : t122 = 0
       ·
        rw [if_pos c107] at H
        have c107b0 : (t122 == 0) = true := beq_iff_eq.mpr c107
        have c107b1 : (t122 != 0) = false := bne_eq_false_iff_eq.mpr c107
        clear c107
        by_cases c108 : t158 = 0
        ·
         rw [if_pos c108] at H
         have c108b0 : (t158 == 0) = true := beq_iff_eq.mpr c108
         have c108b1 : (t158 != 0) = false := bne_eq_false_iff_eq.mpr c108
         clear c108
         by_cases c109 : t163 = 0
         ·
          rw [if_pos c109] at H
          have c109b0 : (t163 == 0) = true := beq_iff_eq.mpr c109
          have c109b1 : (t163 != 0) = false := bne_eq_false_iff_eq.mpr c109
          clear c109
          by_cases c110 : t168 = 0
          ·
           rw [if_pos c110] at H
           have c110b0 : (t168 == 0) = true := beq_iff_eq.mpr c110
           have c110b1 : (t168 != 0) = false := bne_eq_false_iff_eq.mpr c110
           clear c110
           by_cases c111 : t173 = 0
           ·
            rw [if_pos c111] at H
            have c111b0 : (t173 == 0) = true := beq_iff_eq.mpr c111
            have c111b1 : (t173 != 0) = false := bne_eq_false_iff_eq.mpr c111
            clear c111
            by_cases c112 : t157 ≥ t121
            ·
             rw [if_pos c112] at H
             have c112b0 : decide (t121 ≤ t157) = true := decide_eq_true c112
             clear c112
             by_cases c113 : t157 ≤ (wrap64 (t121 + 1))
             ·
              rw [if_pos c113] at H
              have c113b0 : decide (t157 ≤ (wrap64 (t121 + 1))) = true := decide_eq_true c113
              clear c113
              by_cases c114 : t162 ≥ t121
              ·
               rw [if_pos c114] at H
               have c114b0 : decide (t121 ≤ t162) = true := decide_eq_true c114
               clear c114
               by_cases c115 : t167 = t121
               ·
                rw [if_pos c115] at H
                have c115b0 : (t167 == t121) = true := beq_iff_eq.mpr c115
                have c115b1 : (t167 != t121) = false := bne_eq_false_iff_eq.mpr c115
                clear c115
                by_cases c116 : t172 = t121
                ·
                 rw [if_pos c116] at H
                 have c116b0 : (t172 == t121) = true := beq_iff_eq.mpr c116
                 have c116b1 : (t172 != t121) = false := bne_eq_false_iff_eq.mpr c116
                 clear c116
                 replace H := Option.bind_eq_some_iff.mp H
                 obtain ⟨t174, A1170, H⟩ := H
                 replace H : (if t174 = true then ((pianolalaw03_works.f).bind fun t175 => (some t175)) else (some false)) = some r := H
                 have A117 := zA A1170
                 clear A1170
                 by_cases c118 : t174 = true
                 ·
                  subst c118
                  have H1 : ((pianolalaw03_works.f).bind fun t175 => (some t175)) = some r := by rw [if_pos rfl] at H; exact H
                  clear H; have H := H1; clear H1
                  replace H := Option.bind_eq_some_iff.mp H
                  obtain ⟨t175, A1190, H⟩ := H
                  replace H : (some t175) = some r := H
                  have A119 := zA A1190
                  clear A1190
                  obtain rfl := Option.some.inj H
                  have hnb120 := NB123_111.out
                  have hnc120 := NB111_123.out
                  have hnb121 := NB123_112.out
                  have hnc121 := NB112_123.out
                  have hnb122 := NB123_117.out
                  have hnc122 := NB117_123.out
                  have hnb123 := NB123_124.out
                  have hnc123 := NB124_123.out
                  have hnb124 := NB123_125.out
                  have hnc124 := NB125_123.out
                  have hnb125 := NB123_126.out
                  have hnc125 := NB126_123.out
                  have hcz126_0 : wr.cell? ⟨gb123, 0, none⟩ = some (.int .i64 t113) := (blk_cell BK123.out 0).trans rfl
                  have hcz126_1 : wr.cell? ⟨gb123, 1, none⟩ = some (.slice Ao59 y136.length co59) := (blk_cell BK123.out 1).trans rfl
                  have hfz126_0 := blk_frozen BK123.out 0
                  have hfz126_1 := blk_frozen BK123.out 1
                  go_wp2_with (first | ((with_reducible refine gate_callee (f := 22) rfl ?_); refine goesL_ (some 120) rfl rfl Try.func22 (by kernel_rfl) rfl #[.agg #[.int .i64 t113, .slice Ao59 y136.length co59]] rfl zqE ?_; (with_reducible refine (punch_Passes.calls t113 _ _ y136 t154 t157 t158 _ ?side1 ?side2 A103.out).mono ?_); (case side1 => exact zqK (Kd.R_reads' HO_124001.out).2.2); (case side2 => exact (Kd.R_reads' HO_124001.out).2.1); rintro e w127 ⟨v155, rfl, ho0, hb⟩; refine ⟨_, rfl, ?_⟩; have n0_ := zA (Kd.R_elder' (zqC HO_12.out) (Kd.R_base ho0) hb); have n1_ := zA (Kd.R_below (zqC HO_77.out) hb); have n2_ := zA (Kd.R_below (zqC HO_118001.out) hb); have n3_ := zA (Kd.R_below (zqC HO_124001.out) hb); have n4_ := zA (Kd.R_below (zqC HO_125001.out) hb); have n5_ := zA (Kd.R_below (zqC HO_126001.out) hb); have n6_ := zA (Kd.R_below (zqC HO_127001.out) hb); have n7_ := zA (Kd.R_lower (Kd.R_new' ho0 (Kd.R_lt (zqC HO_12.out))) (below_size (by repeat (first | (with_reducible first | exact HB.out | apply below_alloc | apply pw_below_drewN | apply below_drew1 | refine below_set ?_ GE111.out | refine below_set ?_ GE112.out | refine below_set ?_ GE117.out | refine below_set ?_ GE123.out | refine below_set ?_ GE124.out | refine below_set ?_ GE125.out | refine below_set ?_ GE126.out) | exact HB.out)))); have n8_ := zA (blk_below (g := gb111) (o := .cells #[.int .u8 a0_0, .slice A0_1 l0_1.length c0_1] 74 (0, 0)) (zqB BK111.out) hb); have n9_ := zA (blk_below (g := gb112) (o := .cells #[.int .u8 a1_0, .int .u8 a1_1] 82 (0, 0)) (zqB BK112.out) hb); have n10_ := zA (blk_below (g := gb117) (o := .cells #[.int .i64 t113, .slice Ao19 t114.length co19] 24 (0, 0)) (zqB BK117.out) hb); have n11_ := zA (blk_below (g := gb123) (o := .cells #[.int .i64 t113, .slice Ao59 y136.length co59] 24 (0, 0)) (zqB BK123.out) hb); have n12_ := zA (blk_below (g := gb124) (o := .cells #[.int .i64 (wrap64 (t113 + (wrap64 (a2)))), .slice Ao19 t114.length co19] 24 (0, 0)) (zqB BK124.out) hb); have n13_ := zA (blk_below (g := gb125) (o := .cells #[.int .i64 t113, u126001] 24 (0, 0)) (zqB BK125.out) hb); have n14_ := zA (blk_below (g := gb126) (o := .cells #[.int .i64 t113, u127001] 24 (0, 0)) (zqB BK126.out) hb); have n15_ := zA (below_step (by repeat (first | (with_reducible first | exact HB.out | apply below_alloc | apply pw_below_drewN | apply below_drew1 | refine below_set ?_ GE111.out | refine below_set ?_ GE112.out | refine below_set ?_ GE117.out | refine below_set ?_ GE123.out | refine below_set ?_ GE124.out | refine below_set ?_ GE125.out | refine below_set ?_ GE126.out) | exact HB.out)) hb); clear HO_12; clear HO_77; clear HO_118001; clear HO_124001; clear HO_125001; clear HO_126001; clear HO_127001; clear BK111; clear BK112; clear BK117; clear BK123; clear BK124; clear BK125; clear BK126; clear HB; have HO_12 := n0_; have HO_77 := n1_; have HO_118001 := n2_; have HO_124001 := n3_; have HO_125001 := n4_; have HO_126001 := n5_; have HO_127001 := n6_; have HO156 := n7_; have BK111 := n8_; have BK112 := n9_; have BK117 := n10_; have BK123 := n11_; have BK124 := n12_; have BK125 := n13_; have BK126 := n14_; have HB := n15_; clear n0_ n1_ n2_ n3_ n4_ n5_ n6_ n7_ n8_ n9_ n10_ n11_ n12_ n13_ n14_ n15_; (try clear hb); (try clear hb2); (try clear hk); (try clear hi); (try clear ho0); have hnb128 := NB124_111.out; have hnc128 := NB111_124.out; have hnb129 := NB124_112.out; have hnc129 := NB112_124.out; have hnb130 := NB124_117.out; have hnc130 := NB117_124.out; have hnb131 := NB124_125.out; have hnc131 := NB125_124.out; have hnb132 := NB124_126.out; have hnc132 := NB126_124.out; have hcz133_0 : w127.cell? ⟨gb124, 0, none⟩ = some (.int .i64 (wrap64 (t113 + (wrap64 (a2))))) := (blk_cell BK124.out 0).trans rfl; have hcz133_1 : w127.cell? ⟨gb124, 1, none⟩ = some (.slice Ao19 t114.length co19) := (blk_cell BK124.out 1).trans rfl; have hfz133_0 := blk_frozen BK124.out 0; have hfz133_1 := blk_frozen BK124.out 1) | ((with_reducible refine gate_callee (f := 22) rfl ?_); refine goesL_ (some 126) rfl rfl Try.func22 (by kernel_rfl) rfl #[.agg #[.int .i64 (wrap64 (t113 + (wrap64 (a2)))), .slice Ao19 t114.length co19]] rfl zqE ?_; (with_reducible refine (punch_Passes.calls (wrap64 (t113 + (wrap64 (a2)))) _ _ t114 t159 t162 t163 _ ?side1 ?side2 A104.out).mono ?_); (case side1 => exact zqK (Kd.R_reads' HO_125001.out).2.2); (case side2 => exact (Kd.R_reads' HO_125001.out).2.1); rintro e w134 ⟨v160, rfl, ho0, hb⟩; refine ⟨_, rfl, ?_⟩; have n0_ := zA (Kd.R_elder' (zqC HO_12.out) (Kd.R_base ho0) hb); have n1_ := zA (Kd.R_below (zqC HO_77.out) hb); have n2_ := zA (Kd.R_below (zqC HO_118001.out) hb); have n3_ := zA (Kd.R_below (zqC HO_124001.out) hb); have n4_ := zA (Kd.R_below (zqC HO_125001.out) hb); have n5_ := zA (Kd.R_below (zqC HO_126001.out) hb); have n6_ := zA (Kd.R_below (zqC HO_127001.out) hb); have n7_ := zA (Kd.R_elder' (zqC HO156.out) (Kd.R_base ho0) hb); have n8_ := zA (Kd.R_lower (Kd.R_new' (Kd.R_new' ho0 (Kd.R_lt (zqC HO_12.out))) (Kd.R_lt (zqC HO156.out))) (below_size (by repeat (first | (with_reducible first | exact HB.out | apply below_alloc | apply pw_below_drewN | apply below_drew1 | refine below_set ?_ GE111.out | refine below_set ?_ GE112.out | refine below_set ?_ GE117.out | refine below_set ?_ GE123.out | refine below_set ?_ GE124.out | refine below_set ?_ GE125.out | refine below_set ?_ GE126.out) | exact HB.out)))); have n9_ := zA (blk_below (g := gb111) (o := .cells #[.int .u8 a0_0, .slice A0_1 l0_1.length c0_1] 74 (0, 0)) (zqB BK111.out) hb); have n10_ := zA (blk_below (g := gb112) (o := .cells #[.int .u8 a1_0, .int .u8 a1_1] 82 (0, 0)) (zqB BK112.out) hb); have n11_ := zA (blk_below (g := gb117) (o := .cells #[.int .i64 t113, .slice Ao19 t114.length co19] 24 (0, 0)) (zqB BK117.out) hb); have n12_ := zA (blk_below (g := gb123) (o := .cells #[.int .i64 t113, .slice Ao59 y136.length co59] 24 (0, 0)) (zqB BK123.out) hb); have n13_ := zA (blk_below (g := gb124) (o := .cells #[.int .i64 (wrap64 (t113 + (wrap64 (a2)))), .slice Ao19 t114.length co19] 24 (0, 0)) (zqB BK124.out) hb); have n14_ := zA (blk_below (g := gb125) (o := .cells #[.int .i64 t113, u126001] 24 (0, 0)) (zqB BK125.out) hb); have n15_ := zA (blk_below (g := gb126) (o := .cells #[.int .i64 t113, u127001] 24 (0, 0)) (zqB BK126.out) hb); have n16_ := zA (below_step (by repeat (first | (with_reducible first | exact HB.out | apply below_alloc | apply pw_below_drewN | apply below_drew1 | refine below_set ?_ GE111.out | refine below_set ?_ GE112.out | refine below_set ?_ GE117.out | refine below_set ?_ GE123.out | refine below_set ?_ GE124.out | refine below_set ?_ GE125.out | refine below_set ?_ GE126.out) | exact HB.out)) hb); clear HO_12; clear HO_77; clear HO_118001; clear HO_124001; clear HO_125001; clear HO_126001; clear HO_127001; clear HO156; clear BK111; clear BK112; clear BK117; clear BK123; clear BK124; clear BK125; clear BK126; clear HB; have HO_12 := n0_; have HO_77 := n1_; have HO_118001 := n2_; have HO_124001 := n3_; have HO_125001 := n4_; have HO_126001 := n5_; have HO_127001 := n6_; have HO156 := n7_; have HO161 := n8_; have BK111 := n9_; have BK112 := n10_; have BK117 := n11_; have BK123 := n12_; have BK124 := n13_; have BK125 := n14_; have BK126 := n15_; have HB := n16_; clear n0_ n1_ n2_ n3_ n4_ n5_ n6_ n7_ n8_ n9_ n10_ n11_ n12_ n13_ n14_ n15_ n16_; (try clear hb); (try clear hb2); (try clear hk); (try clear hi); (try clear ho0); have hnb135 := NB125_111.out; have hnc135 := NB111_125.out; have hnb136 := NB125_112.out; have hnc136 := NB112_125.out; have hnb137 := NB125_117.out; have hnc137 := NB117_125.out; have hnb138 := NB125_126.out; have hnc138 := NB126_125.out; have hcz139_0 : w134.cell? ⟨gb125, 0, none⟩ = some (.int .i64 t113) := (blk_cell BK125.out 0).trans rfl; have hcz139_1 : w134.cell? ⟨gb125, 1, none⟩ = some (u126001) := (blk_cell BK125.out 1).trans rfl; have hfz139_0 := blk_frozen BK125.out 0; have hfz139_1 := blk_frozen BK125.out 1; obtain ⟨Ao140, co140, eo140⟩ := Kd.R_slice HO_126001.out; subst eo140) | ((with_reducible refine gate_callee (f := 22) rfl ?_); refine goesL_ (some 132) rfl rfl Try.func22 (by kernel_rfl) rfl #[.agg #[.int .i64 t113, .slice Ao140 x126001_1.length co140]] rfl zqE ?_; (with_reducible refine (punch_Passes.calls t113 _ _ x126001_1 t164 t167 t168 _ ?side1 ?side2 A105.out).mono ?_); (case side1 => exact zqK (Kd.R_reads' HO_126001.out).2.2); (case side2 => exact (Kd.R_reads' HO_126001.out).2.1); rintro e w141 ⟨v165, rfl, ho0, hb⟩; refine ⟨_, rfl, ?_⟩; have n0_ := zA (Kd.R_elder' (zqC HO_12.out) (Kd.R_base ho0) hb); have n1_ := zA (Kd.R_below (zqC HO_77.out) hb); have n2_ := zA (Kd.R_below (zqC HO_118001.out) hb); have n3_ := zA (Kd.R_below (zqC HO_124001.out) hb); have n4_ := zA (Kd.R_below (zqC HO_125001.out) hb); have n5_ := zA (Kd.R_below (zqC HO_126001.out) hb); have n6_ := zA (Kd.R_below (zqC HO_127001.out) hb); have n7_ := zA (Kd.R_elder' (zqC HO156.out) (Kd.R_base ho0) hb); have n8_ := zA (Kd.R_elder' (zqC HO161.out) (Kd.R_base ho0) hb); have n9_ := zA (Kd.R_lower (Kd.R_new' (Kd.R_new' (Kd.R_new' ho0 (Kd.R_lt (zqC HO_12.out))) (Kd.R_lt (zqC HO156.out))) (Kd.R_lt (zqC HO161.out))) (below_size (by repeat (first | (with_reducible first | exact HB.out | apply below_alloc | apply pw_below_drewN | apply below_drew1 | refine below_set ?_ GE111.out | refine below_set ?_ GE112.out | refine below_set ?_ GE117.out | refine below_set ?_ GE123.out | refine below_set ?_ GE124.out | refine below_set ?_ GE125.out | refine below_set ?_ GE126.out) | exact HB.out)))); have n10_ := zA (blk_below (g := gb111) (o := .cells #[.int .u8 a0_0, .slice A0_1 l0_1.length c0_1] 74 (0, 0)) (zqB BK111.out) hb); have n11_ := zA (blk_below (g := gb112) (o := .cells #[.int .u8 a1_0, .int .u8 a1_1] 82 (0, 0)) (zqB BK112.out) hb); have n12_ := zA (blk_below (g := gb117) (o := .cells #[.int .i64 t113, .slice Ao19 t114.length co19] 24 (0, 0)) (zqB BK117.out) hb); have n13_ := zA (blk_below (g := gb123) (o := .cells #[.int .i64 t113, .slice Ao59 y136.length co59] 24 (0, 0)) (zqB BK123.out) hb); have n14_ := zA (blk_below (g := gb124) (o := .cells #[.int .i64 (wrap64 (t113 + (wrap64 (a2)))), .slice Ao19 t114.length co19] 24 (0, 0)) (zqB BK124.out) hb); have n15_ := zA (blk_below (g := gb125) (o := .cells #[.int .i64 t113, .slice Ao140 x126001_1.length co140] 24 (0, 0)) (zqB BK125.out) hb); have n16_ := zA (blk_below (g := gb126) (o := .cells #[.int .i64 t113, u127001] 24 (0, 0)) (zqB BK126.out) hb); have n17_ := zA (below_step (by repeat (first | (with_reducible first | exact HB.out | apply below_alloc | apply pw_below_drewN | apply below_drew1 | refine below_set ?_ GE111.out | refine below_set ?_ GE112.out | refine below_set ?_ GE117.out | refine below_set ?_ GE123.out | refine below_set ?_ GE124.out | refine below_set ?_ GE125.out | refine below_set ?_ GE126.out) | exact HB.out)) hb); clear HO_12; clear HO_77; clear HO_118001; clear HO_124001; clear HO_125001; clear HO_126001; clear HO_127001; clear HO156; clear HO161; clear BK111; clear BK112; clear BK117; clear BK123; clear BK124; clear BK125; clear BK126; clear HB; have HO_12 := n0_; have HO_77 := n1_; have HO_118001 := n2_; have HO_124001 := n3_; have HO_125001 := n4_; have HO_126001 := n5_; have HO_127001 := n6_; have HO156 := n7_; have HO161 := n8_; have HO166 := n9_; have BK111 := n10_; have BK112 := n11_; have BK117 := n12_; have BK123 := n13_; have BK124 := n14_; have BK125 := n15_; have BK126 := n16_; have HB := n17_; clear n0_ n1_ n2_ n3_ n4_ n5_ n6_ n7_ n8_ n9_ n10_ n11_ n12_ n13_ n14_ n15_ n16_ n17_; (try clear hb); (try clear hb2); (try clear hk); (try clear hi); (try clear ho0); have hnb142 := NB126_111.out; have hnc142 := NB111_126.out; have hnb143 := NB126_112.out; have hnc143 := NB112_126.out; have hnb144 := NB126_117.out; have hnc144 := NB117_126.out; have hcz145_0 : w141.cell? ⟨gb126, 0, none⟩ = some (.int .i64 t113) := (blk_cell BK126.out 0).trans rfl; have hcz145_1 : w141.cell? ⟨gb126, 1, none⟩ = some (u127001) := (blk_cell BK126.out 1).trans rfl; have hfz145_0 := blk_frozen BK126.out 0; have hfz145_1 := blk_frozen BK126.out 1; obtain ⟨Ao146, co146, eo146⟩ := Kd.R_slice HO_127001.out; subst eo146) | ((with_reducible refine gate_callee (f := 22) rfl ?_); refine goesL_ (some 138) rfl rfl Try.func22 (by kernel_rfl) rfl #[.agg #[.int .i64 t113, .slice Ao146 x127001_1.length co146]] rfl zqE ?_; (with_reducible refine (punch_Passes.calls t113 _ _ x127001_1 t169 t172 t173 _ ?side1 ?side2 A106.out).mono ?_); (case side1 => exact zqK (Kd.R_reads' HO_127001.out).2.2); (case side2 => exact (Kd.R_reads' HO_127001.out).2.1); rintro e w147 ⟨v170, rfl, ho0, hb⟩; refine ⟨_, rfl, ?_⟩; have n0_ := zA (Kd.R_elder' (zqC HO_12.out) (Kd.R_base ho0) hb); have n1_ := zA (Kd.R_below (zqC HO_77.out) hb); have n2_ := zA (Kd.R_below (zqC HO_118001.out) hb); have n3_ := zA (Kd.R_below (zqC HO_124001.out) hb); have n4_ := zA (Kd.R_below (zqC HO_125001.out) hb); have n5_ := zA (Kd.R_below (zqC HO_126001.out) hb); have n6_ := zA (Kd.R_below (zqC HO_127001.out) hb); have n7_ := zA (Kd.R_elder' (zqC HO156.out) (Kd.R_base ho0) hb); have n8_ := zA (Kd.R_elder' (zqC HO161.out) (Kd.R_base ho0) hb); have n9_ := zA (Kd.R_elder' (zqC HO166.out) (Kd.R_base ho0) hb); have n10_ := zA (Kd.R_lower (Kd.R_new' (Kd.R_new' (Kd.R_new' (Kd.R_new' ho0 (Kd.R_lt (zqC HO_12.out))) (Kd.R_lt (zqC HO156.out))) (Kd.R_lt (zqC HO161.out))) (Kd.R_lt (zqC HO166.out))) (below_size (by repeat (first | (with_reducible first | exact HB.out | apply below_alloc | apply pw_below_drewN | apply below_drew1 | refine below_set ?_ GE111.out | refine below_set ?_ GE112.out | refine below_set ?_ GE117.out | refine below_set ?_ GE123.out | refine below_set ?_ GE124.out | refine below_set ?_ GE125.out | refine below_set ?_ GE126.out) | exact HB.out)))); have n11_ := zA (blk_below (g := gb111) (o := .cells #[.int .u8 a0_0, .slice A0_1 l0_1.length c0_1] 74 (0, 0)) (zqB BK111.out) hb); have n12_ := zA (blk_below (g := gb112) (o := .cells #[.int .u8 a1_0, .int .u8 a1_1] 82 (0, 0)) (zqB BK112.out) hb); have n13_ := zA (blk_below (g := gb117) (o := .cells #[.int .i64 t113, .slice Ao19 t114.length co19] 24 (0, 0)) (zqB BK117.out) hb); have n14_ := zA (blk_below (g := gb123) (o := .cells #[.int .i64 t113, .slice Ao59 y136.length co59] 24 (0, 0)) (zqB BK123.out) hb); have n15_ := zA (blk_below (g := gb124) (o := .cells #[.int .i64 (wrap64 (t113 + (wrap64 (a2)))), .slice Ao19 t114.length co19] 24 (0, 0)) (zqB BK124.out) hb); have n16_ := zA (blk_below (g := gb125) (o := .cells #[.int .i64 t113, .slice Ao140 x126001_1.length co140] 24 (0, 0)) (zqB BK125.out) hb); have n17_ := zA (blk_below (g := gb126) (o := .cells #[.int .i64 t113, .slice Ao146 x127001_1.length co146] 24 (0, 0)) (zqB BK126.out) hb); have n18_ := zA (below_step (by repeat (first | (with_reducible first | exact HB.out | apply below_alloc | apply pw_below_drewN | apply below_drew1 | refine below_set ?_ GE111.out | refine below_set ?_ GE112.out | refine below_set ?_ GE117.out | refine below_set ?_ GE123.out | refine below_set ?_ GE124.out | refine below_set ?_ GE125.out | refine below_set ?_ GE126.out) | exact HB.out)) hb); clear HO_12; clear HO_77; clear HO_118001; clear HO_124001; clear HO_125001; clear HO_126001; clear HO_127001; clear HO156; clear HO161; clear HO166; clear BK111; clear BK112; clear BK117; clear BK123; clear BK124; clear BK125; clear BK126; clear HB; have HO_12 := n0_; have HO_77 := n1_; have HO_118001 := n2_; have HO_124001 := n3_; have HO_125001 := n4_; have HO_126001 := n5_; have HO_127001 := n6_; have HO156 := n7_; have HO161 := n8_; have HO166 := n9_; have HO171 := n10_; have BK111 := n11_; have BK112 := n12_; have BK117 := n13_; have BK123 := n14_; have BK124 := n15_; have BK125 := n16_; have BK126 := n17_; have HB := n18_; clear n0_ n1_ n2_ n3_ n4_ n5_ n6_ n7_ n8_ n9_ n10_ n11_ n12_ n13_ n14_ n15_ n16_ n17_ n18_; (try clear hb); (try clear hb2); (try clear hk); (try clear hi); (try clear ho0); obtain ⟨Ao148, co148, eo148⟩ := Kd.R_slice HO_12.out; subst eo148; obtain ⟨Ao149, co149, eo149⟩ := Kd.R_slice HO171.out; subst eo149) | (go_at_call 19; (with_reducible refine (pianolalaw03_numbers.calls k1 _ _ t118 _ _ t169 true _ ?side1 ?side2 ?side3 ?side4 A117.out).mono ?_); (case side1 => exact zqK (Kd.R_reads' HO_12.out).2.2); (case side2 => exact (Kd.R_reads' HO_12.out).2.1); (case side3 => exact zqK (Kd.R_reads' HO171.out).2.2); (case side4 => exact (Kd.R_reads' HO171.out).2.1); rintro e w' ⟨rfl, ⟨nd, rfl⟩⟩) | (go_at_call 15; (with_reducible refine (pianolalaw03_works.calls  t175 _ A119.out).mono ?_); rintro e w150 ⟨rfl, hb⟩; have n0_ := zA (Kd.R_below (zqC HO_12.out) hb); have n1_ := zA (Kd.R_below (zqC HO_77.out) hb); have n2_ := zA (Kd.R_below (zqC HO_118001.out) hb); have n3_ := zA (Kd.R_below (zqC HO_124001.out) hb); have n4_ := zA (Kd.R_below (zqC HO_125001.out) hb); have n5_ := zA (Kd.R_below (zqC HO_126001.out) hb); have n6_ := zA (Kd.R_below (zqC HO_127001.out) hb); have n7_ := zA (Kd.R_below (zqC HO156.out) hb); have n8_ := zA (Kd.R_below (zqC HO161.out) hb); have n9_ := zA (Kd.R_below (zqC HO166.out) hb); have n10_ := zA (Kd.R_below (zqC HO171.out) hb); have n11_ := zA (blk_below (g := gb111) (o := .cells #[.int .u8 a0_0, .slice A0_1 l0_1.length c0_1] 74 (0, 0)) (zqB BK111.out) hb); have n12_ := zA (blk_below (g := gb112) (o := .cells #[.int .u8 a1_0, .int .u8 a1_1] 82 (0, 0)) (zqB BK112.out) hb); have n13_ := zA (blk_below (g := gb117) (o := .cells #[.int .i64 t113, .slice Ao19 t114.length co19] 24 (0, 0)) (zqB BK117.out) hb); have n14_ := zA (blk_below (g := gb123) (o := .cells #[.int .i64 t113, .slice Ao59 y136.length co59] 24 (0, 0)) (zqB BK123.out) hb); have n15_ := zA (blk_below (g := gb124) (o := .cells #[.int .i64 (wrap64 (t113 + (wrap64 (a2)))), .slice Ao19 t114.length co19] 24 (0, 0)) (zqB BK124.out) hb); have n16_ := zA (blk_below (g := gb125) (o := .cells #[.int .i64 t113, .slice Ao140 x126001_1.length co140] 24 (0, 0)) (zqB BK125.out) hb); have n17_ := zA (blk_below (g := gb126) (o := .cells #[.int .i64 t113, .slice Ao146 x127001_1.length co146] 24 (0, 0)) (zqB BK126.out) hb); have n18_ := zA (below_step (by repeat (first | (with_reducible first | exact HB.out | apply below_alloc | apply pw_below_drewN | apply below_drew1 | refine below_set ?_ GE111.out | refine below_set ?_ GE112.out | refine below_set ?_ GE117.out | refine below_set ?_ GE123.out | refine below_set ?_ GE124.out | refine below_set ?_ GE125.out | refine below_set ?_ GE126.out) | exact HB.out)) hb); clear HO_12; clear HO_77; clear HO_118001; clear HO_124001; clear HO_125001; clear HO_126001; clear HO_127001; clear HO156; clear HO161; clear HO166; clear HO171; clear BK111; clear BK112; clear BK117; clear BK123; clear BK124; clear BK125; clear BK126; clear HB; have HO_12 := n0_; have HO_77 := n1_; have HO_118001 := n2_; have HO_124001 := n3_; have HO_125001 := n4_; have HO_126001 := n5_; have HO_127001 := n6_; have HO156 := n7_; have HO161 := n8_; have HO166 := n9_; have HO171 := n10_; have BK111 := n11_; have BK112 := n12_; have BK117 := n13_; have BK123 := n14_; have BK124 := n15_; have BK125 := n16_; have BK126 := n17_; have HB := n18_; clear n0_ n1_ n2_ n3_ n4_ n5_ n6_ n7_ n8_ n9_ n10_ n11_ n12_ n13_ n14_ n15_ n16_ n17_ n18_; (try clear hb); (try clear hb2); (try clear hk); (try clear hi)))
                  go_ret
                  exact ⟨zqR, by repeat (first | (with_reducible first | exact HB.out | apply below_alloc | apply pw_below_drewN | apply below_drew1 | refine below_set ?_ GE111.out | refine below_set ?_ GE112.out | refine below_set ?_ GE117.out | refine below_set ?_ GE123.out | refine below_set ?_ GE124.out | refine below_set ?_ GE125.out | refine below_set ?_ GE126.out) | exact HB.out)⟩
                 ·
                  replace c118 := Bool.eq_false_iff.mpr c118
                  subst c118
                  have H1 : (some false) = some r := by rw [if_neg (show ¬ (false = true) by decide)] at H; exact H
                  clear H; have H := H1; clear H1
                  exact absurd ((Option.some.inj H).trans HRT.out) (by decide)
                ·
                 rw [if_neg c116] at H
                 exact absurd ((Option.some.inj H).trans HRT.out) (by decide)
               ·
                rw [if_neg c115] at H
                exact absurd ((Option.some.inj H).trans HRT.out) (by decide)
              ·
               rw [if_neg c114] at H
               exact absurd ((Option.some.inj H).trans HRT.out) (by decide)
             ·
              rw [if_neg c113] at H
              exact absurd ((Option.some.inj H).trans HRT.out) (by decide)
            ·
             rw [if_neg c112] at H
             exact absurd ((Option.some.inj H).trans HRT.out) (by decide)
           ·
            rw [if_neg c111] at H
            exact absurd ((Option.some.inj H).trans HRT.out) (by decide)
          ·
           rw [if_neg c110] at H
           exact absurd ((Option.some.inj H).trans HRT.out) (by decide)
         ·
          rw [if_neg c109] at H
          exact absurd ((Option.some.inj H).trans HRT.out) (by decide)
        ·
         rw [if_neg c108] at H
         exact absurd ((Option.some.inj H).trans HRT.out) (by decide)
       ·
        rw [if_neg c107] at H
        exact absurd ((Option.some.inj H).trans HRT.out) (by decide)
  ·
   rw [if_neg c9] at H
   exact absurd H (by simp)
 ·
  rw [if_neg c8] at H
  exact absurd H (by simp)
end Go.Proofs.Ytegffliopblajaa.P
end
end
section
namespace Go.Proofs.Ytegffliopblajaa.P
open Go.RowKit Go.Proofs.YtegffliopblajaaW.PrintWords Go.Proofs.YtegffliopblajaaW.PrintLast Go.Proofs.YtegffliopblajaaW.PrintMore
set_option linter.unusedVariables false
set_option linter.unusedSimpArgs false
def c52 (x : S47) : S52 := ⟨x.f0, x.f1⟩
theorem rd47_at {l : List S47} {i : Nat} (h : i < l.length) : rd_T47 l (i : Int) = l[i] := by
  unfold rd_T47
  rw [List.getD_eq_getElem?_getD, Int.toNat_natCast, List.getElem?_eq_getElem h]; rfl
theorem rdI_at {l : List Int} {i : Nat} (h : i < l.length) : rd l (i : Int) = l[i] := by
  unfold rd
  rw [List.getD_eq_getElem?_getD, Int.toNat_natCast, List.getElem?_eq_getElem h]; rfl
theorem w_succ (i : Nat) (h : i ≤ 1000000000) : wrap64 ((i : Int) + 1) = ((i + 1 : Nat) : Int) := by unfold wrap64; omega
def chk (rest : Int) (l : List S47) : Int := if btw 0 rest 1000 = true then (if l.length > 40 then 5 else if (l.any fun x => !good x) = true then 3 else 0) else 3
theorem check_f (rest : Int) (l : List S47) : punch_Check.f rest l = some (chk rest l) := by
  unfold punch_Check.f chk
  rw [btw_f]
  show (if btw 0 rest 1000 = true then _ else _) = _
  by_cases c : btw 0 rest 1000 = true
  · rw [if_pos c, if_pos c]
    by_cases c2 : l.length > 40
    · rw [if_pos (by omega), if_pos c2]
    · rw [if_neg (by omega), if_neg c2]
      unfold any_bad.f
      rw [if_pos (by omega)]
      show (if (l.any fun x => !good x) = true then _ else _) = _
      split <;> rfl
  · rw [if_neg c, if_neg c]
theorem numbers_l0 (a b : List Int) (h1 : a.length = b.length) (hl : a.length ≤ 1000000) : ∀ (m i : Nat), i + m = a.length → Ev (fun k => pianolalaw03_numbers.l0 k a b i) (decide (a.drop i = b.drop i))
  | 0, i, h => by
    refine Ev.step (f := fun _ => some true) (fun k => ?_) (by rw [List.drop_eq_nil_of_le (by omega), List.drop_eq_nil_of_le (by omega)]; exact Ev.now _)
    rw [pianolalaw03_numbers.l0, if_neg (by omega)]
  | m + 1, i, h => by
    have hi : i < a.length := by omega
    have hi2 : i < b.length := by omega
    have hd : decide (a.drop i = b.drop i) = (decide (a[i] = b[i]) && decide (a.drop (i + 1) = b.drop (i + 1))) := by
      rw [List.drop_eq_getElem_cons hi, List.drop_eq_getElem_cons hi2, ← Bool.decide_and]
      exact decide_eq_decide.2 (by rw [List.cons.injEq])
    rw [hd]
    have e : ∀ k, pianolalaw03_numbers.l0 (k + 1) a b i = if a[i] = b[i] then pianolalaw03_numbers.l0 k a b ((i + 1 : Nat) : Int) else some false := fun k => by
      rw [pianolalaw03_numbers.l0, if_pos (by omega), if_pos (by omega), if_pos (by omega), rdI_at hi, rdI_at hi2, w_succ i (by omega)]
    by_cases c : a[i] = b[i]
    · refine Ev.step (fun k => (e k).trans (by rw [if_pos c])) ?_
      rw [decide_eq_true c, Bool.true_and]
      exact numbers_l0 a b h1 hl m (i + 1) (by omega)
    · refine Ev.step (f := fun _ => some false) (fun k => (e k).trans (by rw [if_neg c])) ?_
      rw [decide_eq_false c, Bool.false_and]
      exact Ev.now _
theorem numbers_f (a b : List Int) (hl : a.length ≤ 1000000) : Ev (fun k => pianolalaw03_numbers.f k a b) (decide (a = b)) := by
  unfold pianolalaw03_numbers.f
  by_cases c : a.length = b.length
  · simp only [if_pos (show (a.length : Int) = (b.length : Int) by omega)]
    have := numbers_l0 a b c hl a.length 0 (by omega)
    simpa using this
  · simp only [if_neg (show ¬ (a.length : Int) = (b.length : Int) by omega)]
    rw [decide_eq_false (fun e => c (by rw [e]))]
    exact Ev.now _
theorem chk_len {rest : Int} {l : List S47} (h : chk rest l = 0) : l.length ≤ 40 := by
  unfold chk at h
  split at h
  · split at h
    · cases h
    · omega
  · cases h
end Go.Proofs.Ytegffliopblajaa.P
end
section
namespace Go.Proofs.Ytegffliopblajaa.P
open Go.RowKit Go.Proofs.YtegffliopblajaaW.PrintWords Go.Proofs.YtegffliopblajaaW.PrintLast Go.Proofs.YtegffliopblajaaW.PrintMore
set_option linter.unusedVariables false
set_option linter.unusedSimpArgs false
def Cl (rest : Int) (x y : S47) : Bool := decide (x.f0 < wrap64 (y.f1 + rest)) && decide (y.f0 < wrap64 (x.f1 + rest))
theorem Cl_comm (rest : Int) (x y : S47) : Cl rest x y = Cl rest y x := by unfold Cl; rw [Bool.and_comm]
theorem clB_eq (x : S47) (p rest a b : Int) : clB x p rest a b = (Cl rest x ⟨a, b⟩ && decide (0 ≤ p)) := rfl
theorem mem_clashL (l : List S47) (ps : List Int) (rest a b p : Int) : ∀ (r f : Nat), p ∈ clashL l ps rest a b r f ↔ ∃ i, f ≤ i ∧ i < f + r ∧ ps.getD i 0 = p ∧ clB (rd_T47 l (i : Int)) (ps.getD i 0) rest a b = true
  | 0, f => by
    constructor
    · intro h; cases h
    · rintro ⟨i, h1, h2, _⟩; omega
  | r + 1, f => by
    rw [clashL]
    have ih := mem_clashL l ps rest a b p r (f + 1)
    constructor
    · intro h
      split at h
      · rename_i hc
        rcases List.mem_cons.1 h with h | h
        · exact ⟨f, Nat.le_refl _, by omega, h.symm, hc⟩
        · obtain ⟨i, h1, h2, h3⟩ := ih.1 h
          exact ⟨i, by omega, by omega, h3⟩
      · obtain ⟨i, h1, h2, h3⟩ := ih.1 h
        exact ⟨i, by omega, by omega, h3⟩
    · rintro ⟨i, h1, h2, h3, h4⟩
      by_cases e : i = f
      · subst e
        rw [if_pos h4, h3]
        exact List.mem_cons_self
      · have := ih.2 ⟨i, by omega, by omega, h3, h4⟩
        split
        · exact List.mem_cons_of_mem _ this
        · exact this
theorem least_of {P : Nat → Prop} (h : ∃ m, P m) : ∃ m, P m ∧ ∀ j, j < m → ¬ P j := by
  obtain ⟨m, hm⟩ := h
  induction m using Nat.strongRecOn with
  | ind m ih =>
    by_cases c : ∃ j, j < m ∧ P j
    · obtain ⟨j, hj, hp⟩ := c
      exact ih j hj hp
    · exact ⟨m, hm, fun j hj hp => c ⟨j, hj, hp⟩⟩
theorem mex_exists (cs : List Int) : ∃ m, IsMex cs m := by
  have ex : ∃ m : Nat, (m : Int) ∉ cs := Classical.byContradiction fun h => by
    have := cover_len (n := cs.length + 1) (cs := cs) (fun j _ => Classical.byContradiction fun hj => h ⟨j, hj⟩)
    omega
  obtain ⟨m, hm, hl⟩ := least_of ex
  exact ⟨m, hm, fun j hj => Classical.byContradiction (hl j hj)⟩
theorem mexL_is (cs : List Int) : IsMex cs (mexL cs) := by
  obtain ⟨m, h⟩ := mex_exists cs
  rw [← mexL_eq h]
  exact h
def passN (p : List Int) : Int := p.foldl (fun n x => max n (x + 1)) 0
theorem mx_max (a b : Int) : mx a b = max a b := by unfold mx; omega
theorem passes_l0 (p : List Int) (hb : ∀ x ∈ p, -1 ≤ x ∧ x ≤ 1000) (hl : p.length ≤ 1000) : ∀ (m i k : Nat) (n : Int), i + m = p.length → m < k → punch_passes.l0 k n p p.length i = some ((p.drop i).foldl (fun n x => max n (x + 1)) n)
  | 0, i, 0, n, h, hk => by omega
  | m + 1, i, 0, n, h, hk => by omega
  | 0, i, k + 1, n, h, hk => by
    rw [punch_passes.l0, if_neg (by omega), List.drop_eq_nil_of_le (by omega)]
    rfl
  | m + 1, i, k + 1, n, h, hk => by
    have hi : i < p.length := by omega
    have hx := hb p[i] (List.getElem_mem hi)
    have e : p.drop i = p[i] :: p.drop (i + 1) := List.drop_eq_getElem_cons hi
    rw [e, List.foldl_cons, punch_passes.l0, if_pos (by omega), if_pos (by omega), if_pos (by omega), rdI_at hi, w_succ i (by omega), mx_max, show wrap64 (p[i] + 1) = p[i] + 1 by unfold wrap64; omega]
    exact passes_l0 p hb hl m (i + 1) k (max n (p[i] + 1)) (by omega) (by omega)
theorem passes_f (p : List Int) (hb : ∀ x ∈ p, -1 ≤ x ∧ x ≤ 1000) (hl : p.length ≤ 1000) : punch_passes.f (p.length + 1) p = some (passN p) := by
  have := passes_l0 p hb hl p.length 0 (p.length + 1) 0 (by omega) (by omega)
  simpa [punch_passes.f, passN] using this
end Go.Proofs.Ytegffliopblajaa.P
end
section
namespace Go.Proofs.Ytegffliopblajaa.P
open Go.RowKit Go.Proofs.YtegffliopblajaaW.PrintWords Go.Proofs.YtegffliopblajaaW.PrintLast Go.Proofs.YtegffliopblajaaW.PrintMore
set_option linter.unusedVariables false
set_option linter.unusedSimpArgs false
theorem noPass_iff {p : Int} : noPass p = false ↔ 0 ≤ p ∧ p ≤ 39 := by
  unfold noPass
  rw [Bool.not_eq_false', btw_iff]
def apartB (rest : Int) (l : List S47) (pl : List Int) (i : Nat) : Bool := (List.range i).all fun k => !(decide (rd pl (i : Int) = rd pl (k : Int)) && Cl rest (rd_T47 l (i : Int)) (rd_T47 l (k : Int)))
def planB (rest : Int) (l : List S47) (pl : List Int) : Bool := (List.range l.length).all (apartB rest l pl)
theorem apartB_iff {rest : Int} {l : List S47} {pl : List Int} {i : Nat} : apartB rest l pl i = true ↔ ∀ k, k < i → rd pl (i : Int) = rd pl (k : Int) → Cl rest (rd_T47 l (i : Int)) (rd_T47 l (k : Int)) = false := by
  unfold apartB
  rw [List.all_eq_true]
  constructor
  · intro h k hk e
    have := h k (List.mem_range.2 hk)
    rw [e] at this
    simpa using this
  · intro h k hk
    rw [Bool.not_eq_true', Bool.and_eq_false_iff]
    by_cases c : rd pl (i : Int) = rd pl (k : Int)
    · exact .inr (h k (List.mem_range.1 hk) c)
    · exact .inl (decide_eq_false c)
def perr (rest : Int) (l : List S47) (pl : List Int) : Int := if chk rest l = 0 then (if pl.length = l.length then (if pl.any noPass = true then 3 else if planB rest l pl = true then 0 else 14) else 6) else chk rest l
theorem perr_ok {rest : Int} {l : List S47} {pl : List Int} (h : perr rest l pl = 0) : chk rest l = 0 ∧ l.length ≤ 40 ∧ pl.length = l.length ∧ (∀ x ∈ pl, 0 ≤ x ∧ x ≤ 39) ∧ planB rest l pl = true := by
  unfold perr at h
  split at h
  · rename_i c
    split at h
    · rename_i c2
      split at h
      · cases h
      · rename_i c3
        split at h
        · rename_i c4
          have c3' : pl.any noPass = false := by simpa using c3
          rw [List.any_eq_false] at c3'
          exact ⟨c, chk_len c, c2, fun x hx => noPass_iff.1 (by simpa using c3' x hx), c4⟩
        · cases h
    · cases h
  · exact absurd h (by assumption)
end Go.Proofs.Ytegffliopblajaa.P
end
section
namespace Go.Proofs.Ytegffliopblajaa.P
open Go.RowKit Go.Proofs.YtegffliopblajaaW.PrintWords Go.Proofs.YtegffliopblajaaW.PrintLast Go.Proofs.YtegffliopblajaaW.PrintMore
set_option linter.unusedVariables false
set_option linter.unusedSimpArgs false
def oS (l : List S47) (r : Nat) : Nat := ((ordL l).getD r 0).toNat
theorem oS_lt {l : List S47} {r : Nat} (h : r < l.length) : oS l r < l.length := by
  have := ordL_mem h
  unfold oS
  omega
theorem ordF_perm (l : List S47) : (ordF l).Perm (List.finRange l.length) := List.mergeSort_perm _ _
theorem ordF_sorted (l : List S47) : (ordF l).Pairwise (fun x y => ltS l y x = false) := by
  have h1 : (ordF l).Pairwise (fun x y => (!ltS l y x) = true) := List.pairwise_mergeSort (fun a b c h1 h2 => by
    simp only [Bool.not_eq_true'] at *
    exact (ltS_swo l).ntrans c b a h2 h1) (fun a b => by
    cases h : ltS l b a
    · rfl
    · have : ltS l a b = false := by
        cases h2 : ltS l a b
        · rfl
        · have := (ltS_swo l).trans _ _ _ h h2
          rw [(ltS_swo l).irrefl] at this; cases this
      simp [this]) _
  exact h1.imp (fun h => by simpa using h)
theorem oS_at {l : List S47} {r : Nat} (h : r < l.length) : oS l r = ((ordF l)[r]'(by rw [ordF_len]; exact h)).1 := by
  unfold oS ordL
  rw [List.getD_eq_getElem?_getD, List.getElem?_map, List.getElem?_eq_getElem (by rw [ordF_len]; exact h)]
  simp
theorem oS_inj {l : List S47} {q r : Nat} (hq : q < l.length) (hr : r < l.length) (e : oS l q = oS l r) : q = r := by
  rw [oS_at hq, oS_at hr] at e
  have nd : (ordF l).Nodup := (ordF_perm l).nodup_iff.2 (List.nodup_finRange _)
  have np := List.pairwise_iff_getElem.1 nd
  rcases Nat.lt_trichotomy q r with h | h | h
  · exact absurd (Fin.ext e) (np q r (by rw [ordF_len]; omega) (by rw [ordF_len]; omega) h)
  · exact h
  · exact absurd (Fin.ext e.symm) (np r q (by rw [ordF_len]; omega) (by rw [ordF_len]; omega) h)
theorem oS_sur {l : List S47} {i : Nat} (h : i < l.length) : ∃ r, r < l.length ∧ oS l r = i := by
  have : (⟨i, h⟩ : Fin l.length) ∈ ordF l := (ordF_perm l).mem_iff.2 (List.mem_finRange _)
  obtain ⟨r, hr, e⟩ := List.mem_iff_getElem.1 this
  rw [ordF_len] at hr
  exact ⟨r, hr, by rw [oS_at hr, e]⟩
theorem oS_sorted {l : List S47} {q r : Nat} (h : q < r) (hr : r < l.length) : (rd_T47 l (oS l q : Nat)).f0 < (rd_T47 l (oS l r : Nat)).f0 ∨ (rd_T47 l (oS l q : Nat)).f0 = (rd_T47 l (oS l r : Nat)).f0 ∧ oS l q < oS l r := by
  have hs := List.pairwise_iff_getElem.1 (ordF_sorted l) q r (by rw [ordF_len]; omega) (by rw [ordF_len]; exact hr) h
  have hne : oS l q ≠ oS l r := fun e => by have := oS_inj (by omega) hr e; omega
  rw [oS_at (show q < l.length by omega), oS_at hr] at hne ⊢
  unfold ltS at hs
  have := of_decide_eq_false hs
  omega
def st (rest : Int) (l : List S47) (r : Nat) : List Int := fillL rest l ((ordL l).take r) (List.replicate 40 (-1))
def col (rest : Int) (l : List S47) (r : Nat) : Nat := mexL (clashL l (st rest l r) rest (rd_T47 l (oS l r : Nat)).f0 (rd_T47 l (oS l r : Nat)).f1 l.length 0)
theorem st_len (rest : Int) (l : List S47) (r : Nat) : (st rest l r).length = 40 := by unfold st; rw [fillL_len, List.length_replicate]
theorem st_succ (rest : Int) (l : List S47) {r : Nat} (h : r < l.length) : st rest l (r + 1) = (st rest l r).set (oS l r) (col rest l r) := by
  unfold st
  rw [fill_step rest l _ h]
  have := ordL_mem h
  unfold passOf col oS
  rw [show ((((ordL l).getD r 0).toNat : Nat) : Int) = (ordL l).getD r 0 by omega]
  rfl
theorem st_un (rest : Int) (l : List S47) (h40 : l.length ≤ 40) : ∀ (r : Nat), r ≤ l.length → ∀ j, j < l.length → (∀ q, q < r → oS l q ≠ j) → (st rest l r).getD j 0 = -1
  | 0, _, j, hj, _ => by
    unfold st
    rw [List.take_zero, fillL, List.getD_eq_getElem?_getD, List.getElem?_replicate, if_pos (by omega)]
    rfl
  | r + 1, hr, j, hj, hq => by
    rw [st_succ rest l (by omega), List.getD_eq_getElem?_getD, List.getElem?_set_ne (hq r (by omega)), ← List.getD_eq_getElem?_getD]
    exact st_un rest l h40 r (by omega) j hj (fun q h => hq q (by omega))
theorem st_at (rest : Int) (l : List S47) (h40 : l.length ≤ 40) : ∀ (r : Nat), r ≤ l.length → ∀ q, q < r → (st rest l r).getD (oS l q) 0 = col rest l q
  | 0, _, q, hq => by omega
  | r + 1, hr, q, hq => by
    rw [st_succ rest l (by omega), List.getD_eq_getElem?_getD]
    by_cases e : q = r
    · subst e
      rw [List.getElem?_set_self (by rw [st_len]; have := oS_lt (l := l) (r := q) (by omega); omega)]
      rfl
    · rw [List.getElem?_set_ne (fun h => e (oS_inj (by omega) (by omega) h.symm)), ← List.getD_eq_getElem?_getD]
      exact st_at rest l h40 r (by omega) q (by omega)
theorem st_cases (rest : Int) (l : List S47) (h40 : l.length ≤ 40) {r j : Nat} (hr : r ≤ l.length) (hj : j < l.length) : (∃ q, q < r ∧ oS l q = j ∧ (st rest l r).getD j 0 = col rest l q) ∨ ((∀ q, q < r → oS l q ≠ j) ∧ (st rest l r).getD j 0 = -1) := by
  by_cases c : ∃ q, q < r ∧ oS l q = j
  · obtain ⟨q, h1, h2⟩ := c
    exact .inl ⟨q, h1, h2, by rw [← h2]; exact st_at rest l h40 r hr q h1⟩
  · have : ∀ q, q < r → oS l q ≠ j := fun q h e => c ⟨q, h, e⟩
    exact .inr ⟨this, st_un rest l h40 r hr j hj this⟩
theorem mem_st (rest : Int) (l : List S47) (h40 : l.length ≤ 40) {r : Nat} (hr : r ≤ l.length) (s : S47) (p : Nat) :
    (p : Int) ∈ clashL l (st rest l r) rest s.f0 s.f1 l.length 0 ↔ ∃ q, q < r ∧ col rest l q = p ∧ Cl rest (rd_T47 l (oS l q : Nat)) s = true := by
  rw [mem_clashL]
  constructor
  · rintro ⟨j, _, h2, h3, h4⟩
    rcases st_cases rest l h40 hr (show j < l.length by omega) with ⟨q, h5, h6, h7⟩ | ⟨_, h7⟩
    · rw [clB_eq, Bool.and_eq_true] at h4
      exact ⟨q, h5, by omega, by rw [h6]; exact h4.1⟩
    · omega
  · rintro ⟨q, h1, h2, h3⟩
    have hlt := oS_lt (l := l) (r := q) (by omega)
    have := st_at rest l h40 r hr q h1
    refine ⟨oS l q, Nat.zero_le _, by omega, by rw [this, h2], ?_⟩
    rw [clB_eq, h3, this, decide_eq_true (by omega)]
    rfl
theorem col_mex (rest : Int) (l : List S47) (h40 : l.length ≤ 40) {r : Nat} (hr : r < l.length) :
    (∀ q, q < r → Cl rest (rd_T47 l (oS l q : Nat)) (rd_T47 l (oS l r : Nat)) = true → col rest l q ≠ col rest l r) ∧
    (∀ p, p < col rest l r → ∃ q, q < r ∧ col rest l q = p ∧ Cl rest (rd_T47 l (oS l q : Nat)) (rd_T47 l (oS l r : Nat)) = true) := by
  have h := mexL_is (clashL l (st rest l r) rest (rd_T47 l (oS l r : Nat)).f0 (rd_T47 l (oS l r : Nat)).f1 l.length 0)
  constructor
  · intro q hq hc e
    exact h.1 ((mem_st rest l h40 (by omega) _ _).2 ⟨q, hq, e, hc⟩)
  · intro p hp
    exact (mem_st rest l h40 (by omega) _ _).1 (h.2 p hp)
theorem col_le (rest : Int) (l : List S47) (h40 : l.length ≤ 40) {r : Nat} (hr : r < l.length) : col rest l r ≤ r := by
  have h := (col_mex rest l h40 hr).2
  have : ∀ j : Nat, j < col rest l r → (j : Int) ∈ (List.range r).map fun q => ((col rest l q : Nat) : Int) := fun j hj => by
    obtain ⟨q, h1, h2, _⟩ := h j hj
    exact List.mem_map.2 ⟨q, List.mem_range.2 h1, by rw [h2]⟩
  have := cover_len this
  simpa using this
theorem planL_len {rest : Int} {l : List S47} (h40 : l.length ≤ 40) : (planL rest l).length = l.length := by
  unfold planL
  rw [List.length_take, fillL_len, List.length_replicate]
  omega
theorem planL_eq (rest : Int) (l : List S47) : planL rest l = (st rest l l.length).take l.length := by
  unfold planL st
  rw [show (ordL l).take l.length = ordL l from List.take_of_length_le (by rw [ordL_len]; exact Nat.le_refl _)]
theorem take_getD {α : Type} {xs : List α} {n j : Nat} {d : α} (h : j < n) : (xs.take n).getD j d = xs.getD j d := by
  rw [List.getD_eq_getElem?_getD, List.getD_eq_getElem?_getD, List.getElem?_take_of_lt h]
theorem planL_at (rest : Int) (l : List S47) (h40 : l.length ≤ 40) {r : Nat} (hr : r < l.length) : rd (planL rest l) (oS l r : Nat) = col rest l r := by
  unfold rd
  rw [planL_eq, Int.toNat_natCast, take_getD (oS_lt hr)]
  exact st_at rest l h40 l.length (Nat.le_refl _) r hr
theorem planL_mem (rest : Int) (l : List S47) (h40 : l.length ≤ 40) {x : Int} (h : x ∈ planL rest l) : ∃ r, r < l.length ∧ x = col rest l r := by
  obtain ⟨i, hi, e⟩ := List.mem_iff_getElem.1 h
  rw [planL_len h40] at hi
  obtain ⟨r, hr, e2⟩ := oS_sur hi
  refine ⟨r, hr, ?_⟩
  rw [← planL_at rest l h40 hr, e2, rdI_at (by rw [planL_len h40]; exact hi)]
  exact e.symm
theorem planL_bd (rest : Int) (l : List S47) (h40 : l.length ≤ 40) {x : Int} (h : x ∈ planL rest l) : 0 ≤ x ∧ x ≤ 39 := by
  obtain ⟨r, hr, e⟩ := planL_mem rest l h40 h
  have := col_le rest l h40 hr
  omega
def passR (rest : Int) (l : List S47) : List Int × Int × Int := if chk rest l = 0 then (planL rest l, passN (planL rest l), 0) else ([], 0, chk rest l)
theorem Passes_f (rest : Int) (l : List S47) : punch_Passes.f rest l = some (passR rest l) := by
  unfold punch_Passes.f passR
  rw [check_f]
  show (if chk rest l = 0 then _ else _) = _
  by_cases c : chk rest l = 0
  · have h40 := chk_len c
    have := passes_f (planL rest l) (fun x hx => by have := planL_bd rest l h40 hx; omega) (by rw [planL_len h40]; omega)
    rw [planL_len h40] at this
    rw [if_pos c, if_pos c, if_pos h40, this]
    rfl
  · rw [if_neg c, if_neg c]
end Go.Proofs.Ytegffliopblajaa.P
end
