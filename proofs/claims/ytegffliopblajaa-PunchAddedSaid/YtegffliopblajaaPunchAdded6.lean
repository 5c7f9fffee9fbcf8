/- Words and contracts for a claim. -/
import Derived.Test.YtegffliopblajaaPunchAdded5

section
open List (setIfInBounds_toArray set_cons_zero set_cons_succ)
section
namespace Go.Proofs.Ytegffliopblajaa.P
open Go.RowKit Go.Proofs.YtegffliopblajaaW.PrintWords Go.Proofs.YtegffliopblajaaW.PrintLast Go.Proofs.YtegffliopblajaaW.PrintMore
attribute [local go_sem] max2_int min2_int max_two min_two max_three min_three max_four min_four
set_option linter.unusedVariables false
set_option linter.unusedSimpArgs false
mutual
def pianolalaw03_PunchAdded.l0 : Nat → Int → Int → Int → Int → Int → List (S47) → Option (Bool)
  | 0, _, _, _, _, _, _ => none
  | k + 1, x27, x28, x119000, x119001, x124000, x124001 => if x28 < x27 then (pianolalaw03_PunchAdded.l1 k x28 x27 x28 x119000 x119001 x124000 x124001) else ((punch_Passes.f x124000 x124001).bind fun bt130 => (if bt130.2.2 = 0 then (pianolalaw03_PunchAdded.j2 k bt130.1 ((bt130.1.length : Int) != (x124001.length : Int)) x119000 x119001 x124000 x124001) else (pianolalaw03_PunchAdded.j2 k bt130.1 true x119000 x119001 x124000 x124001)))
def pianolalaw03_PunchAdded.l1 : Nat → Int → Int → Int → Int → Int → Int → List (S47) → Option (Bool)
  | 0, _, _, _, _, _, _, _ => none
  | k + 1, x7, x27, x28, x119000, x119001, x124000, x124001 => if x7 > 0 then (if 0 ≤ x7 then (if x7 < (x124001.length : Int) then (if 0 ≤ (wrap64 (x7 - 1)) then (if (wrap64 (x7 - 1)) < (x124001.length : Int) then (if ((rd_T47 x124001 x7).f0) < ((rd_T47 x124001 (wrap64 (x7 - 1))).f0) then (pianolalaw03_PunchAdded.l1 k (wrap64 (x7 - 1)) x27 x28 x119000 x119001 x124000 ((x124001.set (x7 : Int).toNat (⟨(rd_T47 x124001 (wrap64 (x7 - 1))).f0, (rd_T47 x124001 (wrap64 (x7 - 1))).f1⟩ : S47)).set ((wrap64 (x7 - 1)) : Int).toNat (⟨(rd_T47 x124001 x7).f0, (rd_T47 x124001 x7).f1⟩ : S47))) else (pianolalaw03_PunchAdded.l0 k x27 (wrap64 (x28 + 1)) x119000 x119001 x124000 x124001)) else (none)) else (none)) else (none)) else (none)) else (pianolalaw03_PunchAdded.l0 k x27 (wrap64 (x28 + 1)) x119000 x119001 x124000 x124001)
def pianolalaw03_PunchAdded.j2 : Nat → List Int → Bool → Int → Int → Int → List (S47) → Option (Bool)
  | 0, _, _, _, _, _, _ => none
  | k + 1, x8, x88, x119000, x119001, x124000, x124001 => if x88 = true then (some false) else (pianolalaw03_PunchAdded.l2 k x8 ([] : List Int) x124001 (x124001.length : Int) 0 x119000 x119001 x124000 ([] : List (S47)))
def pianolalaw03_PunchAdded.l2 : Nat → List Int → List Int → List (S47) → Int → Int → Int → Int → Int → List (S47) → Option (Bool)
  | 0, _, _, _, _, _, _, _, _, _ => none
  | k + 1, x8, x12, x93, x94, x95, x119000, x119001, x136000, x136001 => if x95 < x94 then (if 0 ≤ x95 then (if x95 < (x93.length : Int) then ((punch_Add.f x136000 x136001 x12 ((rd_T47 x93 x95).f0) ((rd_T47 x93 x95).f1)).bind fun bt138 => (if bt138.2 = 0 then (if x95 < (x8.length : Int) then (if bt138.1 = (rd x8 x95) then ((some (([(⟨(rd_T47 x93 x95).f0, (rd_T47 x93 x95).f1⟩ : S47)] : List (S47)) : List (S47))).bind fun y141 => (if x136001.length + y141.length < 8796093022208 then ((some (([bt138.1] : List Int) : List Int)).bind fun y147 => (if x12.length + y147.length < 17592186044416 then (pianolalaw03_PunchAdded.l2 k x8 (x12 ++ y147) x93 x94 (wrap64 (x95 + 1)) x119000 x119001 x136000 (x136001 ++ y141)) else (none))) else (none))) else (some false)) else (none)) else (some false))) else (none)) else (none)) else ((punch_Add.f x136000 x136001 x12 (Int.tmod (wrap64 (x119000)) 40) (wrap64 ((wrap64 ((Int.tmod (wrap64 (x119000)) 40) + 1)) + (Int.tmod (wrap64 (x119001)) 12)))).bind fun bt154 => ((some (([(⟨Int.tmod (wrap64 (x119000)) 40, wrap64 ((wrap64 ((Int.tmod (wrap64 (x119000)) 40) + 1)) + (Int.tmod (wrap64 (x119001)) 12))⟩ : S47)] : List (S47)) : List (S47))).bind fun y156 => (if x136001.length + y156.length < 8796093022208 then ((some (x136001 ++ y156 : List (S47))).bind fun y159 => ((some (([bt154.1] : List Int) : List Int)).bind fun y162 => (if x12.length + y162.length < 17592186044416 then ((some (x12 ++ y162 : List Int)).bind fun y165 => ((punch_Verify.f x136000 y159 y165).bind fun bt168 => (if bt154.2 = 0 then (if bt168.2 = 0 then ((pianolalaw03_good.f k x136000 y159 y165).bind fun t170 => (if t170 = true then (pianolalaw03_PunchAdded.j4 k y165 bt154.1 (decide (bt154.1 < 0)) x136000 y159) else (pianolalaw03_PunchAdded.j4 k y165 bt154.1 true x136000 y159))) else (pianolalaw03_PunchAdded.j4 k y165 bt154.1 true x136000 y159)) else (pianolalaw03_PunchAdded.j4 k y165 bt154.1 true x136000 y159)))) else (none)))) else (none))))
def pianolalaw03_PunchAdded.j4 : Nat → List Int → Int → Bool → Int → List (S47) → Option (Bool)
  | 0, _, _, _, _, _ => none
  | k + 1, x12, x19, x179, x136000, x136001 => if x179 = true then (some false) else (pianolalaw03_PunchAdded.l3 k x12 x19 0 x136000 x136001)
def pianolalaw03_PunchAdded.l3 : Nat → List Int → Int → Int → Int → List (S47) → Option (Bool)
  | 0, _, _, _, _, _ => none
  | k + 1, x12, x19, x22, x136000, x136001 => if x22 < x19 then ((some (([] : List Int) : List Int)).bind fun y171 => (if 0 ≤ (wrap64 ((x12.length : Int) - 1)) then (if (wrap64 ((x12.length : Int) - 1)) ≤ (x12.length : Int) then ((some (x12.take ((wrap64 ((x12.length : Int) - 1)) : Int).toNat : List Int)).bind fun y174 => (if y171.length + y174.length < 17592186044416 then ((some (y171 ++ y174 : List Int)).bind fun y178 => ((some (([x22] : List Int) : List Int)).bind fun y181 => (if y178.length + y181.length < 17592186044416 then ((pianolalaw03_good.f k x136000 x136001 (y178 ++ y181)).bind fun t187 => (if t187 = true then (some false) else (pianolalaw03_PunchAdded.l3 k x12 x19 (wrap64 (x22 + 1)) x136000 x136001))) else (none)))) else (none))) else (none)) else (none))) else ((pianolalaw03_works.f).bind fun t188 => (some t188))
end
def pianolalaw03_PunchAdded.f (k : Nat) (a0_0 : Int) (l0_1 : List (S82)) (a1_0 : Int) (a1_1 : Int) : Option (Bool) := (pianolalaw03_Lane_made.f k a0_0 l0_1).bind fun bt119 => (pianolalaw03_PunchAdded.l0 k (bt119.2.length : Int) 0 a1_0 a1_1 bt119.1 bt119.2)
def pianolalaw03_PunchAdded.T8 : Bool × List (List Nat × List Nat) := (true, [([], []), ([0], [0]), ([], []), ([], []), ([3], [3]), ([], []), ([5], [5]), ([], []), ([7], [7]), ([], []), ([9], [9]), ([8, 10], [8, 10]), ([11], [11]), ([], []), ([13], [13]), ([], []), ([14, 15], [14, 15]), ([16], [16]), ([1, 2, 0, 1, 2, 7, 8, 9, 10, 11, 12, 17], [1, 2]), ([18, 12, 0, 1, 2, 7, 8, 9, 10, 11, 12, 17], [12, 18]), ([4, 6, 0, 1, 2, 3, 4, 5, 6, 7, 8, 9, 10, 11, 12, 13, 14, 15, 16, 17, 18, 19], [4, 6]), ([20, 17, 19, 0, 1, 2, 3, 4, 5, 6, 7, 8, 9, 10, 11, 12, 13, 14, 15, 16, 17, 18, 19], [17, 20])])
def pianolalaw03_PunchAdded.B8 : List Nat := [0, 1, 0, 0, 8, 0, 32, 0, 128, 0, 512, 1920, 3968, 0, 8192, 0, 57344, 122880, 262023, 524167, 1048575, 2097151]
theorem pianolalaw03_PunchAdded.tab8 : rtab .any (opsOf Try.f11 8) = pianolalaw03_PunchAdded.T8 := by kernel_rfl
theorem pianolalaw03_PunchAdded.bits8 : waitsOk pianolalaw03_PunchAdded.T8.2 pianolalaw03_PunchAdded.B8 = true := by kernel_rfl
def pianolalaw03_PunchAdded.T6 : Bool × List (List Nat × List Nat) := (true, [([], []), ([0], [0]), ([1], [1]), ([2], [2]), ([3, 2], [2, 3]), ([2], [2]), ([4, 5, 2], [2, 4, 5]), ([6, 2], [2, 6]), ([7, 2], [2, 7]), ([2], [2]), ([9, 2], [2, 9]), ([2], [2]), ([11, 2], [2, 11]), ([10, 12, 2], [2, 10, 12]), ([13, 2], [2, 13]), ([14, 2], [2, 14]), ([8, 15, 2], [2, 8, 15]), ([2, 16], [2, 16])])
def pianolalaw03_PunchAdded.B6 : List Nat := [0, 1, 3, 7, 15, 7, 63, 127, 255, 7, 519, 7, 2055, 7687, 15879, 32263, 65535, 131071]
theorem pianolalaw03_PunchAdded.tab6 : rtab .any (opsOf Try.f11 6) = pianolalaw03_PunchAdded.T6 := by kernel_rfl
theorem pianolalaw03_PunchAdded.bits6 : waitsOk pianolalaw03_PunchAdded.T6.2 pianolalaw03_PunchAdded.B6 = true := by kernel_rfl
def pianolalaw03_PunchAdded.T33 : Bool × List (List Nat × List Nat) := (true, [([], []), ([], []), ([], []), ([], []), ([3], [3]), ([4], [4]), ([2, 5], [2, 5]), ([1, 6], [1, 6]), ([], []), ([8], [8]), ([7, 9, 7], [7, 9]), ([0, 10, 10], [0, 10])])
def pianolalaw03_PunchAdded.B33 : List Nat := [0, 0, 0, 0, 8, 24, 60, 126, 0, 256, 1022, 2047]
theorem pianolalaw03_PunchAdded.tab33 : rtab .any (opsOf Try.f11 33) = pianolalaw03_PunchAdded.T33 := by kernel_rfl
theorem pianolalaw03_PunchAdded.bits33 : waitsOk pianolalaw03_PunchAdded.T33.2 pianolalaw03_PunchAdded.B33 = true := by kernel_rfl
theorem pianolalaw03_PunchAdded.j2_no {r : Bool} : ∀ {k : Nat} {x8 : List Int} {x119000 : Int} {x119001 : Int} {x124000 : Int} {x124001 : List (S47)}, pianolalaw03_PunchAdded.j2 k x8 true x119000 x119001 x124000 x124001 = some r → r = true → False
  | 0, _, _, _, _, _ => by
    intro h
    simp [pianolalaw03_PunchAdded.j2] at h
  | k + 1, _, _, _, _, _ => by
    intro h hr
    rw [pianolalaw03_PunchAdded.j2, if_pos rfl] at h
    subst hr
    exact absurd (Option.some.inj h) (by decide)
theorem pianolalaw03_PunchAdded.j4_no {r : Bool} : ∀ {k : Nat} {x12 : List Int} {x19 : Int} {x136000 : Int} {x136001 : List (S47)}, pianolalaw03_PunchAdded.j4 k x12 x19 true x136000 x136001 = some r → r = true → False
  | 0, _, _, _, _ => by
    intro h
    simp [pianolalaw03_PunchAdded.j4] at h
  | k + 1, _, _, _, _ => by
    intro h hr
    rw [pianolalaw03_PunchAdded.j4, if_pos rfl] at h
    subst hr
    exact absurd (Option.some.inj h) (by decide)
set_option maxHeartbeats 8000000 in
set_option maxRecDepth 100000 in
theorem pianolalaw03_PunchAdded.calls (k : Nat) (a0_0 : Int) (A0_1 : Option Addr) (c0_1 : Nat) (l0_1 : List (S82)) (a1_0 : Int) (a1_1 : Int) (r : Bool) (hrt : r = true) (w : World) (hr0_1 : Kd.C k82 w A0_1 l0_1.length l0_1) (hc0_1 : l0_1.length ≤ c0_1) (h : pianolalaw03_PunchAdded.f k a0_0 l0_1 a1_0 a1_1 = some r) :
  Calls Try.prog 11 #[.agg #[.int .u8 a0_0, .slice A0_1 l0_1.length c0_1], .agg #[.int .u8 a1_0, .int .u8 a1_1]] w fun e w' => e = .returned (.bool r) ∧ Below w.heap.size w w' := by
 have HRT := zA hrt
 clear hrt
 have hu74 := Try.underlying74
 have hu82 := Try.underlying82
 have hu24 := Try.underlying24
 have hu47 := Try.underlying47
 have HR0_1 := zA hr0_1
 have HC0_1 := zA hc0_1
 clear hr0_1 hc0_1
 have HB := zA (Below.refl w.heap.size w)
 have H : ((pianolalaw03_Lane_made.f k a0_0 l0_1).bind fun bt119 => (pianolalaw03_PunchAdded.l0 k (bt119.2.length : Int) 0 a1_0 a1_1 bt119.1 bt119.2)) = some r := h
 clear h
 replace H := Option.bind_eq_some_iff.mp H
 obtain ⟨⟨t119, t120⟩, A30, H⟩ := H
 replace H : (pianolalaw03_PunchAdded.l0 k (t120.length : Int) 0 a1_0 a1_1 t119 t120) = some r := H
 have A3 := zA A30
 clear A30
 have H' := zA H
 clear H
 go_enter Try.func11, Try.ntmps11
 go_wp2_with (first | ((with_reducible refine gate_dst (N := 2) rfl ?_); (try (refine gate_guard (by rfl) ?_; dsimp only)); refine box_event ?hg (N := 2) ?hd (cs := #[.int .u8 a0_0, .slice A0_1 l0_1.length c0_1]) (t := 74) ?hr ?_; (case hd => rfl); (case hg => rfl); (case hr => first | (go_simp; done) | (go_simp; rfl)); intro gb117 hg w4 hbox hb; have n0_ := zA (below_step (zqA HB.out) hb); have n1_ := zA (hbox); have n2_ := zA ((by rw [hg]; exact (below_size (zqA HB.out)) : w.heap.size ≤ gb117)); have n3_ := zA ((by rw [hg]; exact (below_size (zqA HB.out)) : w.heap.size ≤ gb117)); clear HB; have HB := n0_; have BK117 := n1_; have GW117 := n2_; have GE117 := n3_; clear n0_ n1_ n2_ n3_; clear hb hbox hg) | ((with_reducible refine gate_dst (N := 3) rfl ?_); (try (refine gate_guard (by rfl) ?_; dsimp only)); refine box_event ?hg (N := 3) ?hd (cs := #[.int .u8 a1_0, .int .u8 a1_1]) (t := 82) ?hr ?_; (case hd => rfl); (case hg => rfl); (case hr => first | (go_simp; done) | (go_simp; rfl)); intro gb118 hg w5 hbox hb; have n0_ := zA (blk_below (g := gb117) (o := .cells #[.int .u8 a0_0, .slice A0_1 l0_1.length c0_1] 74 (0, 0)) (zqB BK117.out) hb); have n1_ := zA (below_step (zqG HB.out GE117.out) hb); have n2_ := zA (hbox); have n3_ := zA ((by rw [hg]; exact (below_size (zqG HB.out GE117.out)) : w.heap.size ≤ gb118)); have n4_ := zA ((by rw [hg]; exact (below_size (zqG HB.out GE117.out)) : w.heap.size ≤ gb118)); have n5_ := zA ((by rw [hg]; exact Nat.ne_of_lt (blk_lt (g := gb117) (o := .cells #[.int .u8 a0_0, .slice A0_1 l0_1.length c0_1] 74 (0, 0)) (zqB BK117.out)) : gb117 ≠ gb118)); have n6_ := zA ((by rw [hg]; exact Nat.ne_of_gt (blk_lt (g := gb117) (o := .cells #[.int .u8 a0_0, .slice A0_1 l0_1.length c0_1] 74 (0, 0)) (zqB BK117.out)) : gb118 ≠ gb117)); clear BK117; clear HB; have BK117 := n0_; have HB := n1_; have BK118 := n2_; have GW118 := n3_; have GE118 := n4_; have NB117_118 := n5_; have NB118_117 := n6_; clear n0_ n1_ n2_ n3_ n4_ n5_ n6_; clear hb hbox hg; have hnb6 := NB117_118.out; have hnc6 := NB118_117.out; have hcz7_0 : w5.cell? ⟨gb117, 0, none⟩ = some (.int .u8 a0_0) := (blk_cell BK117.out 0).trans rfl; have hcz7_1 : w5.cell? ⟨gb117, 1, none⟩ = some (.slice A0_1 l0_1.length c0_1) := (blk_cell BK117.out 1).trans rfl; have hfz7_0 := blk_frozen BK117.out 0; have hfz7_1 := blk_frozen BK117.out 1) | ((with_reducible refine gate_callee (f := 38) rfl ?_); refine goesL_ (some 24) rfl rfl Try.func38 (by kernel_rfl) rfl #[.agg #[.int .u8 a0_0, .slice A0_1 l0_1.length c0_1]] rfl zqE ?_; (with_reducible refine (pianolalaw03_Lane_made.calls k a0_0 _ _ l0_1 t119 t120 _ ?side1 ?side2 A3.out).mono ?_); (case side1 => exact zqK (Kd.C_below HR0_1.out HB.out)); (case side2 => exact HC0_1.out); rintro e w8 ⟨v121, rfl, ho0, hb⟩; refine ⟨_, rfl, ?_⟩; have n0_ := zA (Kd.R_lower ho0 (below_size (zqH HB.out GE117.out GE118.out))); have n1_ := zA (blk_below (g := gb117) (o := .cells #[.int .u8 a0_0, .slice A0_1 l0_1.length c0_1] 74 (0, 0)) (zqB BK117.out) hb); have n2_ := zA (blk_below (g := gb118) (o := .cells #[.int .u8 a1_0, .int .u8 a1_1] 82 (0, 0)) (zqB BK118.out) hb); have n3_ := zA (below_step (zqH HB.out GE117.out GE118.out) hb); clear BK117; clear BK118; clear HB; have HO122 := n0_; have BK117 := n1_; have BK118 := n2_; have HB := n3_; clear n0_ n1_ n2_ n3_; (try clear hb); (try clear hb2); (try clear hk); (try clear hi); (try clear ho0)) | ((with_reducible refine gate_dst (N := 5) rfl ?_); (try (refine gate_guard (by rfl) ?_; dsimp only)); refine box_event ?hg (N := 5) ?hd (cs := #[.int .i64 0, .slice none 0 0]) (t := 24) ?hr ?_; (case hd => rfl); (case hg => rfl); (case hr => first | (go_simp; done) | (go_simp; rfl)); intro gb123 hg w9 hbox hb; have n0_ := zA (Kd.R_below (zqC HO122.out) hb); have n1_ := zA (blk_below (g := gb117) (o := .cells #[.int .u8 a0_0, .slice A0_1 l0_1.length c0_1] 74 (0, 0)) (zqB BK117.out) hb); have n2_ := zA (blk_below (g := gb118) (o := .cells #[.int .u8 a1_0, .int .u8 a1_1] 82 (0, 0)) (zqB BK118.out) hb); have n3_ := zA (below_step (zqH HB.out GE117.out GE118.out) hb); have n4_ := zA (hbox); have n5_ := zA ((by rw [hg]; exact (below_size (zqH HB.out GE117.out GE118.out)) : w.heap.size ≤ gb123)); have n6_ := zA ((by rw [hg]; exact (below_size (zqH HB.out GE117.out GE118.out)) : w.heap.size ≤ gb123)); have n7_ := zA ((by rw [hg]; exact Nat.ne_of_lt (blk_lt (g := gb117) (o := .cells #[.int .u8 a0_0, .slice A0_1 l0_1.length c0_1] 74 (0, 0)) (zqB BK117.out)) : gb117 ≠ gb123)); have n8_ := zA ((by rw [hg]; exact Nat.ne_of_gt (blk_lt (g := gb117) (o := .cells #[.int .u8 a0_0, .slice A0_1 l0_1.length c0_1] 74 (0, 0)) (zqB BK117.out)) : gb123 ≠ gb117)); have n9_ := zA ((by rw [hg]; exact Nat.ne_of_lt (blk_lt (g := gb118) (o := .cells #[.int .u8 a1_0, .int .u8 a1_1] 82 (0, 0)) (zqB BK118.out)) : gb118 ≠ gb123)); have n10_ := zA ((by rw [hg]; exact Nat.ne_of_gt (blk_lt (g := gb118) (o := .cells #[.int .u8 a1_0, .int .u8 a1_1] 82 (0, 0)) (zqB BK118.out)) : gb123 ≠ gb118)); clear HO122; clear BK117; clear BK118; clear HB; have HO122 := n0_; have BK117 := n1_; have BK118 := n2_; have HB := n3_; have BK123 := n4_; have GW123 := n5_; have GE123 := n6_; have NB117_123 := n7_; have NB123_117 := n8_; have NB118_123 := n9_; have NB123_118 := n10_; clear n0_ n1_ n2_ n3_ n4_ n5_ n6_ n7_ n8_ n9_ n10_; clear hb hbox hg; have hnb10 := NB123_117.out; have hnc10 := NB117_123.out; have hnb11 := NB123_118.out; have hnc11 := NB118_123.out; have hcz12_0 : w9.cell? ⟨gb123, 0, none⟩ = some (.int .i64 0) := (blk_cell BK123.out 0).trans rfl; have hcz12_1 : w9.cell? ⟨gb123, 1, none⟩ = some (.slice none 0 0) := (blk_cell BK123.out 1).trans rfl; have hfz12_0 := blk_frozen BK123.out 0; have hfz12_1 := blk_frozen BK123.out 1; obtain ⟨Ao13, co13, eo13⟩ := Kd.R_slice HO122.out; subst eo13))
 go_loopg [28] k (fun kq v28 w' => ∃ (x28_1 : Int) (x124001_1 : List (S47)) (u124001 : Value), v28 = .int .i64 x28_1 ∧ Aside0 (pianolalaw03_PunchAdded.l0 kq (t120.length : Int) x28_1 a1_0 a1_1 t119 x124001_1 = some r) ∧ Aside0 (kq ≤ k) ∧ Aside0 (Kd.R k47 47 w' w.heap.size (fun _ => True) u124001 x124001_1) ∧ Aside0 (w'.heap[gb117]? = some (.cells #[.int .u8 a0_0, (.slice A0_1 l0_1.length c0_1)] 74 (0, 0))) ∧ Aside0 (w'.heap[gb118]? = some (.cells #[.int .u8 a1_0, .int .u8 a1_1] 82 (0, 0))) ∧ Aside0 (w'.heap[gb123]? = some (.cells #[.int .i64 t119, u124001] 24 (0, 0))) ∧ Aside0 (Below w.heap.size w w'))
 case atStart => exact ⟨(0), (t120), (.slice Ao13 t120.length co13), zqQ, H', ⟨Nat.le_refl _⟩, ⟨by (with_reducible repeat (first | apply Kd.R_alloc | apply Kd.R_drewN | apply Kd.R_drew)); exact Kd.R_mono (Kd.R_far (p := ⟨gb123, 1, none⟩) (Kd.R_far (p := ⟨gb123, 0, none⟩) (Kd.R_types HO122.out BK123.out (by decide)) (fun _ hk => hk.2) (.int .i64 t119)) (fun _ hk => hk.2) (.slice Ao13 t120.length co13)) (fun _ hk => trivial)⟩, ⟨by (with_reducible repeat (first | refine blk_drewN ?_ _ | refine blk_drew ?_ | refine blk_alloc ?_ _)); refine blk_far ?_ NB117_123.out _; (with_reducible repeat (first | refine blk_drewN ?_ _ | refine blk_drew ?_ | refine blk_alloc ?_ _)); refine blk_far ?_ NB117_123.out _; (with_reducible repeat (first | refine blk_drewN ?_ _ | refine blk_drew ?_ | refine blk_alloc ?_ _)); exact BK117.out⟩, ⟨by (with_reducible repeat (first | refine blk_drewN ?_ _ | refine blk_drew ?_ | refine blk_alloc ?_ _)); refine blk_far ?_ NB118_123.out _; (with_reducible repeat (first | refine blk_drewN ?_ _ | refine blk_drew ?_ | refine blk_alloc ?_ _)); refine blk_far ?_ NB118_123.out _; (with_reducible repeat (first | refine blk_drewN ?_ _ | refine blk_drew ?_ | refine blk_alloc ?_ _)); exact BK118.out⟩, ⟨by (with_reducible repeat (first | refine blk_drewN ?_ _ | refine blk_drew ?_ | refine blk_alloc ?_ _)); refine blk_put (cs := #[.int .i64 t119, .slice none 0 0]) ?_ 1 _ rfl; (with_reducible repeat (first | refine blk_drewN ?_ _ | refine blk_drew ?_ | refine blk_alloc ?_ _)); refine blk_put (cs := #[.int .i64 0, .slice none 0 0]) ?_ 0 _ rfl; (with_reducible repeat (first | refine blk_drewN ?_ _ | refine blk_drew ?_ | refine blk_alloc ?_ _)); exact BK123.out⟩, ⟨zqI HB.out GE117.out GE118.out GE123.out⟩⟩
 case round => as_aux_lemma =>
  clear H'
  try clear c1
  try clear p2
  try clear c3
  try clear c6
  try clear c10
  try clear c11
  try clear hcz12_0
  try clear hcz12_1
  try clear hcz7_0
  try clear hcz7_1
  try clear hfz12_0
  try clear hfz12_1
  try clear hfz7_0
  try clear hfz7_1
  obtain ⟨x28_1, x124001_1, u124001, rfl, HA, HK1, HO_124001, BK117, BK118, BK123, HB⟩ := hrel
  cases gk with
  | zero => exact absurd HA.out (by simp [pianolalaw03_PunchAdded.l0])
  | succ k1 =>
   have H := HA.out
   clear HA
   simp only [pianolalaw03_PunchAdded.l0] at H
   by_cases c14 : x28_1 < (t120.length : Int)
   ·
    rw [if_pos c14] at H
    have c14b0 : decide (x28_1 < (t120.length : Int)) = true := decide_eq_true c14
    clear c14
    have H' := zA H
    clear H
    go_wp2
    go_loopg [7] k1 (fun kq v7 w' => ∃ (x7_2 : Int) (x124001_2 : List (S47)) (u124001 : Value), v7 = .int .i64 x7_2 ∧ Aside0 (pianolalaw03_PunchAdded.l1 kq x7_2 (t120.length : Int) x28_1 a1_0 a1_1 t119 x124001_2 = some r) ∧ Aside0 (kq ≤ k1) ∧ Aside0 (Kd.R k47 47 w' w.heap.size (fun _ => True) u124001 x124001_2) ∧ Aside0 (w'.heap[gb117]? = some (.cells #[.int .u8 a0_0, (.slice A0_1 l0_1.length c0_1)] 74 (0, 0))) ∧ Aside0 (w'.heap[gb118]? = some (.cells #[.int .u8 a1_0, .int .u8 a1_1] 82 (0, 0))) ∧ Aside0 (w'.heap[gb123]? = some (.cells #[.int .i64 t119, u124001] 24 (0, 0))) ∧ Aside0 (Below w.heap.size w w'))
    case atStart => exact ⟨(x28_1), (x124001_1), (u124001), zqQ, H', ⟨Nat.le_refl _⟩, ⟨zqC HO_124001.out⟩, ⟨zqB BK117.out⟩, ⟨zqB BK118.out⟩, ⟨zqB BK123.out⟩, ⟨zqI HB.out GE117.out GE118.out GE123.out⟩⟩
    case round => as_aux_lemma =>
     clear H'
     try clear c1
     try clear p2
     try clear c3
     try clear c6
     try clear c10
     try clear c11
     try clear c14
     try clear c14b0
     try clear hcz12_0
     try clear hcz12_1
     try clear hcz7_0
     try clear hcz7_1
     try clear hfz12_0
     try clear hfz12_1
     try clear hfz7_0
     try clear hfz7_1
     try clear p2
     obtain ⟨x7_2, x124001_2, u124001, rfl, HA, HK2, HO_124001, BK117, BK118, BK123, HB⟩ := hrel
     cases gk with
     | zero => exact absurd HA.out (by simp [pianolalaw03_PunchAdded.l1])
     | succ k2 =>
      have H := HA.out
      clear HA
      simp only [pianolalaw03_PunchAdded.l1] at H
      by_cases c15 : x7_2 > 0
      ·
       rw [if_pos c15] at H
       have c15b0 : decide (0 < x7_2) = true := decide_eq_true c15
       clear c15
       by_cases c16 : 0 ≤ x7_2
       ·
        rw [if_pos c16] at H
        have c16b0 : decide (0 ≤ x7_2) = true := decide_eq_true c16
        clear c16
        by_cases c17 : x7_2 < (x124001_2.length : Int)
        ·
         rw [if_pos c17] at H
         have c17b0 : decide (x7_2 < (x124001_2.length : Int)) = true := decide_eq_true c17
         clear c17
         obtain ⟨ji18, hji18⟩ : ∃ j_ : Int, (wrap64 (x7_2 - 1)) = j_ := ⟨_, rfl⟩
         replace H : (if 0 ≤ (ji18) then (if (ji18) < (x124001_2.length : Int) then (if ((rd_T47 x124001_2 x7_2).f0) < ((rd_T47 x124001_2 (ji18)).f0) then (pianolalaw03_PunchAdded.l1 k2 ji18 (t120.length : Int) x28_1 a1_0 a1_1 t119 ((x124001_2.set (x7_2 : Int).toNat (⟨(rd_T47 x124001_2 (ji18)).f0, (rd_T47 x124001_2 (ji18)).f1⟩ : S47)).set ((ji18) : Int).toNat (⟨(rd_T47 x124001_2 x7_2).f0, (rd_T47 x124001_2 x7_2).f1⟩ : S47))) else (pianolalaw03_PunchAdded.l0 k2 (t120.length : Int) (wrap64 (x28_1 + 1)) a1_0 a1_1 t119 x124001_2)) else (none)) else (none)) = some r := by first | (rw [hji18] at H; exact H) | (simp only [hji18] at H ⊢; exact H)
         have hji18w : (IntKind.i64.wrap (x7_2 - 1)) = ji18 := (i64_w _).trans hji18
         by_cases c19 : 0 ≤ (ji18)
         ·
          rw [if_pos c19] at H
          have c19b0 : decide (0 ≤ (ji18)) = true := decide_eq_true c19
          clear c19
          by_cases c20 : (ji18) < (x124001_2.length : Int)
          ·
           rw [if_pos c20] at H
           have c20b0 : decide ((ji18) < (x124001_2.length : Int)) = true := decide_eq_true c20
           clear c20
           by_cases c21 : ((rd_T47 x124001_2 x7_2).f0) < ((rd_T47 x124001_2 (ji18)).f0)
           ·
            rw [if_pos c21] at H
            have c21b0 : decide (((rd_T47 x124001_2 x7_2).f0) < ((rd_T47 x124001_2 (ji18)).f0)) = true := decide_eq_true c21
            clear c21
            obtain ⟨y128, hy128⟩ : ∃ y_ : List (S47), y_ = (x124001_2.set (x7_2 : Int).toNat (⟨(rd_T47 x124001_2 (ji18)).f0, (rd_T47 x124001_2 (ji18)).f1⟩ : S47)) := ⟨_, rfl⟩
            replace H : (pianolalaw03_PunchAdded.l1 k2 ji18 (t120.length : Int) x28_1 a1_0 a1_1 t119 (y128.set ((ji18) : Int).toNat (⟨(rd_T47 x124001_2 x7_2).f0, (rd_T47 x124001_2 x7_2).f1⟩ : S47))) = some r := zqF hy128 H
            have Ny128 := zA hy128
            clear hy128
            obtain ⟨y129, hy129⟩ : ∃ y_ : List (S47), y_ = (y128.set ((ji18) : Int).toNat (⟨(rd_T47 x124001_2 x7_2).f0, (rd_T47 x124001_2 x7_2).f1⟩ : S47)) := ⟨_, rfl⟩
            replace H : (pianolalaw03_PunchAdded.l1 k2 ji18 (t120.length : Int) x28_1 a1_0 a1_1 t119 y129) = some r := zqF hy129 H
            have Ny129 := zA hy129
            clear hy129
            have H' := zA H
            clear H
            try go_wp2
            have n0_ := zA (Kd.R_drew HO_124001.out); have n1_ := zA (blk_drew BK117.out); have n2_ := zA (blk_drew BK118.out); have n3_ := zA (blk_drew BK123.out); have n4_ := zA (below_drew1 HB.out); clear HO_124001 BK117 BK118 BK123 HB; have HO_124001 := n0_; have BK117 := n1_; have BK118 := n2_; have BK123 := n3_; have HB := n4_; clear n0_ n1_ n2_ n3_ n4_
            obtain ⟨Ao25, co25, eo25⟩ := Kd.R_slice HO_124001.out
            (first | subst eo25 | (injection eo25 with f1_ f2_ f3_; have f4_ := f1_.symm; have f5_ := f3_.symm; clear f1_ f2_ f3_; subst f4_; subst f5_))
            have p124 : 0 ≤ (x7_2 : Int) := of_decide_eq_true (zqD)
            have q124 : x7_2 < (x124001_2.length : Int) := of_decide_eq_true (zqD)
            obtain ⟨ad124, e124, hx124_0, hx124_1⟩ := at_T47 (Kd.R_reads' HO_124001.out).2.2 x7_2 p124 q124
            cases e124; replace p124 := eq_true p124; replace q124 := eq_true q124
            have p125 : 0 ≤ ((ji18) : Int) := of_decide_eq_true (zqD)
            have q125 : (ji18) < (x124001_2.length : Int) := of_decide_eq_true (zqD)
            obtain ⟨ad125, e125, hx125_0, hx125_1⟩ := at_T47 (Kd.R_reads' HO_124001.out).2.2 (ji18) p125 q125
            obtain rfl : ad124 = ad125 := (by injection e125)
            replace p125 := eq_true p125; replace q125 := eq_true q125
            refine start_ (n := 18) (S := fun w' => w'.cell? ⟨gb123, 0, none⟩ = some (.int .i64 t119) ∧ w'.cell? ⟨gb123, 1, none⟩ = some (.slice (some ad124) x124001_2.length co25) ∧ w'.cell? (ad124.add ((x7_2).toNat * 2)) = some (.int .i64 ((rd_T47 x124001_2 x7_2).f0)) ∧ w'.cell? ⟨(ad124.add ((x7_2).toNat * 2)).block, (ad124.add ((x7_2).toNat * 2)).off + 1, none⟩ = some (.int .i64 ((rd_T47 x124001_2 x7_2).f1)) ∧ w'.cell? (ad124.add (((ji18)).toNat * 2)) = some (.int .i64 ((rd_T47 x124001_2 (ji18)).f0)) ∧ w'.cell? ⟨(ad124.add (((ji18)).toNat * 2)).block, (ad124.add (((ji18)).toNat * 2)).off + 1, none⟩ = some (.int .i64 ((rd_T47 x124001_2 (ji18)).f1))) (ds := []) #[false, false, false, false, false, false, false, false, false, false, false, false, false, false, false, false, false, false] (by kernel_rfl) rfl rfl ⟨(blk_cell BK123.out 0).trans rfl, (blk_cell BK123.out 1).trans rfl, hx124_0, hx124_1, hx125_0, hx125_1⟩ (fun hHeld => ?_); refine with_tabW pianolalaw03_PunchAdded.tab6 pianolalaw03_PunchAdded.bits6 (fun HT_ HW_ => ?_)
            generalize wr.drew = w24 at HO_124001 BK117 BK118 BK123 HB hx124_0 hx124_1 hx125_0 hx125_1 hHeld ⊢
            refine pure_ (i := 0) (N := some 32) (v := ?_) (a' := ?_) #[true, false, false, false, false, false, false, false, false, false, false, false, false, false, false, false, false, false] rfl rfl (any_of HT_.out (by kernel_rfl)) (fun _ _ _ h => h) (Or.inl ⟨by rfl, ?_⟩) ?_ ?_
            rotate_left
            ·
             intro w'
             go_simp
             with_reducible rfl
            rotate_left
            · simp only [Act.put, setIfInBounds_toArray, set_cons_zero, set_cons_succ, i64_w, i32_w]; rfl
            refine pure_ (i := 1) (N := some 33) (v := ?_) (a' := ?_) #[true, true, false, false, false, false, false, false, false, false, false, false, false, false, false, false, false, false] rfl rfl (any_of HT_.out (by kernel_rfl)) (fun _ _ _ h => h) (Or.inl ⟨by rfl, ?_⟩) ?_ ?_
            rotate_left
            ·
             intro w'
             go_simp
             with_reducible rfl
            rotate_left
            · simp only [Act.put, setIfInBounds_toArray, set_cons_zero, set_cons_succ, i64_w, i32_w]; rfl
            refine pure_ (i := 2) (N := some 34) (v := ?_) (a' := ?_) #[true, true, true, false, false, false, false, false, false, false, false, false, false, false, false, false, false, false] rfl rfl (any_of HT_.out (by kernel_rfl)) (fun _ _ _ h => h) (Or.inl ⟨by rfl, ?_⟩) ?_ ?_
            rotate_left
            ·
             intro w'
             go_simp
             with_reducible rfl
            rotate_left
            · simp only [Act.put, setIfInBounds_toArray, set_cons_zero, set_cons_succ, i64_w, i32_w]; rfl
            refine pure_ (i := 3) (N := some 35) (v := ?_) (a' := ?_) #[true, true, true, true, false, false, false, false, false, false, false, false, false, false, false, false, false, false] rfl rfl (any_of HT_.out (by kernel_rfl)) (fun _ _ _ h => h) (Or.inl ⟨by rfl, ?_⟩) ?_ ?_
            rotate_left
            ·
             intro w'
             go_simp
             with_reducible rfl
            rotate_left
            · simp only [Act.put, setIfInBounds_toArray, set_cons_zero, set_cons_succ, i64_w, i32_w]; rfl
            refine pure_ (i := 5) (N := some 37) (v := ?_) (a' := ?_) #[true, true, true, true, false, true, false, false, false, false, false, false, false, false, false, false, false, false] rfl rfl (any_of HT_.out (by kernel_rfl)) (fun _ _ _ h => h) (Or.inl ⟨by rfl, ?_⟩) ?_ ?_
            rotate_left
            ·
             intro w'
             go_simp
             with_reducible rfl
            rotate_left
            · simp only [Act.put, setIfInBounds_toArray, set_cons_zero, set_cons_succ, i64_w, i32_w]; rfl
            refine pure_ (i := 9) (N := some 41) (v := ?_) (a' := ?_) #[true, true, true, true, false, true, false, false, false, true, false, false, false, false, false, false, false, false] rfl rfl (any_of HT_.out (by kernel_rfl)) (fun _ _ _ h => h) (Or.inl ⟨by rfl, ?_⟩) ?_ ?_
            rotate_left
            ·
             intro w'
             go_simp
             with_reducible rfl
            rotate_left
            · simp only [Act.put, setIfInBounds_toArray, set_cons_zero, set_cons_succ, i64_w, i32_w]; rfl
            refine pure_ (i := 11) (N := some 43) (v := ?_) (a' := ?_) #[true, true, true, true, false, true, false, false, false, true, false, true, false, false, false, false, false, false] rfl rfl (any_of HT_.out (by kernel_rfl)) (fun _ _ _ h => h) (Or.inl ⟨by rfl, ?_⟩) ?_ ?_
            rotate_left
            ·
             intro w'
             go_simp
             with_reducible rfl
            rotate_left
            · simp only [Act.put, setIfInBounds_toArray, set_cons_zero, set_cons_succ, i64_w, i32_w]; rfl
            refine pure_ (i := 12) (N := some 44) (v := ?_) (a' := ?_) #[true, true, true, true, false, true, false, false, false, true, false, true, true, false, false, false, false, false] rfl rfl (any_of HT_.out (by kernel_rfl)) (fun _ _ _ h => h) (Or.inl ⟨by rfl, ?_⟩) ?_ ?_
            rotate_left
            ·
             intro w'
             go_simp
             with_reducible rfl
            rotate_left
            · simp only [Act.put, setIfInBounds_toArray, set_cons_zero, set_cons_succ, i64_w, i32_w]; rfl
            refine take_ (i := 4) (N := some 36) (v := ?_) (a' := ?_) #[true, true, true, true, true, true, false, false, false, true, false, true, true, false, false, false, false, false] rfl rfl (take_ofW HT_.out HW_.out (by kernel_rfl)) (fun _ _ _ h => h) (Or.inl ⟨by rfl, ?_⟩) hHeld ?_ ?_
            rotate_left
            ·
             rintro w' ⟨s0, s1, s2, s3, s4, s5⟩
             go_simp
             with_reducible rfl
            rotate_left
            · simp only [Act.put, setIfInBounds_toArray, set_cons_zero, set_cons_succ, i64_w, i32_w]; rfl
            refine pure_ (i := 6) (N := some 38) (v := ?_) (a' := ?_) #[true, true, true, true, true, true, true, false, false, true, false, true, true, false, false, false, false, false] rfl rfl (any_of HT_.out (by kernel_rfl)) (fun _ _ _ h => h) (Or.inl ⟨by rfl, ?_⟩) ?_ ?_
            rotate_left
            ·
             intro w'
             go_simp
             with_reducible rfl
            rotate_left
            · simp only [Act.put, setIfInBounds_toArray, set_cons_zero, set_cons_succ, i64_w, i32_w]; rfl
            refine pure_ (i := 7) (N := some 39) (v := ?_) (a' := ?_) #[true, true, true, true, true, true, true, true, false, true, false, true, true, false, false, false, false, false] rfl rfl (any_of HT_.out (by kernel_rfl)) (fun _ _ _ h => h) (Or.inl ⟨by rfl, ?_⟩) ?_ ?_
            rotate_left
            ·
             intro w'
             go_simp
             with_reducible rfl
            rotate_left
            · simp only [Act.put, setIfInBounds_toArray, set_cons_zero, set_cons_succ, i64_w, i32_w]; rfl
            refine take_ (i := 8) (N := some 40) (v := ?_) (a' := ?_) #[true, true, true, true, true, true, true, true, true, true, false, true, true, false, false, false, false, false] rfl rfl (take_ofW HT_.out HW_.out (by kernel_rfl)) (fun _ _ _ h => h) (Or.inl ⟨by rfl, ?_⟩) hHeld ?_ ?_
            rotate_left
            ·
             rintro w' ⟨s0, s1, s2, s3, s4, s5⟩
             go_simp
             with_reducible rfl
            rotate_left
            · simp only [Act.put, setIfInBounds_toArray, set_cons_zero, set_cons_succ, i64_w, i32_w]; rfl
            refine take_ (i := 10) (N := some 42) (v := ?_) (a' := ?_) #[true, true, true, true, true, true, true, true, true, true, true, true, true, false, false, false, false, false] rfl rfl (take_ofW HT_.out HW_.out (by kernel_rfl)) (fun _ _ _ h => h) (Or.inl ⟨by rfl, ?_⟩) hHeld ?_ ?_
            rotate_left
            ·
             rintro w' ⟨s0, s1, s2, s3, s4, s5⟩
             go_simp
             with_reducible rfl
            rotate_left
            · simp only [Act.put, setIfInBounds_toArray, set_cons_zero, set_cons_succ, i64_w, i32_w]; rfl
            refine pure_ (i := 13) (N := some 45) (v := ?_) (a' := ?_) #[true, true, true, true, true, true, true, true, true, true, true, true, true, true, false, false, false, false] rfl rfl (any_of HT_.out (by kernel_rfl)) (fun _ _ _ h => h) (Or.inl ⟨by rfl, ?_⟩) ?_ ?_
            rotate_left
            ·
             intro w'
             go_simp
             with_reducible rfl
            rotate_left
            · simp only [Act.put, setIfInBounds_toArray, set_cons_zero, set_cons_succ, i64_w, i32_w]; rfl
            refine pure_ (i := 14) (N := some 46) (v := ?_) (a' := ?_) #[true, true, true, true, true, true, true, true, true, true, true, true, true, true, true, false, false, false] rfl rfl (any_of HT_.out (by kernel_rfl)) (fun _ _ _ h => h) (Or.inl ⟨by rfl, ?_⟩) ?_ ?_
            rotate_left
            ·
             intro w'
             go_simp
             with_reducible rfl
            rotate_left
            · simp only [Act.put, setIfInBounds_toArray, set_cons_zero, set_cons_succ, i64_w, i32_w]; rfl
            refine take_ (i := 15) (N := some 47) (v := ?_) (a' := ?_) #[true, true, true, true, true, true, true, true, true, true, true, true, true, true, true, true, false, false] rfl rfl (take_ofW HT_.out HW_.out (by kernel_rfl)) (fun _ _ _ h => h) (Or.inl ⟨by rfl, ?_⟩) hHeld ?_ ?_
            rotate_left
            ·
             rintro w' ⟨s0, s1, s2, s3, s4, s5⟩
             go_simp
             with_reducible rfl
            rotate_left
            · simp only [Act.put, setIfInBounds_toArray, set_cons_zero, set_cons_succ, i64_w, i32_w]; rfl
            refine pure_ (i := 16) (N := some 48) (v := ?_) (a' := ?_) #[true, true, true, true, true, true, true, true, true, true, true, true, true, true, true, true, true, false] rfl rfl (any_of HT_.out (by kernel_rfl)) (fun _ _ _ h => h) (Or.inl ⟨by rfl, ?_⟩) ?_ ?_
            rotate_left
            ·
             intro w'
             go_simp
             with_reducible rfl
            rotate_left
            · simp only [Act.put, setIfInBounds_toArray, set_cons_zero, set_cons_succ, i64_w, i32_w]; rfl
            refine pure_ (i := 17) (N := some 49) (v := ?_) (a' := ?_) #[true, true, true, true, true, true, true, true, true, true, true, true, true, true, true, true, true, true] rfl rfl (any_of HT_.out (by kernel_rfl)) (fun _ _ _ h => h) (Or.inl ⟨by rfl, ?_⟩) ?_ ?_
            rotate_left
            ·
             intro w'
             go_simp
             with_reducible rfl
            rotate_left
            · simp only [Act.put, setIfInBounds_toArray, set_cons_zero, set_cons_succ, i64_w, i32_w]; rfl
            refine done_ (done_of HT_.out (by kernel_rfl)) ?_
            try go_wp2
            have n0_ := zA (Kd.R_drew HO_124001.out); have n1_ := zA (blk_drew BK117.out); have n2_ := zA (blk_drew BK118.out); have n3_ := zA (blk_drew BK123.out); have n4_ := zA (below_drew1 HB.out); clear HO_124001 BK117 BK118 BK123 HB; have HO_124001 := n0_; have BK117 := n1_; have BK118 := n2_; have BK123 := n3_; have HB := n4_; clear n0_ n1_ n2_ n3_ n4_
            refine start_ (n := 22) (S := fun w' => w'.cell? ⟨gb123, 0, none⟩ = some (.int .i64 t119) ∧ w'.cell? ⟨gb123, 1, none⟩ = some (.slice (some ad124) x124001_2.length co25)) (ds := []) #[false, false, false, false, false, false, false, false, false, false, false, false, false, false, false, false, false, false, false, false, false, false] (by kernel_rfl) rfl rfl ⟨(blk_cell BK123.out 0).trans rfl, (blk_cell BK123.out 1).trans rfl⟩ (fun hHeld => ?_); refine with_tabW pianolalaw03_PunchAdded.tab8 pianolalaw03_PunchAdded.bits8 (fun HT_ HW_ => ?_)
            generalize w24.drew = w25 at HO_124001 BK117 BK118 BK123 HB hHeld ⊢
            have hnb26 := NB123_117.out
            have hnc26 := NB117_123.out
            have hnb27 := NB123_118.out
            have hnc27 := NB118_123.out
            have hcz28_0 : w25.cell? ⟨gb123, 0, none⟩ = some (.int .i64 t119) := (blk_cell BK123.out 0).trans rfl
            have hcz28_1 : w25.cell? ⟨gb123, 1, none⟩ = some (.slice (some ad124) x124001_2.length co25) := (blk_cell BK123.out 1).trans rfl
            have hfz28_0 := blk_frozen BK123.out 0
            have hfz28_1 := blk_frozen BK123.out 1
            have p126 : 0 ≤ ((ji18) : Int) := of_decide_eq_true (zqD)
            have q126 : (ji18) < (x124001_2.length : Int) := of_decide_eq_true (zqD)
            obtain ⟨ad126, e126, hx126_0, hx126_1⟩ := at_T47 (Kd.R_reads' HO_124001.out).2.2 (ji18) p126 q126
            obtain rfl : ad124 = ad126 := (by injection e126)
            replace p126 := eq_true p126; replace q126 := eq_true q126
            have p127 : 0 ≤ (x7_2 : Int) := of_decide_eq_true (zqD)
            have q127 : x7_2 < (x124001_2.length : Int) := of_decide_eq_true (zqD)
            obtain ⟨ad127, e127, hx127_0, hx127_1⟩ := at_T47 (Kd.R_reads' HO_124001.out).2.2 x7_2 p127 q127
            obtain rfl : ad124 = ad127 := (by injection e127)
            replace p127 := eq_true p127; replace q127 := eq_true q127
            have p22 : 0 ≤ (x7_2 : Int) := of_decide_eq_true (zqD)
            have q22 : (x7_2 : Int) < ((x124001_2.length : Int) : Int) := of_decide_eq_true (zqD)
            obtain ⟨go22, co22, eo22, gb22, gl22, cl22, HG22⟩ := Kd.R_form HO_124001.out (by omega)
            (first | cases eo22 | (injection eo22 with ea_ en_ ec_; (first | subst ea_ | (injection ea_ with ea_; subst ea_)); subst ec_; clear en_))
            have GB22 := zA gb22
            have GG22 := zA HG22
            clear gb22 gl22 HG22
            (first | simp only [add_plain] at hx124_0 | skip)
            (first | simp only [add_plain] at hx124_1 | skip)
            (first | simp only [add_plain] at hx125_0 | skip)
            (first | simp only [add_plain] at hx125_1 | skip)
            (first | simp only [add_plain] at hx126_0 | skip)
            (first | simp only [add_plain] at hx126_1 | skip)
            (first | simp only [add_plain] at hx127_0 | skip)
            (first | simp only [add_plain] at hx127_1 | skip)
            obtain ⟨ce22, hcl22, hM22, hcc22, hfr22⟩ := Kd.R_elem HO_124001.out z47 (x7_2 : Int) p22 q22
            obtain rfl := k47_openM hM22
            have hx22_0 : w25.cell? ⟨go22, (x7_2 : Int).toNat * 2, none⟩ = some (.int .i64 ((rd_T47 x124001_2 x7_2).f0)) := hcc22 0 _ rfl
            have hx22_1 : w25.cell? ⟨go22, (x7_2 : Int).toNat * 2 + 1, none⟩ = some (.int .i64 ((rd_T47 x124001_2 x7_2).f1)) := hcc22 1 _ rfl
            have hf22_0 : w25.frozen? ⟨go22, (x7_2 : Int).toNat * 2, none⟩ = false := hfr22 0
            have hf22_1 : w25.frozen? ⟨go22, (x7_2 : Int).toNat * 2 + 1, none⟩ = false := hfr22 1
            clear hcl22 hcc22 hfr22 hM22; replace p22 := eq_true p22; replace q22 := eq_true q22
            have HX29 := zA (show Kd.R k47 47 w25 w.heap.size (fun _ => True) (.slice (some ⟨go22, 0, none⟩) x124001_2.length co25) x124001_2 from (zqC HO_124001.out))
            obtain ⟨ce29, hcl29, hM29, hcc29, hfr29⟩ := Kd.R_elem HX29.out z47 (x7_2 : Int) (of_decide_eq_true (zqD)) (by have h_ : (x7_2 : Int) < ((x124001_2.length : Int) : Int) := of_decide_eq_true (zqD); first | exact h_ | (have e_ := (Kd.R_reads' HO_124001.out).1; omega) | simpa using h_)
            obtain rfl := k47_openM hM29
            have HP29 := Kd.R_seg HX29.out (x7_2 : Int) (of_decide_eq_true (zqD)) (by have h_ : (x7_2 : Int) < ((x124001_2.length : Int) : Int) := of_decide_eq_true (zqD); first | exact h_ | (have e_ := (Kd.R_reads' HO_124001.out).1; omega) | simpa using h_) (seg := [.int .i64 ((rd_T47 x124001_2 (ji18)).f0), .int .i64 ((rd_T47 x124001_2 (ji18)).f1)]) (j := 0) hcl29 hcc29 (show 2 ≤ 2 from by decide) (x' := (⟨(rd_T47 x124001_2 (ji18)).f0, (rd_T47 x124001_2 (ji18)).f1⟩ : S47)) (k47_mkM _ _ _ (⟨(rd_T47 x124001_2 (ji18)).f0, (rd_T47 x124001_2 (ji18)).f1⟩ : S47) ) (fun _ hk => hk)
            have hx29_0 := hcc29 0 _ rfl
            (try simp only [show (k47).sz = 2 from rfl, Nat.mul_one, Nat.add_zero] at hx29_0)
            have hf29_0 := hfr29 0
            (try simp only [show (k47).sz = 2 from rfl, Nat.mul_one, Nat.add_zero] at hf29_0)
            have hx29_1 := hcc29 1 _ rfl
            (try simp only [show (k47).sz = 2 from rfl, Nat.mul_one, Nat.add_zero] at hx29_1)
            have hf29_1 := hfr29 1
            (try simp only [show (k47).sz = 2 from rfl, Nat.mul_one, Nat.add_zero] at hf29_1)
            clear hcl29 hcc29 hfr29 hM29
            refine pure_ (i := 0) (N := some 52) (v := ?_) (a' := ?_) #[true, false, false, false, false, false, false, false, false, false, false, false, false, false, false, false, false, false, false, false, false, false] rfl rfl (any_of HT_.out (by kernel_rfl)) (fun _ _ _ h => h) (Or.inl ⟨by rfl, ?_⟩) ?_ ?_
            rotate_left
            ·
             intro w'
             go_simp
             with_reducible rfl
            rotate_left
            · simp only [Act.put, setIfInBounds_toArray, set_cons_zero, set_cons_succ, i64_w, i32_w]; rfl
            refine pure_ (i := 2) (N := some 54) (v := ?_) (a' := ?_) #[true, false, true, false, false, false, false, false, false, false, false, false, false, false, false, false, false, false, false, false, false, false] rfl rfl (any_of HT_.out (by kernel_rfl)) (fun _ _ _ h => h) (Or.inl ⟨by rfl, ?_⟩) ?_ ?_
            rotate_left
            ·
             intro w'
             go_simp
             with_reducible rfl
            rotate_left
            · simp only [Act.put, setIfInBounds_toArray, set_cons_zero, set_cons_succ, i64_w, i32_w]; rfl
            refine pure_ (i := 3) (N := some 55) (v := ?_) (a' := ?_) #[true, false, true, true, false, false, false, false, false, false, false, false, false, false, false, false, false, false, false, false, false, false] rfl rfl (any_of HT_.out (by kernel_rfl)) (fun _ _ _ h => h) (Or.inl ⟨by rfl, ?_⟩) ?_ ?_
            rotate_left
            ·
             intro w'
             go_simp
             with_reducible rfl
            rotate_left
            · simp only [Act.put, setIfInBounds_toArray, set_cons_zero, set_cons_succ, i64_w, i32_w]; rfl
            refine pure_ (i := 5) (N := some 57) (v := ?_) (a' := ?_) #[true, false, true, true, false, true, false, false, false, false, false, false, false, false, false, false, false, false, false, false, false, false] rfl rfl (any_of HT_.out (by kernel_rfl)) (fun _ _ _ h => h) (Or.inl ⟨by rfl, ?_⟩) ?_ ?_
            rotate_left
            ·
             intro w'
             go_simp
             with_reducible rfl
            rotate_left
            · simp only [Act.put, setIfInBounds_toArray, set_cons_zero, set_cons_succ, i64_w, i32_w]; rfl
            refine pure_ (i := 7) (N := some 59) (v := ?_) (a' := ?_) #[true, false, true, true, false, true, false, true, false, false, false, false, false, false, false, false, false, false, false, false, false, false] rfl rfl (any_of HT_.out (by kernel_rfl)) (fun _ _ _ h => h) (Or.inl ⟨by rfl, ?_⟩) ?_ ?_
            rotate_left
            ·
             intro w'
             go_simp
             with_reducible rfl
            rotate_left
            · simp only [Act.put, setIfInBounds_toArray, set_cons_zero, set_cons_succ, i64_w, i32_w]; rfl
            refine pure_ (i := 9) (N := some 61) (v := ?_) (a' := ?_) #[true, false, true, true, false, true, false, true, false, true, false, false, false, false, false, false, false, false, false, false, false, false] rfl rfl (any_of HT_.out (by kernel_rfl)) (fun _ _ _ h => h) (Or.inl ⟨by rfl, ?_⟩) ?_ ?_
            rotate_left
            ·
             intro w'
             go_simp
             with_reducible rfl
            rotate_left
            · simp only [Act.put, setIfInBounds_toArray, set_cons_zero, set_cons_succ, i64_w, i32_w]; rfl
            refine pure_ (i := 13) (N := some 65) (v := ?_) (a' := ?_) #[true, false, true, true, false, true, false, true, false, true, false, false, false, true, false, false, false, false, false, false, false, false] rfl rfl (any_of HT_.out (by kernel_rfl)) (fun _ _ _ h => h) (Or.inl ⟨by rfl, ?_⟩) ?_ ?_
            rotate_left
            ·
             intro w'
             go_simp
             with_reducible rfl
            rotate_left
            · simp only [Act.put, setIfInBounds_toArray, set_cons_zero, set_cons_succ, i64_w, i32_w]; rfl
            refine pure_ (i := 15) (N := some 67) (v := ?_) (a' := ?_) #[true, false, true, true, false, true, false, true, false, true, false, false, false, true, false, true, false, false, false, false, false, false] rfl rfl (any_of HT_.out (by kernel_rfl)) (fun _ _ _ h => h) (Or.inl ⟨by rfl, ?_⟩) ?_ ?_
            rotate_left
            ·
             intro w'
             go_simp
             with_reducible rfl
            rotate_left
            · simp only [Act.put, setIfInBounds_toArray, set_cons_zero, set_cons_succ, i64_w, i32_w]; rfl
            refine take_ (i := 1) (N := some 53) (v := ?_) (a' := ?_) #[true, true, true, true, false, true, false, true, false, true, false, false, false, true, false, true, false, false, false, false, false, false] rfl rfl (take_ofW HT_.out HW_.out (by kernel_rfl)) (fun _ _ _ h => h) (Or.inl ⟨by rfl, ?_⟩) hHeld ?_ ?_
            rotate_left
            ·
             rintro w' ⟨s0, s1⟩
             go_simp
             with_reducible rfl
            rotate_left
            · simp only [Act.put, setIfInBounds_toArray, set_cons_zero, set_cons_succ, i64_w, i32_w]; rfl
            refine take_ (i := 4) (N := some 56) (v := ?_) (a' := ?_) #[true, true, true, true, true, true, false, true, false, true, false, false, false, true, false, true, false, false, false, false, false, false] rfl rfl (take_ofW HT_.out HW_.out (by kernel_rfl)) (fun _ _ _ h => h) (Or.inl ⟨by rfl, ?_⟩) hHeld ?_ ?_
            rotate_left
            ·
             rintro w' ⟨s0, s1⟩
             go_simp
             with_reducible rfl
            rotate_left
            · simp only [Act.put, setIfInBounds_toArray, set_cons_zero, set_cons_succ, i64_w, i32_w]; rfl
            refine take_ (i := 8) (N := some 60) (v := ?_) (a' := ?_) #[true, true, true, true, true, true, false, true, true, true, false, false, false, true, false, true, false, false, false, false, false, false] rfl rfl (take_ofW HT_.out HW_.out (by kernel_rfl)) (fun _ _ _ h => h) (Or.inl ⟨by rfl, ?_⟩) hHeld ?_ ?_
            rotate_left
            ·
             rintro w' ⟨s0, s1⟩
             go_simp
             with_reducible rfl
            rotate_left
            · simp only [Act.put, setIfInBounds_toArray, set_cons_zero, set_cons_succ, i64_w, i32_w]; rfl
            refine take_ (i := 14) (N := some 66) (v := ?_) (a' := ?_) #[true, true, true, true, true, true, false, true, true, true, false, false, false, true, true, true, false, false, false, false, false, false] rfl rfl (take_ofW HT_.out HW_.out (by kernel_rfl)) (fun _ _ _ h => h) (Or.inl ⟨by rfl, ?_⟩) hHeld ?_ ?_
            rotate_left
            ·
             rintro w' ⟨s0, s1⟩
             go_simp
             with_reducible rfl
            rotate_left
            · simp only [Act.put, setIfInBounds_toArray, set_cons_zero, set_cons_succ, i64_w, i32_w]; rfl
            refine pure_ (i := 6) (N := some 58) (v := ?_) (a' := ?_) #[true, true, true, true, true, true, true, true, true, true, false, false, false, true, true, true, false, false, false, false, false, false] rfl rfl (any_of HT_.out (by kernel_rfl)) (fun _ _ _ h => h) (Or.inl ⟨by rfl, ?_⟩) ?_ ?_
            rotate_left
            ·
             intro w'
             go_simp
             with_reducible rfl
            rotate_left
            · simp only [Act.put, setIfInBounds_toArray, set_cons_zero, set_cons_succ, i64_w, i32_w]; rfl
            refine pure_ (i := 10) (N := some 62) (v := ?_) (a' := ?_) #[true, true, true, true, true, true, true, true, true, true, true, false, false, true, true, true, false, false, false, false, false, false] rfl rfl (any_of HT_.out (by kernel_rfl)) (fun _ _ _ h => h) (Or.inl ⟨by rfl, ?_⟩) ?_ ?_
            rotate_left
            ·
             intro w'
             go_simp
             with_reducible rfl
            rotate_left
            · simp only [Act.put, setIfInBounds_toArray, set_cons_zero, set_cons_succ, i64_w, i32_w]; rfl
            refine pure_ (i := 11) (N := some 63) (v := ?_) (a' := ?_) #[true, true, true, true, true, true, true, true, true, true, true, true, false, true, true, true, false, false, false, false, false, false] rfl rfl (any_of HT_.out (by kernel_rfl)) (fun _ _ _ h => h) (Or.inl ⟨by rfl, ?_⟩) ?_ ?_
            rotate_left
            ·
             intro w'
             go_simp
             with_reducible rfl
            rotate_left
            · simp only [Act.put, setIfInBounds_toArray, set_cons_zero, set_cons_succ, i64_w, i32_w]; rfl
            refine pure_ (i := 16) (N := some 68) (v := ?_) (a' := ?_) #[true, true, true, true, true, true, true, true, true, true, true, true, false, true, true, true, true, false, false, false, false, false] rfl rfl (any_of HT_.out (by kernel_rfl)) (fun _ _ _ h => h) (Or.inl ⟨by rfl, ?_⟩) ?_ ?_
            rotate_left
            ·
             intro w'
             go_simp
             with_reducible rfl
            rotate_left
            · simp only [Act.put, setIfInBounds_toArray, set_cons_zero, set_cons_succ, i64_w, i32_w]; rfl
            refine two_ (i := 12) (j := 17) (Ni := some 64) (Nj := some 69) #[true, true, true, true, true, true, true, true, true, true, true, true, true, true, true, true, true, false, false, false, false, false] #[true, true, true, true, true, true, true, true, true, true, true, true, false, true, true, true, true, true, false, false, false, false] rfl rfl rfl rfl (two_of HT_.out (by kernel_rfl)) (by decide) (by decide) (fun K hK => ?_) (fun K hK => ?_)
            ·
             refine value_ (w1 := ?_) (v := ?_) (by rfl) rfl ?_ ?_
             rotate_left 2
             ·
              go_simp
              constructor
              ·
               rfl
              ·
               rfl
             refine hK.out _ _ ⟨(blk_cell BK123.out 0).trans rfl, (blk_cell BK123.out 1).trans rfl⟩ (fun hHeld => ?_)
             clear hK K; refine norm_ (a' := ?_) ?_ ?_; rotate_left
             · show Act.put _ (some 64) _ = _; simp only [Act.put, setIfInBounds_toArray, set_cons_zero, set_cons_succ, i64_w, i32_w]; rfl
             refine one_ (i := 17) (N := some 69) #[true, true, true, true, true, true, true, true, true, true, true, true, true, true, true, true, true, true, false, false, false, false] rfl rfl (one_of HT_.out (by kernel_rfl)) (by decide) (fun K hK => ?_)
             refine value_ (w1 := ?_) (v := ?_) (by rfl) rfl ?_ ?_
             rotate_left 2
             ·
              go_simp
              constructor
              ·
               rfl
              ·
               rfl
             refine hK.out _ _ ⟨(blk_cell BK123.out 0).trans rfl, (blk_cell BK123.out 1).trans rfl⟩ (fun hHeld => ?_)
             clear hK K; refine norm_ (a' := ?_) ?_ ?_; rotate_left
             · show Act.put _ (some 69) _ = _; simp only [Act.put, setIfInBounds_toArray, set_cons_zero, set_cons_succ, i64_w, i32_w]; rfl
             refine pure_ (i := 18) (N := some 70) (v := ?_) (a' := ?_) #[true, true, true, true, true, true, true, true, true, true, true, true, true, true, true, true, true, true, true, false, false, false] rfl rfl (any_of HT_.out (by kernel_rfl)) (fun _ _ _ h => h) (Or.inl ⟨by rfl, ?_⟩) ?_ ?_
             rotate_left
             ·
              intro w'
              go_simp
              with_reducible rfl
             rotate_left
             · simp only [Act.put, setIfInBounds_toArray, set_cons_zero, set_cons_succ, i64_w, i32_w]; rfl
             refine one_ (i := 19) (N := none) #[true, true, true, true, true, true, true, true, true, true, true, true, true, true, true, true, true, true, true, true, false, false] rfl rfl (one_of HT_.out (by kernel_rfl)) (by decide) (fun K hK => ?_)
             refine skip_ (w1 := ?_) (by rfl) rfl ?_ ?_
             rotate_left
             ·
              go_simp
              rfl
             obtain ⟨w30, hw⟩ : ∃ w30, w30 = ((w25.setCell ⟨go22, (x7_2 : Int).toNat * 2, none⟩ (.int .i64 ((rd_T47 x124001_2 (ji18)).f0))).setCell ⟨go22, (x7_2 : Int).toNat * 2 + 1, none⟩ (.int .i64 ((rd_T47 x124001_2 (ji18)).f1))) := ⟨_, rfl⟩
             rw [← hw]
             have hg : w25.grownBy w30 (some go22) := (by rw [hw]; exact HP29.2)
             have hp_ : Kd.R k47 47 w30 w.heap.size (fun _ => True) (.slice (some ⟨go22, 0, none⟩) x124001_2.length co25) y128 := (by rw [hw, Ny128.out]; exact HP29.1)
             clear HP29; have n0_ := zA (hp_); have n1_ := zA (blk_grown (g := gb117) (o := .cells #[.int .u8 a0_0, .slice A0_1 l0_1.length c0_1] 74 (0, 0)) (zqB BK117.out) hg (Kd.R_ne HO_124001.out BK117.out (by decide))); have n2_ := zA (blk_grown (g := gb118) (o := .cells #[.int .u8 a1_0, .int .u8 a1_1] 82 (0, 0)) (zqB BK118.out) hg (Kd.R_ne HO_124001.out BK118.out (by decide))); have n3_ := zA (blk_grown (g := gb123) (o := .cells #[.int .i64 t119, .slice (some ⟨go22, 0, none⟩) x124001_2.length co25] 24 (0, 0)) (zqB BK123.out) hg (Kd.R_ne HO_124001.out BK123.out (by decide)))
             have n4_ := zA ((by rw [hw]; exact below_set (below_set (HB.out) GB22.out) GB22.out : Below w.heap.size w w30))
             clear HO_124001 BK117 BK118 BK123 HB; have HO_124001 := n0_; have BK117 := n1_; have BK118 := n2_; have BK123 := n3_; have HB := n4_; clear n0_ n1_ n2_ n3_ n4_ hg hw hp_
             have p23 : 0 ≤ ((ji18) : Int) := of_decide_eq_true (zqD)
             have q23 : ((ji18) : Int) < ((x124001_2.length : Int) : Int) := of_decide_eq_true (zqD)
             obtain ⟨ce23, hcl23, hM23, hcc23, hfr23⟩ := Kd.R_elem HO_124001.out z47 ((ji18) : Int) p23 q23
             obtain rfl := k47_openM hM23
             have hx23_0 : w30.cell? ⟨go22, ((ji18) : Int).toNat * 2, none⟩ = some (.int .i64 ((rd_T47 y128 (ji18)).f0)) := hcc23 0 _ rfl
             have hx23_1 : w30.cell? ⟨go22, ((ji18) : Int).toNat * 2 + 1, none⟩ = some (.int .i64 ((rd_T47 y128 (ji18)).f1)) := hcc23 1 _ rfl
             have hf23_0 : w30.frozen? ⟨go22, ((ji18) : Int).toNat * 2, none⟩ = false := hfr23 0
             have hf23_1 : w30.frozen? ⟨go22, ((ji18) : Int).toNat * 2 + 1, none⟩ = false := hfr23 1
             clear hcl23 hcc23 hfr23 hM23; replace p23 := eq_true p23; replace q23 := eq_true q23
             have HX31 := zA (show Kd.R k47 47 w30 w.heap.size (fun _ => True) (.slice (some ⟨go22, 0, none⟩) x124001_2.length co25) y128 from (zqC HO_124001.out))
             obtain ⟨ce31, hcl31, hM31, hcc31, hfr31⟩ := Kd.R_elem HX31.out z47 ((ji18) : Int) (of_decide_eq_true (zqD)) (by have h_ : ((ji18) : Int) < ((x124001_2.length : Int) : Int) := of_decide_eq_true (zqD); first | exact h_ | (have e_ := (Kd.R_reads' HO_124001.out).1; omega) | simpa using h_)
             obtain rfl := k47_openM hM31
             have HP31 := Kd.R_seg HX31.out ((ji18) : Int) (of_decide_eq_true (zqD)) (by have h_ : ((ji18) : Int) < ((x124001_2.length : Int) : Int) := of_decide_eq_true (zqD); first | exact h_ | (have e_ := (Kd.R_reads' HO_124001.out).1; omega) | simpa using h_) (seg := [.int .i64 ((rd_T47 x124001_2 x7_2).f0), .int .i64 ((rd_T47 x124001_2 x7_2).f1)]) (j := 0) hcl31 hcc31 (show 2 ≤ 2 from by decide) (x' := (⟨(rd_T47 x124001_2 x7_2).f0, (rd_T47 x124001_2 x7_2).f1⟩ : S47)) (k47_mkM _ _ _ (⟨(rd_T47 x124001_2 x7_2).f0, (rd_T47 x124001_2 x7_2).f1⟩ : S47) ) (fun _ hk => hk)
             have hx31_0 := hcc31 0 _ rfl
             (try simp only [show (k47).sz = 2 from rfl, Nat.mul_one, Nat.add_zero] at hx31_0)
             have hf31_0 := hfr31 0
             (try simp only [show (k47).sz = 2 from rfl, Nat.mul_one, Nat.add_zero] at hf31_0)
             have hx31_1 := hcc31 1 _ rfl
             (try simp only [show (k47).sz = 2 from rfl, Nat.mul_one, Nat.add_zero] at hx31_1)
             have hf31_1 := hfr31 1
             (try simp only [show (k47).sz = 2 from rfl, Nat.mul_one, Nat.add_zero] at hf31_1)
             clear hcl31 hcc31 hfr31 hM31
             refine hK.out _ _ ⟨(blk_cell BK123.out 0).trans rfl, (blk_cell BK123.out 1).trans rfl⟩ (fun hHeld => ?_)
             clear hK K
             refine pure_ (i := 20) (N := some 71) (v := ?_) (a' := ?_) #[true, true, true, true, true, true, true, true, true, true, true, true, true, true, true, true, true, true, true, true, true, false] rfl rfl (any_of HT_.out (by kernel_rfl)) (fun _ _ _ h => h) (Or.inl ⟨by rfl, ?_⟩) ?_ ?_
             rotate_left
             ·
              intro w'
              go_simp
              with_reducible rfl
             rotate_left
             · simp only [Act.put, setIfInBounds_toArray, set_cons_zero, set_cons_succ, i64_w, i32_w]; rfl
             refine one_ (i := 21) (N := none) #[true, true, true, true, true, true, true, true, true, true, true, true, true, true, true, true, true, true, true, true, true, true] rfl rfl (one_of HT_.out (by kernel_rfl)) (by decide) (fun K hK => ?_)
             refine skip_ (w1 := ?_) (by rfl) rfl ?_ ?_
             rotate_left
             ·
              go_simp
              rfl
             obtain ⟨w32, hw⟩ : ∃ w32, w32 = ((w30.setCell ⟨go22, ((ji18) : Int).toNat * 2, none⟩ (.int .i64 ((rd_T47 x124001_2 x7_2).f0))).setCell ⟨go22, ((ji18) : Int).toNat * 2 + 1, none⟩ (.int .i64 ((rd_T47 x124001_2 x7_2).f1))) := ⟨_, rfl⟩
             rw [← hw]
             have hg : w30.grownBy w32 (some go22) := (by rw [hw]; exact HP31.2)
             have hp_ : Kd.R k47 47 w32 w.heap.size (fun _ => True) (.slice (some ⟨go22, 0, none⟩) x124001_2.length co25) y129 := (by rw [hw, Ny129.out]; exact HP31.1)
             clear HP31; have n0_ := zA (hp_); have n1_ := zA (blk_grown (g := gb117) (o := .cells #[.int .u8 a0_0, .slice A0_1 l0_1.length c0_1] 74 (0, 0)) (zqB BK117.out) hg (Kd.R_ne HO_124001.out BK117.out (by decide))); have n2_ := zA (blk_grown (g := gb118) (o := .cells #[.int .u8 a1_0, .int .u8 a1_1] 82 (0, 0)) (zqB BK118.out) hg (Kd.R_ne HO_124001.out BK118.out (by decide))); have n3_ := zA (blk_grown (g := gb123) (o := .cells #[.int .i64 t119, .slice (some ⟨go22, 0, none⟩) x124001_2.length co25] 24 (0, 0)) (zqB BK123.out) hg (Kd.R_ne HO_124001.out BK123.out (by decide)))
             have n4_ := zA ((by rw [hw]; exact below_set (below_set (HB.out) GB22.out) GB22.out : Below w.heap.size w w32))
             clear HO_124001 BK117 BK118 BK123 HB; have HO_124001 := n0_; have BK117 := n1_; have BK118 := n2_; have BK123 := n3_; have HB := n4_; clear n0_ n1_ n2_ n3_ n4_ hg hw hp_
             refine hK.out _ _ ⟨(blk_cell BK123.out 0).trans rfl, (blk_cell BK123.out 1).trans rfl⟩ (fun hHeld => ?_)
             clear hK K
             refine done_ (done_of HT_.out (by kernel_rfl)) ?_
             try go_wp2
             go_roundg k2
             case measure => have := HK1.out; have := HK2.out; omega
             case rel => exact ⟨(ji18), (y129), (.slice (some ⟨go22, 0, none⟩) x124001_2.length co25), (by first | rfl | (simp; done) | (simp only [← hji18] <;> (first | rfl | simp)) | (simp [*]; done)), H', ⟨by have := HK1.out; have := HK2.out; omega⟩, ⟨zqC HO_124001.out⟩, ⟨zqB BK117.out⟩, ⟨zqB BK118.out⟩, ⟨zqB BK123.out⟩, ⟨zqI HB.out GE117.out GE118.out GE123.out⟩⟩
            ·
             refine value_ (w1 := ?_) (v := ?_) (by rfl) rfl ?_ ?_
             rotate_left 2
             ·
              go_simp
              constructor
              ·
               rfl
              ·
               rfl
             refine hK.out _ _ ⟨(blk_cell BK123.out 0).trans rfl, (blk_cell BK123.out 1).trans rfl⟩ (fun hHeld => ?_)
             clear hK K; refine norm_ (a' := ?_) ?_ ?_; rotate_left
             · show Act.put _ (some 69) _ = _; simp only [Act.put, setIfInBounds_toArray, set_cons_zero, set_cons_succ, i64_w, i32_w]; rfl
             refine one_ (i := 12) (N := some 64) #[true, true, true, true, true, true, true, true, true, true, true, true, true, true, true, true, true, true, false, false, false, false] rfl rfl (one_of HT_.out (by kernel_rfl)) (by decide) (fun K hK => ?_)
             refine value_ (w1 := ?_) (v := ?_) (by rfl) rfl ?_ ?_
             rotate_left 2
             ·
              go_simp
              constructor
              ·
               rfl
              ·
               rfl
             refine hK.out _ _ ⟨(blk_cell BK123.out 0).trans rfl, (blk_cell BK123.out 1).trans rfl⟩ (fun hHeld => ?_)
             clear hK K; refine norm_ (a' := ?_) ?_ ?_; rotate_left
             · show Act.put _ (some 64) _ = _; simp only [Act.put, setIfInBounds_toArray, set_cons_zero, set_cons_succ, i64_w, i32_w]; rfl
             refine pure_ (i := 18) (N := some 70) (v := ?_) (a' := ?_) #[true, true, true, true, true, true, true, true, true, true, true, true, true, true, true, true, true, true, true, false, false, false] rfl rfl (any_of HT_.out (by kernel_rfl)) (fun _ _ _ h => h) (Or.inl ⟨by rfl, ?_⟩) ?_ ?_
             rotate_left
             ·
              intro w'
              go_simp
              with_reducible rfl
             rotate_left
             · simp only [Act.put, setIfInBounds_toArray, set_cons_zero, set_cons_succ, i64_w, i32_w]; rfl
             refine one_ (i := 19) (N := none) #[true, true, true, true, true, true, true, true, true, true, true, true, true, true, true, true, true, true, true, true, false, false] rfl rfl (one_of HT_.out (by kernel_rfl)) (by decide) (fun K hK => ?_)
             refine skip_ (w1 := ?_) (by rfl) rfl ?_ ?_
             rotate_left
             ·
              go_simp
              rfl
             obtain ⟨w30, hw⟩ : ∃ w30, w30 = ((w25.setCell ⟨go22, (x7_2 : Int).toNat * 2, none⟩ (.int .i64 ((rd_T47 x124001_2 (ji18)).f0))).setCell ⟨go22, (x7_2 : Int).toNat * 2 + 1, none⟩ (.int .i64 ((rd_T47 x124001_2 (ji18)).f1))) := ⟨_, rfl⟩
             rw [← hw]
             have hg : w25.grownBy w30 (some go22) := (by rw [hw]; exact HP29.2)
             have hp_ : Kd.R k47 47 w30 w.heap.size (fun _ => True) (.slice (some ⟨go22, 0, none⟩) x124001_2.length co25) y128 := (by rw [hw, Ny128.out]; exact HP29.1)
             clear HP29; have n0_ := zA (hp_); have n1_ := zA (blk_grown (g := gb117) (o := .cells #[.int .u8 a0_0, .slice A0_1 l0_1.length c0_1] 74 (0, 0)) (zqB BK117.out) hg (Kd.R_ne HO_124001.out BK117.out (by decide))); have n2_ := zA (blk_grown (g := gb118) (o := .cells #[.int .u8 a1_0, .int .u8 a1_1] 82 (0, 0)) (zqB BK118.out) hg (Kd.R_ne HO_124001.out BK118.out (by decide))); have n3_ := zA (blk_grown (g := gb123) (o := .cells #[.int .i64 t119, .slice (some ⟨go22, 0, none⟩) x124001_2.length co25] 24 (0, 0)) (zqB BK123.out) hg (Kd.R_ne HO_124001.out BK123.out (by decide)))
             have n4_ := zA ((by rw [hw]; exact below_set (below_set (HB.out) GB22.out) GB22.out : Below w.heap.size w w30))
             clear HO_124001 BK117 BK118 BK123 HB; have HO_124001 := n0_; have BK117 := n1_; have BK118 := n2_; have BK123 := n3_; have HB := n4_; clear n0_ n1_ n2_ n3_ n4_ hg hw hp_
             have p23 : 0 ≤ ((ji18) : Int) := of_decide_eq_true (zqD)
             have q23 : ((ji18) : Int) < ((x124001_2.length : Int) : Int) := of_decide_eq_true (zqD)
             obtain ⟨ce23, hcl23, hM23, hcc23, hfr23⟩ := Kd.R_elem HO_124001.out z47 ((ji18) : Int) p23 q23
             obtain rfl := k47_openM hM23
             have hx23_0 : w30.cell? ⟨go22, ((ji18) : Int).toNat * 2, none⟩ = some (.int .i64 ((rd_T47 y128 (ji18)).f0)) := hcc23 0 _ rfl
             have hx23_1 : w30.cell? ⟨go22, ((ji18) : Int).toNat * 2 + 1, none⟩ = some (.int .i64 ((rd_T47 y128 (ji18)).f1)) := hcc23 1 _ rfl
             have hf23_0 : w30.frozen? ⟨go22, ((ji18) : Int).toNat * 2, none⟩ = false := hfr23 0
             have hf23_1 : w30.frozen? ⟨go22, ((ji18) : Int).toNat * 2 + 1, none⟩ = false := hfr23 1
             clear hcl23 hcc23 hfr23 hM23; replace p23 := eq_true p23; replace q23 := eq_true q23
             have HX31 := zA (show Kd.R k47 47 w30 w.heap.size (fun _ => True) (.slice (some ⟨go22, 0, none⟩) x124001_2.length co25) y128 from (zqC HO_124001.out))
             obtain ⟨ce31, hcl31, hM31, hcc31, hfr31⟩ := Kd.R_elem HX31.out z47 ((ji18) : Int) (of_decide_eq_true (zqD)) (by have h_ : ((ji18) : Int) < ((x124001_2.length : Int) : Int) := of_decide_eq_true (zqD); first | exact h_ | (have e_ := (Kd.R_reads' HO_124001.out).1; omega) | simpa using h_)
             obtain rfl := k47_openM hM31
             have HP31 := Kd.R_seg HX31.out ((ji18) : Int) (of_decide_eq_true (zqD)) (by have h_ : ((ji18) : Int) < ((x124001_2.length : Int) : Int) := of_decide_eq_true (zqD); first | exact h_ | (have e_ := (Kd.R_reads' HO_124001.out).1; omega) | simpa using h_) (seg := [.int .i64 ((rd_T47 x124001_2 x7_2).f0), .int .i64 ((rd_T47 x124001_2 x7_2).f1)]) (j := 0) hcl31 hcc31 (show 2 ≤ 2 from by decide) (x' := (⟨(rd_T47 x124001_2 x7_2).f0, (rd_T47 x124001_2 x7_2).f1⟩ : S47)) (k47_mkM _ _ _ (⟨(rd_T47 x124001_2 x7_2).f0, (rd_T47 x124001_2 x7_2).f1⟩ : S47) ) (fun _ hk => hk)
             have hx31_0 := hcc31 0 _ rfl
             (try simp only [show (k47).sz = 2 from rfl, Nat.mul_one, Nat.add_zero] at hx31_0)
             have hf31_0 := hfr31 0
             (try simp only [show (k47).sz = 2 from rfl, Nat.mul_one, Nat.add_zero] at hf31_0)
             have hx31_1 := hcc31 1 _ rfl
             (try simp only [show (k47).sz = 2 from rfl, Nat.mul_one, Nat.add_zero] at hx31_1)
             have hf31_1 := hfr31 1
             (try simp only [show (k47).sz = 2 from rfl, Nat.mul_one, Nat.add_zero] at hf31_1)
             clear hcl31 hcc31 hfr31 hM31
             refine hK.out _ _ ⟨(blk_cell BK123.out 0).trans rfl, (blk_cell BK123.out 1).trans rfl⟩ (fun hHeld => ?_)
             clear hK K
             refine pure_ (i := 20) (N := some 71) (v := ?_) (a' := ?_) #[true, true, true, true, true, true, true, true, true, true, true, true, true, true, true, true, true, true, true, true, true, false] rfl rfl (any_of HT_.out (by kernel_rfl)) (fun _ _ _ h => h) (Or.inl ⟨by rfl, ?_⟩) ?_ ?_
             rotate_left
             ·
              intro w'
              go_simp
              with_reducible rfl
             rotate_left
             · simp only [Act.put, setIfInBounds_toArray, set_cons_zero, set_cons_succ, i64_w, i32_w]; rfl
             refine one_ (i := 21) (N := none) #[true, true, true, true, true, true, true, true, true, true, true, true, true, true, true, true, true, true, true, true, true, true] rfl rfl (one_of HT_.out (by kernel_rfl)) (by decide) (fun K hK => ?_)
             refine skip_ (w1 := ?_) (by rfl) rfl ?_ ?_
             rotate_left
             ·
              go_simp
              rfl
             obtain ⟨w32, hw⟩ : ∃ w32, w32 = ((w30.setCell ⟨go22, ((ji18) : Int).toNat * 2, none⟩ (.int .i64 ((rd_T47 x124001_2 x7_2).f0))).setCell ⟨go22, ((ji18) : Int).toNat * 2 + 1, none⟩ (.int .i64 ((rd_T47 x124001_2 x7_2).f1))) := ⟨_, rfl⟩
             rw [← hw]
             have hg : w30.grownBy w32 (some go22) := (by rw [hw]; exact HP31.2)
             have hp_ : Kd.R k47 47 w32 w.heap.size (fun _ => True) (.slice (some ⟨go22, 0, none⟩) x124001_2.length co25) y129 := (by rw [hw, Ny129.out]; exact HP31.1)
             clear HP31; have n0_ := zA (hp_); have n1_ := zA (blk_grown (g := gb117) (o := .cells #[.int .u8 a0_0, .slice A0_1 l0_1.length c0_1] 74 (0, 0)) (zqB BK117.out) hg (Kd.R_ne HO_124001.out BK117.out (by decide))); have n2_ := zA (blk_grown (g := gb118) (o := .cells #[.int .u8 a1_0, .int .u8 a1_1] 82 (0, 0)) (zqB BK118.out) hg (Kd.R_ne HO_124001.out BK118.out (by decide))); have n3_ := zA (blk_grown (g := gb123) (o := .cells #[.int .i64 t119, .slice (some ⟨go22, 0, none⟩) x124001_2.length co25] 24 (0, 0)) (zqB BK123.out) hg (Kd.R_ne HO_124001.out BK123.out (by decide)))
             have n4_ := zA ((by rw [hw]; exact below_set (below_set (HB.out) GB22.out) GB22.out : Below w.heap.size w w32))
             clear HO_124001 BK117 BK118 BK123 HB; have HO_124001 := n0_; have BK117 := n1_; have BK118 := n2_; have BK123 := n3_; have HB := n4_; clear n0_ n1_ n2_ n3_ n4_ hg hw hp_
             refine hK.out _ _ ⟨(blk_cell BK123.out 0).trans rfl, (blk_cell BK123.out 1).trans rfl⟩ (fun hHeld => ?_)
             clear hK K
             refine done_ (done_of HT_.out (by kernel_rfl)) ?_
             try go_wp2
             go_roundg k2
             case measure => have := HK1.out; have := HK2.out; omega
             case rel => exact ⟨(ji18), (y129), (.slice (some ⟨go22, 0, none⟩) x124001_2.length co25), (by first | rfl | (simp; done) | (simp only [← hji18] <;> (first | rfl | simp)) | (simp [*]; done)), H', ⟨by have := HK1.out; have := HK2.out; omega⟩, ⟨zqC HO_124001.out⟩, ⟨zqB BK117.out⟩, ⟨zqB BK118.out⟩, ⟨zqB BK123.out⟩, ⟨zqI HB.out GE117.out GE118.out GE123.out⟩⟩
           ·
            rw [if_neg c21] at H
            have c21b0 : decide (((rd_T47 x124001_2 x7_2).f0) < ((rd_T47 x124001_2 (ji18)).f0)) = false := decide_eq_false c21
            clear c21
            have H' := zA H
            clear H
            try go_wp2
            have n0_ := zA (Kd.R_drew HO_124001.out); have n1_ := zA (blk_drew BK117.out); have n2_ := zA (blk_drew BK118.out); have n3_ := zA (blk_drew BK123.out); have n4_ := zA (below_drew1 HB.out); clear HO_124001 BK117 BK118 BK123 HB; have HO_124001 := n0_; have BK117 := n1_; have BK118 := n2_; have BK123 := n3_; have HB := n4_; clear n0_ n1_ n2_ n3_ n4_
            obtain ⟨Ao34, co34, eo34⟩ := Kd.R_slice HO_124001.out
            (first | subst eo34 | (injection eo34 with f1_ f2_ f3_; have f4_ := f1_.symm; have f5_ := f3_.symm; clear f1_ f2_ f3_; subst f4_; subst f5_))
            have p124 : 0 ≤ (x7_2 : Int) := of_decide_eq_true (zqD)
            have q124 : x7_2 < (x124001_2.length : Int) := of_decide_eq_true (zqD)
            obtain ⟨ad124, e124, hx124_0, hx124_1⟩ := at_T47 (Kd.R_reads' HO_124001.out).2.2 x7_2 p124 q124
            cases e124; replace p124 := eq_true p124; replace q124 := eq_true q124
            have p125 : 0 ≤ ((ji18) : Int) := of_decide_eq_true (zqD)
            have q125 : (ji18) < (x124001_2.length : Int) := of_decide_eq_true (zqD)
            obtain ⟨ad125, e125, hx125_0, hx125_1⟩ := at_T47 (Kd.R_reads' HO_124001.out).2.2 (ji18) p125 q125
            obtain rfl : ad124 = ad125 := (by injection e125)
            replace p125 := eq_true p125; replace q125 := eq_true q125
            refine start_ (n := 18) (S := fun w' => w'.cell? ⟨gb123, 0, none⟩ = some (.int .i64 t119) ∧ w'.cell? ⟨gb123, 1, none⟩ = some (.slice (some ad124) x124001_2.length co34) ∧ w'.cell? (ad124.add ((x7_2).toNat * 2)) = some (.int .i64 ((rd_T47 x124001_2 x7_2).f0)) ∧ w'.cell? ⟨(ad124.add ((x7_2).toNat * 2)).block, (ad124.add ((x7_2).toNat * 2)).off + 1, none⟩ = some (.int .i64 ((rd_T47 x124001_2 x7_2).f1)) ∧ w'.cell? (ad124.add (((ji18)).toNat * 2)) = some (.int .i64 ((rd_T47 x124001_2 (ji18)).f0)) ∧ w'.cell? ⟨(ad124.add (((ji18)).toNat * 2)).block, (ad124.add (((ji18)).toNat * 2)).off + 1, none⟩ = some (.int .i64 ((rd_T47 x124001_2 (ji18)).f1))) (ds := []) #[false, false, false, false, false, false, false, false, false, false, false, false, false, false, false, false, false, false] (by kernel_rfl) rfl rfl ⟨(blk_cell BK123.out 0).trans rfl, (blk_cell BK123.out 1).trans rfl, hx124_0, hx124_1, hx125_0, hx125_1⟩ (fun hHeld => ?_); refine with_tabW pianolalaw03_PunchAdded.tab6 pianolalaw03_PunchAdded.bits6 (fun HT_ HW_ => ?_)
            generalize wr.drew = w33 at HO_124001 BK117 BK118 BK123 HB hx124_0 hx124_1 hx125_0 hx125_1 hHeld ⊢
            refine pure_ (i := 0) (N := some 32) (v := ?_) (a' := ?_) #[true, false, false, false, false, false, false, false, false, false, false, false, false, false, false, false, false, false] rfl rfl (any_of HT_.out (by kernel_rfl)) (fun _ _ _ h => h) (Or.inl ⟨by rfl, ?_⟩) ?_ ?_
            rotate_left
            ·
             intro w'
             go_simp
             with_reducible rfl
            rotate_left
            · simp only [Act.put, setIfInBounds_toArray, set_cons_zero, set_cons_succ, i64_w, i32_w]; rfl
            refine pure_ (i := 1) (N := some 33) (v := ?_) (a' := ?_) #[true, true, false, false, false, false, false, false, false, false, false, false, false, false, false, false, false, false] rfl rfl (any_of HT_.out (by kernel_rfl)) (fun _ _ _ h => h) (Or.inl ⟨by rfl, ?_⟩) ?_ ?_
            rotate_left
            ·
             intro w'
             go_simp
             with_reducible rfl
            rotate_left
            · simp only [Act.put, setIfInBounds_toArray, set_cons_zero, set_cons_succ, i64_w, i32_w]; rfl
            refine pure_ (i := 2) (N := some 34) (v := ?_) (a' := ?_) #[true, true, true, false, false, false, false, false, false, false, false, false, false, false, false, false, false, false] rfl rfl (any_of HT_.out (by kernel_rfl)) (fun _ _ _ h => h) (Or.inl ⟨by rfl, ?_⟩) ?_ ?_
            rotate_left
            ·
             intro w'
             go_simp
             with_reducible rfl
            rotate_left
            · simp only [Act.put, setIfInBounds_toArray, set_cons_zero, set_cons_succ, i64_w, i32_w]; rfl
            refine pure_ (i := 3) (N := some 35) (v := ?_) (a' := ?_) #[true, true, true, true, false, false, false, false, false, false, false, false, false, false, false, false, false, false] rfl rfl (any_of HT_.out (by kernel_rfl)) (fun _ _ _ h => h) (Or.inl ⟨by rfl, ?_⟩) ?_ ?_
            rotate_left
            ·
             intro w'
             go_simp
             with_reducible rfl
            rotate_left
            · simp only [Act.put, setIfInBounds_toArray, set_cons_zero, set_cons_succ, i64_w, i32_w]; rfl
            refine pure_ (i := 5) (N := some 37) (v := ?_) (a' := ?_) #[true, true, true, true, false, true, false, false, false, false, false, false, false, false, false, false, false, false] rfl rfl (any_of HT_.out (by kernel_rfl)) (fun _ _ _ h => h) (Or.inl ⟨by rfl, ?_⟩) ?_ ?_
            rotate_left
            ·
             intro w'
             go_simp
             with_reducible rfl
            rotate_left
            · simp only [Act.put, setIfInBounds_toArray, set_cons_zero, set_cons_succ, i64_w, i32_w]; rfl
            refine pure_ (i := 9) (N := some 41) (v := ?_) (a' := ?_) #[true, true, true, true, false, true, false, false, false, true, false, false, false, false, false, false, false, false] rfl rfl (any_of HT_.out (by kernel_rfl)) (fun _ _ _ h => h) (Or.inl ⟨by rfl, ?_⟩) ?_ ?_
            rotate_left
            ·
             intro w'
             go_simp
             with_reducible rfl
            rotate_left
            · simp only [Act.put, setIfInBounds_toArray, set_cons_zero, set_cons_succ, i64_w, i32_w]; rfl
            refine pure_ (i := 11) (N := some 43) (v := ?_) (a' := ?_) #[true, true, true, true, false, true, false, false, false, true, false, true, false, false, false, false, false, false] rfl rfl (any_of HT_.out (by kernel_rfl)) (fun _ _ _ h => h) (Or.inl ⟨by rfl, ?_⟩) ?_ ?_
            rotate_left
            ·
             intro w'
             go_simp
             with_reducible rfl
            rotate_left
            · simp only [Act.put, setIfInBounds_toArray, set_cons_zero, set_cons_succ, i64_w, i32_w]; rfl
            refine pure_ (i := 12) (N := some 44) (v := ?_) (a' := ?_) #[true, true, true, true, false, true, false, false, false, true, false, true, true, false, false, false, false, false] rfl rfl (any_of HT_.out (by kernel_rfl)) (fun _ _ _ h => h) (Or.inl ⟨by rfl, ?_⟩) ?_ ?_
            rotate_left
            ·
             intro w'
             go_simp
             with_reducible rfl
            rotate_left
            · simp only [Act.put, setIfInBounds_toArray, set_cons_zero, set_cons_succ, i64_w, i32_w]; rfl
            refine take_ (i := 4) (N := some 36) (v := ?_) (a' := ?_) #[true, true, true, true, true, true, false, false, false, true, false, true, true, false, false, false, false, false] rfl rfl (take_ofW HT_.out HW_.out (by kernel_rfl)) (fun _ _ _ h => h) (Or.inl ⟨by rfl, ?_⟩) hHeld ?_ ?_
            rotate_left
            ·
             rintro w' ⟨s0, s1, s2, s3, s4, s5⟩
             go_simp
             with_reducible rfl
            rotate_left
            · simp only [Act.put, setIfInBounds_toArray, set_cons_zero, set_cons_succ, i64_w, i32_w]; rfl
            refine pure_ (i := 6) (N := some 38) (v := ?_) (a' := ?_) #[true, true, true, true, true, true, true, false, false, true, false, true, true, false, false, false, false, false] rfl rfl (any_of HT_.out (by kernel_rfl)) (fun _ _ _ h => h) (Or.inl ⟨by rfl, ?_⟩) ?_ ?_
            rotate_left
            ·
             intro w'
             go_simp
             with_reducible rfl
            rotate_left
            · simp only [Act.put, setIfInBounds_toArray, set_cons_zero, set_cons_succ, i64_w, i32_w]; rfl
            refine pure_ (i := 7) (N := some 39) (v := ?_) (a' := ?_) #[true, true, true, true, true, true, true, true, false, true, false, true, true, false, false, false, false, false] rfl rfl (any_of HT_.out (by kernel_rfl)) (fun _ _ _ h => h) (Or.inl ⟨by rfl, ?_⟩) ?_ ?_
            rotate_left
            ·
             intro w'
             go_simp
             with_reducible rfl
            rotate_left
            · simp only [Act.put, setIfInBounds_toArray, set_cons_zero, set_cons_succ, i64_w, i32_w]; rfl
            refine take_ (i := 8) (N := some 40) (v := ?_) (a' := ?_) #[true, true, true, true, true, true, true, true, true, true, false, true, true, false, false, false, false, false] rfl rfl (take_ofW HT_.out HW_.out (by kernel_rfl)) (fun _ _ _ h => h) (Or.inl ⟨by rfl, ?_⟩) hHeld ?_ ?_
            rotate_left
            ·
             rintro w' ⟨s0, s1, s2, s3, s4, s5⟩
             go_simp
             with_reducible rfl
            rotate_left
            · simp only [Act.put, setIfInBounds_toArray, set_cons_zero, set_cons_succ, i64_w, i32_w]; rfl
            refine take_ (i := 10) (N := some 42) (v := ?_) (a' := ?_) #[true, true, true, true, true, true, true, true, true, true, true, true, true, false, false, false, false, false] rfl rfl (take_ofW HT_.out HW_.out (by kernel_rfl)) (fun _ _ _ h => h) (Or.inl ⟨by rfl, ?_⟩) hHeld ?_ ?_
            rotate_left
            ·
             rintro w' ⟨s0, s1, s2, s3, s4, s5⟩
             go_simp
             with_reducible rfl
            rotate_left
            · simp only [Act.put, setIfInBounds_toArray, set_cons_zero, set_cons_succ, i64_w, i32_w]; rfl
            refine pure_ (i := 13) (N := some 45) (v := ?_) (a' := ?_) #[true, true, true, true, true, true, true, true, true, true, true, true, true, true, false, false, false, false] rfl rfl (any_of HT_.out (by kernel_rfl)) (fun _ _ _ h => h) (Or.inl ⟨by rfl, ?_⟩) ?_ ?_
            rotate_left
            ·
             intro w'
             go_simp
             with_reducible rfl
            rotate_left
            · simp only [Act.put, setIfInBounds_toArray, set_cons_zero, set_cons_succ, i64_w, i32_w]; rfl
            refine pure_ (i := 14) (N := some 46) (v := ?_) (a' := ?_) #[true, true, true, true, true, true, true, true, true, true, true, true, true, true, true, false, false, false] rfl rfl (any_of HT_.out (by kernel_rfl)) (fun _ _ _ h => h) (Or.inl ⟨by rfl, ?_⟩) ?_ ?_
            rotate_left
            ·
             intro w'
             go_simp
             with_reducible rfl
            rotate_left
            · simp only [Act.put, setIfInBounds_toArray, set_cons_zero, set_cons_succ, i64_w, i32_w]; rfl
            refine take_ (i := 15) (N := some 47) (v := ?_) (a' := ?_) #[true, true, true, true, true, true, true, true, true, true, true, true, true, true, true, true, false, false] rfl rfl (take_ofW HT_.out HW_.out (by kernel_rfl)) (fun _ _ _ h => h) (Or.inl ⟨by rfl, ?_⟩) hHeld ?_ ?_
            rotate_left
            ·
             rintro w' ⟨s0, s1, s2, s3, s4, s5⟩
             go_simp
             with_reducible rfl
            rotate_left
            · simp only [Act.put, setIfInBounds_toArray, set_cons_zero, set_cons_succ, i64_w, i32_w]; rfl
            refine pure_ (i := 16) (N := some 48) (v := ?_) (a' := ?_) #[true, true, true, true, true, true, true, true, true, true, true, true, true, true, true, true, true, false] rfl rfl (any_of HT_.out (by kernel_rfl)) (fun _ _ _ h => h) (Or.inl ⟨by rfl, ?_⟩) ?_ ?_
            rotate_left
            ·
             intro w'
             go_simp
             with_reducible rfl
            rotate_left
            · simp only [Act.put, setIfInBounds_toArray, set_cons_zero, set_cons_succ, i64_w, i32_w]; rfl
            refine pure_ (i := 17) (N := some 49) (v := ?_) (a' := ?_) #[true, true, true, true, true, true, true, true, true, true, true, true, true, true, true, true, true, true] rfl rfl (any_of HT_.out (by kernel_rfl)) (fun _ _ _ h => h) (Or.inl ⟨by rfl, ?_⟩) ?_ ?_
            rotate_left
            ·
             intro w'
             go_simp
             with_reducible rfl
            rotate_left
            · simp only [Act.put, setIfInBounds_toArray, set_cons_zero, set_cons_succ, i64_w, i32_w]; rfl
            refine done_ (done_of HT_.out (by kernel_rfl)) ?_
            try go_wp2
            go_roundg k2
            case measure => have := HK1.out; have := HK2.out; omega
            case rel => exact ⟨(wrap64 (x28_1 + 1)), (x124001_2), (.slice (some ad124) x124001_2.length co34), zqQ, H', ⟨by have := HK1.out; have := HK2.out; omega⟩, ⟨zqC HO_124001.out⟩, ⟨zqB BK117.out⟩, ⟨zqB BK118.out⟩, ⟨zqB BK123.out⟩, ⟨zqI HB.out GE117.out GE118.out GE123.out⟩⟩
          ·
           rw [if_neg c20] at H
           exact absurd H (by simp)
         ·
          rw [if_neg c19] at H
          exact absurd H (by simp)
        ·
         rw [if_neg c17] at H
         exact absurd H (by simp)
       ·
        rw [if_neg c16] at H
        exact absurd H (by simp)
      ·
       rw [if_neg c15] at H
       have c15b0 : decide (0 < x7_2) = false := decide_eq_false c15
       clear c15
       have H' := zA H
       clear H
       try go_wp2
       have n0_ := zA (Kd.R_drew HO_124001.out); have n1_ := zA (blk_drew BK117.out); have n2_ := zA (blk_drew BK118.out); have n3_ := zA (blk_drew BK123.out); have n4_ := zA (below_drew1 HB.out); clear HO_124001 BK117 BK118 BK123 HB; have HO_124001 := n0_; have BK117 := n1_; have BK118 := n2_; have BK123 := n3_; have HB := n4_; clear n0_ n1_ n2_ n3_ n4_
       refine start_ (n := 18) (S := fun w' => True) (ds := []) #[false, false, false, false, false, false, false, false, false, false, false, false, false, false, false, false, false, false] (by kernel_rfl) rfl rfl trivial (fun hHeld => ?_); refine with_tabW pianolalaw03_PunchAdded.tab6 pianolalaw03_PunchAdded.bits6 (fun HT_ HW_ => ?_)
       generalize wr.drew = w35 at HO_124001 BK117 BK118 BK123 HB hHeld ⊢
       refine pure_ (i := 0) (N := some 32) (v := ?_) (a' := ?_) #[true, false, false, false, false, false, false, false, false, false, false, false, false, false, false, false, false, false] rfl rfl (any_of HT_.out (by kernel_rfl)) (fun _ _ _ h => h) (Or.inl ⟨by rfl, ?_⟩) ?_ ?_
       rotate_left
       ·
        intro w'
        go_simp
        with_reducible rfl
       rotate_left
       · simp only [Act.put, setIfInBounds_toArray, set_cons_zero, set_cons_succ, i64_w, i32_w]; rfl
       refine pure_ (i := 1) (N := some 33) (v := ?_) (a' := ?_) #[true, true, false, false, false, false, false, false, false, false, false, false, false, false, false, false, false, false] rfl rfl (any_of HT_.out (by kernel_rfl)) (fun _ _ _ h => h) (Or.inl ⟨by rfl, ?_⟩) ?_ ?_
       rotate_left
       ·
        intro w'
        go_simp
        with_reducible rfl
       rotate_left
       · simp only [Act.put, setIfInBounds_toArray, set_cons_zero, set_cons_succ, i64_w, i32_w]; rfl
       refine pure_ (i := 2) (N := some 34) (v := ?_) (a' := ?_) #[true, true, true, false, false, false, false, false, false, false, false, false, false, false, false, false, false, false] rfl rfl (any_of HT_.out (by kernel_rfl)) (fun _ _ _ h => h) (Or.inl ⟨by rfl, ?_⟩) ?_ ?_
       rotate_left
       ·
        intro w'
        go_simp
        with_reducible rfl
       rotate_left
       · simp only [Act.put, setIfInBounds_toArray, set_cons_zero, set_cons_succ, i64_w, i32_w]; rfl
       refine pure_ (i := 3) (N := some 35) (v := undef) (a' := ?_) #[true, true, true, true, false, false, false, false, false, false, false, false, false, false, false, false, false, false] rfl rfl (any_of HT_.out (by kernel_rfl)) (fun _ _ _ h => h) (Or.inr ⟨by rfl, rfl⟩) ?_ ?_
       rotate_left
       · simp only [Act.put, setIfInBounds_toArray, set_cons_zero, set_cons_succ, i64_w, i32_w]; rfl
       refine pure_ (i := 4) (N := some 36) (v := undef) (a' := ?_) #[true, true, true, true, true, false, false, false, false, false, false, false, false, false, false, false, false, false] rfl rfl (any_of HT_.out (by kernel_rfl)) (fun _ _ _ h => h) (Or.inr ⟨by rfl, rfl⟩) ?_ ?_
       rotate_left
       · simp only [Act.put, setIfInBounds_toArray, set_cons_zero, set_cons_succ, i64_w, i32_w]; rfl
       refine pure_ (i := 5) (N := some 37) (v := undef) (a' := ?_) #[true, true, true, true, true, true, false, false, false, false, false, false, false, false, false, false, false, false] rfl rfl (any_of HT_.out (by kernel_rfl)) (fun _ _ _ h => h) (Or.inr ⟨by rfl, rfl⟩) ?_ ?_
       rotate_left
       · simp only [Act.put, setIfInBounds_toArray, set_cons_zero, set_cons_succ, i64_w, i32_w]; rfl
       refine pure_ (i := 6) (N := some 38) (v := undef) (a' := ?_) #[true, true, true, true, true, true, true, false, false, false, false, false, false, false, false, false, false, false] rfl rfl (any_of HT_.out (by kernel_rfl)) (fun _ _ _ h => h) (Or.inr ⟨by rfl, rfl⟩) ?_ ?_
       rotate_left
       · simp only [Act.put, setIfInBounds_toArray, set_cons_zero, set_cons_succ, i64_w, i32_w]; rfl
       refine pure_ (i := 7) (N := some 39) (v := undef) (a' := ?_) #[true, true, true, true, true, true, true, true, false, false, false, false, false, false, false, false, false, false] rfl rfl (any_of HT_.out (by kernel_rfl)) (fun _ _ _ h => h) (Or.inr ⟨by rfl, rfl⟩) ?_ ?_
       rotate_left
       · simp only [Act.put, setIfInBounds_toArray, set_cons_zero, set_cons_succ, i64_w, i32_w]; rfl
       refine pure_ (i := 8) (N := some 40) (v := undef) (a' := ?_) #[true, true, true, true, true, true, true, true, true, false, false, false, false, false, false, false, false, false] rfl rfl (any_of HT_.out (by kernel_rfl)) (fun _ _ _ h => h) (Or.inr ⟨by rfl, rfl⟩) ?_ ?_
       rotate_left
       · simp only [Act.put, setIfInBounds_toArray, set_cons_zero, set_cons_succ, i64_w, i32_w]; rfl
       refine pure_ (i := 9) (N := some 41) (v := undef) (a' := ?_) #[true, true, true, true, true, true, true, true, true, true, false, false, false, false, false, false, false, false] rfl rfl (any_of HT_.out (by kernel_rfl)) (fun _ _ _ h => h) (Or.inr ⟨by rfl, rfl⟩) ?_ ?_
       rotate_left
       · simp only [Act.put, setIfInBounds_toArray, set_cons_zero, set_cons_succ, i64_w, i32_w]; rfl
       refine pure_ (i := 10) (N := some 42) (v := undef) (a' := ?_) #[true, true, true, true, true, true, true, true, true, true, true, false, false, false, false, false, false, false] rfl rfl (any_of HT_.out (by kernel_rfl)) (fun _ _ _ h => h) (Or.inr ⟨by rfl, rfl⟩) ?_ ?_
       rotate_left
       · simp only [Act.put, setIfInBounds_toArray, set_cons_zero, set_cons_succ, i64_w, i32_w]; rfl
       refine pure_ (i := 11) (N := some 43) (v := undef) (a' := ?_) #[true, true, true, true, true, true, true, true, true, true, true, true, false, false, false, false, false, false] rfl rfl (any_of HT_.out (by kernel_rfl)) (fun _ _ _ h => h) (Or.inr ⟨by rfl, rfl⟩) ?_ ?_
       rotate_left
       · simp only [Act.put, setIfInBounds_toArray, set_cons_zero, set_cons_succ, i64_w, i32_w]; rfl
       refine pure_ (i := 12) (N := some 44) (v := undef) (a' := ?_) #[true, true, true, true, true, true, true, true, true, true, true, true, true, false, false, false, false, false] rfl rfl (any_of HT_.out (by kernel_rfl)) (fun _ _ _ h => h) (Or.inr ⟨by rfl, rfl⟩) ?_ ?_
       rotate_left
       · simp only [Act.put, setIfInBounds_toArray, set_cons_zero, set_cons_succ, i64_w, i32_w]; rfl
       refine pure_ (i := 13) (N := some 45) (v := undef) (a' := ?_) #[true, true, true, true, true, true, true, true, true, true, true, true, true, true, false, false, false, false] rfl rfl (any_of HT_.out (by kernel_rfl)) (fun _ _ _ h => h) (Or.inr ⟨by rfl, rfl⟩) ?_ ?_
       rotate_left
       · simp only [Act.put, setIfInBounds_toArray, set_cons_zero, set_cons_succ, i64_w, i32_w]; rfl
       refine pure_ (i := 14) (N := some 46) (v := undef) (a' := ?_) #[true, true, true, true, true, true, true, true, true, true, true, true, true, true, true, false, false, false] rfl rfl (any_of HT_.out (by kernel_rfl)) (fun _ _ _ h => h) (Or.inr ⟨by rfl, rfl⟩) ?_ ?_
       rotate_left
       · simp only [Act.put, setIfInBounds_toArray, set_cons_zero, set_cons_succ, i64_w, i32_w]; rfl
       refine pure_ (i := 15) (N := some 47) (v := undef) (a' := ?_) #[true, true, true, true, true, true, true, true, true, true, true, true, true, true, true, true, false, false] rfl rfl (any_of HT_.out (by kernel_rfl)) (fun _ _ _ h => h) (Or.inr ⟨by rfl, rfl⟩) ?_ ?_
       rotate_left
       · simp only [Act.put, setIfInBounds_toArray, set_cons_zero, set_cons_succ, i64_w, i32_w]; rfl
       refine pure_ (i := 16) (N := some 48) (v := undef) (a' := ?_) #[true, true, true, true, true, true, true, true, true, true, true, true, true, true, true, true, true, false] rfl rfl (any_of HT_.out (by kernel_rfl)) (fun _ _ _ h => h) (Or.inr ⟨by rfl, rfl⟩) ?_ ?_
       rotate_left
       · simp only [Act.put, setIfInBounds_toArray, set_cons_zero, set_cons_succ, i64_w, i32_w]; rfl
       refine pure_ (i := 17) (N := some 49) (v := ?_) (a' := ?_) #[true, true, true, true, true, true, true, true, true, true, true, true, true, true, true, true, true, true] rfl rfl (any_of HT_.out (by kernel_rfl)) (fun _ _ _ h => h) (Or.inl ⟨by rfl, ?_⟩) ?_ ?_
       rotate_left
       ·
        intro w'
        go_simp
        with_reducible rfl
       rotate_left
       · simp only [Act.put, setIfInBounds_toArray, set_cons_zero, set_cons_succ, i64_w, i32_w]; rfl
       refine done_ (done_of HT_.out (by kernel_rfl)) ?_
       try go_wp2
       go_roundg k2
       case measure => have := HK1.out; have := HK2.out; omega
       case rel => exact ⟨(wrap64 (x28_1 + 1)), (x124001_2), (u124001), zqQ, H', ⟨by have := HK1.out; have := HK2.out; omega⟩, ⟨zqC HO_124001.out⟩, ⟨zqB BK117.out⟩, ⟨zqB BK118.out⟩, ⟨zqB BK123.out⟩, ⟨zqI HB.out GE117.out GE118.out GE123.out⟩⟩
   ·
    rw [if_neg c14] at H
    have c14b0 : decide (x28_1 < (t120.length : Int)) = false := decide_eq_false c14
    clear c14
    replace H := Option.bind_eq_some_iff.mp H
    obtain ⟨⟨t130, t133, t134⟩, A360, H⟩ := H
    replace H : (if t134 = 0 then (pianolalaw03_PunchAdded.j2 k1 t130 ((t130.length : Int) != (x124001_1.length : Int)) a1_0 a1_1 t119 x124001_1) else (pianolalaw03_PunchAdded.j2 k1 t130 true a1_0 a1_1 t119 x124001_1)) = some r := H
    have A36 := zA A360
    clear A360
    have HC37 := zA H
    clear H
    have hnb38 := NB123_117.out
    have hnc38 := NB117_123.out
    have hnb39 := NB123_118.out
    have hnc39 := NB118_123.out
    have hcz40_0 : wr.cell? ⟨gb123, 0, none⟩ = some (.int .i64 t119) := (blk_cell BK123.out 0).trans rfl
    have hcz40_1 : wr.cell? ⟨gb123, 1, none⟩ = some (u124001) := (blk_cell BK123.out 1).trans rfl
    have hfz40_0 := blk_frozen BK123.out 0
    have hfz40_1 := blk_frozen BK123.out 1
    obtain ⟨Ao41, co41, eo41⟩ := Kd.R_slice HO_124001.out
    subst eo41
    go_upto_region 11 with (first | ((with_reducible refine gate_callee (f := 22) rfl ?_); refine goesL_ (some 75) rfl rfl Try.func22 (by kernel_rfl) rfl #[.agg #[.int .i64 t119, .slice Ao41 x124001_1.length co41]] rfl zqE ?_; (with_reducible refine (punch_Passes.calls t119 _ _ x124001_1 t130 t133 t134 _ ?side1 ?side2 A36.out).mono ?_); (case side1 => exact zqK (Kd.R_reads' HO_124001.out).2.2); (case side2 => exact (Kd.R_reads' HO_124001.out).2.1); rintro e w42 ⟨v131, rfl, ho0, hb⟩; refine ⟨_, rfl, ?_⟩; have n0_ := zA (Kd.R_below (zqC HO_124001.out) hb); have n1_ := zA (Kd.R_lower ho0 (below_size (zqI HB.out GE117.out GE118.out GE123.out))); have n2_ := zA (blk_below (g := gb117) (o := .cells #[.int .u8 a0_0, .slice A0_1 l0_1.length c0_1] 74 (0, 0)) (zqB BK117.out) hb); have n3_ := zA (blk_below (g := gb118) (o := .cells #[.int .u8 a1_0, .int .u8 a1_1] 82 (0, 0)) (zqB BK118.out) hb); have n4_ := zA (blk_below (g := gb123) (o := .cells #[.int .i64 t119, .slice Ao41 x124001_1.length co41] 24 (0, 0)) (zqB BK123.out) hb); have n5_ := zA (below_step (zqI HB.out GE117.out GE118.out GE123.out) hb); clear HO_124001; clear BK117; clear BK118; clear BK123; clear HB; have HO_124001 := n0_; have HO132 := n1_; have BK117 := n2_; have BK118 := n3_; have BK123 := n4_; have HB := n5_; clear n0_ n1_ n2_ n3_ n4_ n5_; (try clear hb); (try clear hb2); (try clear hk); (try clear hi); (try clear ho0)))
    (try simp only [Act.put, setIfInBounds_toArray, set_cons_zero, set_cons_succ])
    go_cut [88] (fun v88 wc => ∃ (kq : Nat) (x88_36 : Bool), v88 = .bool x88_36 ∧ Aside0 (pianolalaw03_PunchAdded.j2 kq t130 x88_36 a1_0 a1_1 t119 x124001_1 = some r) ∧ Aside0 (kq ≤ k1) ∧ Aside0 (Kd.R (Kd.int .i64) 3 wc w.heap.size (fun _ => True) v131 t130) ∧ Aside0 (Kd.R k47 47 wc w.heap.size (fun _ => True) (.slice Ao41 x124001_1.length co41) x124001_1) ∧ Aside0 (wc.heap[gb117]? = some (.cells #[.int .u8 a0_0, (.slice A0_1 l0_1.length c0_1)] 74 (0, 0))) ∧ Aside0 (wc.heap[gb118]? = some (.cells #[.int .u8 a1_0, .int .u8 a1_1] 82 (0, 0))) ∧ Aside0 (wc.heap[gb123]? = some (.cells #[.int .i64 t119, (.slice Ao41 x124001_1.length co41)] 24 (0, 0))) ∧ Aside0 (Below w.heap.size w wc))
    case first => as_aux_lemma =>
     have H := HC37.out
     clear HC37
     by_cases c43 : t134 = 0
     ·
      rw [if_pos c43] at H
      have c43b0 : (t134 == 0) = true := beq_iff_eq.mpr c43
      have c43b1 : (t134 != 0) = false := bne_eq_false_iff_eq.mpr c43
      clear c43
      (first | rw [c43b0] | (simp only [i64_w, i32_w]; rw [c43b0]) | skip)
      have H' := zA H
      clear H
      obtain ⟨Ao44, co44, eo44⟩ := Kd.R_slice HO132.out
      subst eo44
      have hnb45 := NB123_117.out
      have hnc45 := NB117_123.out
      have hnb46 := NB123_118.out
      have hnc46 := NB118_123.out
      have hcz47_0 : w42.cell? ⟨gb123, 0, none⟩ = some (.int .i64 t119) := (blk_cell BK123.out 0).trans rfl
      have hcz47_1 : w42.cell? ⟨gb123, 1, none⟩ = some (.slice Ao41 x124001_1.length co41) := (blk_cell BK123.out 1).trans rfl
      have hfz47_0 := blk_frozen BK123.out 0
      have hfz47_1 := blk_frozen BK123.out 1
      go_wp2
      go_meet
      case rel => exact ⟨_, (((t130.length : Int) != (x124001_1.length : Int))), zqQ, H', ⟨by have := HK1.out; first | omega | exact Nat.le_refl _⟩, ⟨zqC HO132.out⟩, ⟨zqC HO_124001.out⟩, ⟨zqB BK117.out⟩, ⟨zqB BK118.out⟩, ⟨zqB BK123.out⟩, ⟨zqI HB.out GE117.out GE118.out GE123.out⟩⟩
     ·
      rw [if_neg c43] at H
      exact (pianolalaw03_PunchAdded.j2_no H HRT.out).elim
    case rest => as_aux_lemma =>
     clear HC37
     try clear c1
     try clear p1
     try clear q1
     try clear hx1
     try clear c2
     try clear p2
     try clear q2
     try clear hx2
     try clear hf2
     try clear c3
     try clear hx3
     try clear hf3
     try clear c4
     try clear p6
     try clear p12
     try clear q12
     try clear hx12
     try clear c14
     try clear c14b0
     try clear c15
     try clear c15b0
     try clear c16
     try clear c17
     try clear c19
     try clear c20
     try clear c21
     try clear c21b0
     try clear c22
     try clear p22
     try clear q22
     try clear hx22
     try clear hf22
     try clear c23
     try clear p23
     try clear q23
     try clear hx23
     try clear hf23
     try clear c26
     try clear c27
     try clear c29
     try clear hx29
     try clear hf29
     try clear c31
     try clear hx31
     try clear hf31
     try clear c38
     try clear c39
     try clear c43
     try clear c43b0
     try clear c43b1
     try clear c45
     try clear c46
     try clear hcz28_0
     try clear hcz28_1
     try clear hcz40_0
     try clear hcz40_1
     try clear hcz47_0
     try clear hcz47_1
     try clear hfz28_0
     try clear hfz28_1
     try clear hfz40_0
     try clear hfz40_1
     try clear hfz47_0
     try clear hfz47_1
     try clear hx124_0
     try clear hx124_1
     try clear hx125_0
     try clear hx125_1
     try clear hx126_0
     try clear hx126_1
     try clear hx127_0
     try clear hx127_1
     try clear hx22_0
     try clear hx22_1
     try clear hx23_0
     try clear hx23_1
     try clear hx29_0
     try clear hx29_1
     try clear hx31_0
     try clear hx31_1
     try clear p124
     try clear p125
     try clear p126
     try clear p127
     try clear p22
     try clear p23
     try clear q124
     try clear q125
     try clear q126
     try clear q127
     try clear q22
     try clear q23
     obtain ⟨kq, x88_36, rfl, HA, HJ36, HO_8, HO_124001, BK117, BK118, BK123, HB⟩ := hcut
     cases kq with
     | zero => exact absurd HA.out (by simp [pianolalaw03_PunchAdded.j2])
     | succ kj36 =>
      have H := HA.out
      clear HA
      simp only [pianolalaw03_PunchAdded.j2] at H
      by_cases c48 : x88_36 = true
      ·
       subst c48
       have H1 : (some false) = some r := by rw [if_pos rfl] at H; exact H
       clear H; have H := H1; clear H1
       exact absurd ((Option.some.inj H).trans HRT.out) (by decide)
      ·
       replace c48 := Bool.eq_false_iff.mpr c48
       subst c48
       have H1 : (pianolalaw03_PunchAdded.l2 kj36 t130 ([] : List Int) x124001_1 (x124001_1.length : Int) 0 a1_0 a1_1 t119 ([] : List (S47))) = some r := by rw [if_neg (show ¬ (false = true) by decide)] at H; exact H
       clear H; have H := H1; clear H1
       have H' := zA H
       clear H
       have hnb49 := NB123_117.out
       have hnc49 := NB117_123.out
       have hnb50 := NB123_118.out
       have hnc50 := NB118_123.out
       have hcz51_0 : wc.cell? ⟨gb123, 0, none⟩ = some (.int .i64 t119) := (blk_cell BK123.out 0).trans rfl
       have hcz51_1 : wc.cell? ⟨gb123, 1, none⟩ = some (.slice Ao41 x124001_1.length co41) := (blk_cell BK123.out 1).trans rfl
       have hfz51_0 := blk_frozen BK123.out 0
       have hfz51_1 := blk_frozen BK123.out 1
       go_wp2_with (first | ((with_reducible refine gate_dst (N := 11) rfl ?_); (try (refine gate_guard (by rfl) ?_; dsimp only)); refine box_event ?hg (N := 11) ?hd (cs := #[.int .i64 0, .slice none 0 0]) (t := 24) ?hr ?_; (case hd => rfl); (case hg => rfl); (case hr => first | (go_simp; done) | (go_simp; rfl)); intro gb135 hg w52 hbox hb; have n0_ := zA (Kd.R_below (zqC HO_8.out) hb); have n1_ := zA (Kd.R_below (zqC HO_124001.out) hb); have n2_ := zA (blk_below (g := gb117) (o := .cells #[.int .u8 a0_0, .slice A0_1 l0_1.length c0_1] 74 (0, 0)) (zqB BK117.out) hb); have n3_ := zA (blk_below (g := gb118) (o := .cells #[.int .u8 a1_0, .int .u8 a1_1] 82 (0, 0)) (zqB BK118.out) hb); have n4_ := zA (blk_below (g := gb123) (o := .cells #[.int .i64 t119, .slice Ao41 x124001_1.length co41] 24 (0, 0)) (zqB BK123.out) hb); have n5_ := zA (below_step (zqI HB.out GE117.out GE118.out GE123.out) hb); have n6_ := zA (hbox); have n7_ := zA ((by rw [hg]; exact (below_size (zqI HB.out GE117.out GE118.out GE123.out)) : w.heap.size ≤ gb135)); have n8_ := zA ((by rw [hg]; exact (below_size (zqI HB.out GE117.out GE118.out GE123.out)) : w.heap.size ≤ gb135)); have n9_ := zA ((by rw [hg]; exact Nat.ne_of_lt (blk_lt (g := gb117) (o := .cells #[.int .u8 a0_0, .slice A0_1 l0_1.length c0_1] 74 (0, 0)) (zqB BK117.out)) : gb117 ≠ gb135)); have n10_ := zA ((by rw [hg]; exact Nat.ne_of_gt (blk_lt (g := gb117) (o := .cells #[.int .u8 a0_0, .slice A0_1 l0_1.length c0_1] 74 (0, 0)) (zqB BK117.out)) : gb135 ≠ gb117)); have n11_ := zA ((by rw [hg]; exact Nat.ne_of_lt (blk_lt (g := gb118) (o := .cells #[.int .u8 a1_0, .int .u8 a1_1] 82 (0, 0)) (zqB BK118.out)) : gb118 ≠ gb135)); have n12_ := zA ((by rw [hg]; exact Nat.ne_of_gt (blk_lt (g := gb118) (o := .cells #[.int .u8 a1_0, .int .u8 a1_1] 82 (0, 0)) (zqB BK118.out)) : gb135 ≠ gb118)); have n13_ := zA ((by rw [hg]; exact Nat.ne_of_lt (blk_lt (g := gb123) (o := .cells #[.int .i64 t119, .slice Ao41 x124001_1.length co41] 24 (0, 0)) (zqB BK123.out)) : gb123 ≠ gb135)); have n14_ := zA ((by rw [hg]; exact Nat.ne_of_gt (blk_lt (g := gb123) (o := .cells #[.int .i64 t119, .slice Ao41 x124001_1.length co41] 24 (0, 0)) (zqB BK123.out)) : gb135 ≠ gb123)); clear HO_8; clear HO_124001; clear BK117; clear BK118; clear BK123; clear HB; have HO_8 := n0_; have HO_124001 := n1_; have BK117 := n2_; have BK118 := n3_; have BK123 := n4_; have HB := n5_; have BK135 := n6_; have GW135 := n7_; have GE135 := n8_; have NB117_135 := n9_; have NB135_117 := n10_; have NB118_135 := n11_; have NB135_118 := n12_; have NB123_135 := n13_; have NB135_123 := n14_; clear n0_ n1_ n2_ n3_ n4_ n5_ n6_ n7_ n8_ n9_ n10_ n11_ n12_ n13_ n14_; clear hb hbox hg; have hnb53 := NB135_117.out; have hnc53 := NB117_135.out; have hnb54 := NB135_118.out; have hnc54 := NB118_135.out; have hnb55 := NB135_123.out; have hnc55 := NB123_135.out; have hcz56_0 : w52.cell? ⟨gb135, 0, none⟩ = some (.int .i64 0) := (blk_cell BK135.out 0).trans rfl; have hcz56_1 : w52.cell? ⟨gb135, 1, none⟩ = some (.slice none 0 0) := (blk_cell BK135.out 1).trans rfl; have hfz56_0 := blk_frozen BK135.out 0; have hfz56_1 := blk_frozen BK135.out 1; have hcz57_0 : w52.cell? ⟨gb123, 0, none⟩ = some (.int .i64 t119) := (blk_cell BK123.out 0).trans rfl; have hcz57_1 : w52.cell? ⟨gb123, 1, none⟩ = some (.slice Ao41 x124001_1.length co41) := (blk_cell BK123.out 1).trans rfl; have hfz57_0 := blk_frozen BK123.out 0; have hfz57_1 := blk_frozen BK123.out 1))
       go_loopg [12, 95] kj36 (fun kq v12 v95 w' => ∃ (x12_3 : List Int) (x95_3 : Int) (x136001_3 : List (S47)) (u136001 : Value), v95 = .int .i64 x95_3 ∧ Aside0 (pianolalaw03_PunchAdded.l2 kq t130 x12_3 x124001_1 (x124001_1.length : Int) x95_3 a1_0 a1_1 t119 x136001_3 = some r) ∧ Aside0 (kq ≤ kj36) ∧ Aside0 (Kd.R (Kd.int .i64) 3 w' w.heap.size (fun k_ => some k_ ≠ (v12 : Value).ownBlock) v131 t130) ∧ Aside0 (Kd.R (Kd.int .i64) 3 w' w.heap.size (fun k_ => some k_ ≠ (v131 : Value).ownBlock) v12 x12_3) ∧ Aside0 (Kd.R k47 47 w' w.heap.size (fun k_ => some k_ ≠ (u136001 : Value).ownBlock) (.slice Ao41 x124001_1.length co41) x124001_1) ∧ Aside0 (Kd.R k47 47 w' w.heap.size (fun k_ => some k_ ≠ (u136001 : Value).ownBlock) (.slice Ao41 x124001_1.length co41) x124001_1) ∧ Aside0 (Kd.R k47 47 w' w.heap.size (fun k_ => some k_ ≠ ((.slice Ao41 x124001_1.length co41) : Value).ownBlock ∧ some k_ ≠ ((.slice Ao41 x124001_1.length co41) : Value).ownBlock) u136001 x136001_3) ∧ Aside0 (w'.heap[gb117]? = some (.cells #[.int .u8 a0_0, (.slice A0_1 l0_1.length c0_1)] 74 (0, 0))) ∧ Aside0 (w'.heap[gb118]? = some (.cells #[.int .u8 a1_0, .int .u8 a1_1] 82 (0, 0))) ∧ Aside0 (w'.heap[gb123]? = some (.cells #[.int .i64 t119, (.slice Ao41 x124001_1.length co41)] 24 (0, 0))) ∧ Aside0 (w'.heap[gb135]? = some (.cells #[.int .i64 t119, u136001] 24 (0, 0))) ∧ Aside0 (Below w.heap.size w w'))
       case atStart => exact ⟨(([] : List Int)), (0), (([] : List (S47))), (.slice none 0 0), zqQ, H', ⟨Nat.le_refl _⟩, ⟨by (with_reducible repeat (first | apply Kd.R_alloc | apply Kd.R_drewN | apply Kd.R_drew)); exact Kd.R_mono (Kd.R_far (p := ⟨gb135, 1, none⟩) (Kd.R_far (p := ⟨gb135, 0, none⟩) (Kd.R_types HO_8.out BK135.out (by decide)) (fun _ hk => hk.2) (.int .i64 t119)) (fun _ hk => hk.2) (.slice none 0 0)) (fun _ hk => (by simp [Value.ownBlock]))⟩, ⟨by first | exact Kd.R_nil _ _ _ _ _ | exact Kd.N_nil _ _ _ _ _ | exact Kd.V_nil _ _ _ _ _ | exact Kd.Q_nil _ _ _ _ _ | exact Kd.S_nil _ _ _ _ _⟩, ⟨by (with_reducible repeat (first | apply Kd.R_alloc | apply Kd.R_drewN | apply Kd.R_drew)); exact Kd.R_mono (Kd.R_far (p := ⟨gb135, 1, none⟩) (Kd.R_far (p := ⟨gb135, 0, none⟩) (Kd.R_types HO_124001.out BK135.out (by decide)) (fun _ hk => hk.2) (.int .i64 t119)) (fun _ hk => hk.2) (.slice none 0 0)) (fun _ hk => (by simp [Value.ownBlock]))⟩, ⟨by (with_reducible repeat (first | apply Kd.R_alloc | apply Kd.R_drewN | apply Kd.R_drew)); exact Kd.R_mono (Kd.R_far (p := ⟨gb135, 1, none⟩) (Kd.R_far (p := ⟨gb135, 0, none⟩) (Kd.R_types HO_124001.out BK135.out (by decide)) (fun _ hk => hk.2) (.int .i64 t119)) (fun _ hk => hk.2) (.slice none 0 0)) (fun _ hk => (by simp [Value.ownBlock]))⟩, ⟨by first | exact Kd.R_nil _ _ _ _ _ | exact Kd.N_nil _ _ _ _ _ | exact Kd.V_nil _ _ _ _ _ | exact Kd.Q_nil _ _ _ _ _ | exact Kd.S_nil _ _ _ _ _⟩, ⟨by (with_reducible repeat (first | refine blk_drewN ?_ _ | refine blk_drew ?_ | refine blk_alloc ?_ _)); refine blk_far ?_ NB117_135.out _; (with_reducible repeat (first | refine blk_drewN ?_ _ | refine blk_drew ?_ | refine blk_alloc ?_ _)); refine blk_far ?_ NB117_135.out _; (with_reducible repeat (first | refine blk_drewN ?_ _ | refine blk_drew ?_ | refine blk_alloc ?_ _)); exact BK117.out⟩, ⟨by (with_reducible repeat (first | refine blk_drewN ?_ _ | refine blk_drew ?_ | refine blk_alloc ?_ _)); refine blk_far ?_ NB118_135.out _; (with_reducible repeat (first | refine blk_drewN ?_ _ | refine blk_drew ?_ | refine blk_alloc ?_ _)); refine blk_far ?_ NB118_135.out _; (with_reducible repeat (first | refine blk_drewN ?_ _ | refine blk_drew ?_ | refine blk_alloc ?_ _)); exact BK118.out⟩, ⟨by (with_reducible repeat (first | refine blk_drewN ?_ _ | refine blk_drew ?_ | refine blk_alloc ?_ _)); refine blk_far ?_ NB123_135.out _; (with_reducible repeat (first | refine blk_drewN ?_ _ | refine blk_drew ?_ | refine blk_alloc ?_ _)); refine blk_far ?_ NB123_135.out _; (with_reducible repeat (first | refine blk_drewN ?_ _ | refine blk_drew ?_ | refine blk_alloc ?_ _)); exact BK123.out⟩, ⟨by (with_reducible repeat (first | refine blk_drewN ?_ _ | refine blk_drew ?_ | refine blk_alloc ?_ _)); refine blk_put (cs := #[.int .i64 t119, .slice none 0 0]) ?_ 1 _ rfl; (with_reducible repeat (first | refine blk_drewN ?_ _ | refine blk_drew ?_ | refine blk_alloc ?_ _)); refine blk_put (cs := #[.int .i64 0, .slice none 0 0]) ?_ 0 _ rfl; (with_reducible repeat (first | refine blk_drewN ?_ _ | refine blk_drew ?_ | refine blk_alloc ?_ _)); exact BK135.out⟩, ⟨zqJ HB.out GE117.out GE118.out GE123.out GE135.out⟩⟩
       case round => as_aux_lemma =>
        clear H'
        try clear c1
        try clear p1
        try clear q1
        try clear hx1
        try clear c2
        try clear p2
        try clear q2
        try clear hx2
        try clear hf2
        try clear c3
        try clear hx3
        try clear hf3
        try clear c4
        try clear c5
        try clear p6
        try clear p12
        try clear q12
        try clear hx12
        try clear c14
        try clear c14b0
        try clear c15
        try clear c15b0
        try clear c16
        try clear c17
        try clear c19
        try clear c20
        try clear c21
        try clear c21b0
        try clear c22
        try clear p22
        try clear q22
        try clear hx22
        try clear hf22
        try clear c23
        try clear p23
        try clear q23
        try clear hx23
        try clear hf23
        try clear c26
        try clear c27
        try clear c29
        try clear hx29
        try clear hf29
        try clear c31
        try clear hx31
        try clear hf31
        try clear c38
        try clear c39
        try clear c43
        try clear c43b0
        try clear c43b1
        try clear c45
        try clear c46
        try clear c48
        try clear c49
        try clear c50
        try clear c53
        try clear c54
        try clear c55
        try clear hcz28_0
        try clear hcz28_1
        try clear hcz40_0
        try clear hcz40_1
        try clear hcz47_0
        try clear hcz47_1
        try clear hcz51_0
        try clear hcz51_1
        try clear hcz56_0
        try clear hcz56_1
        try clear hcz57_0
        try clear hcz57_1
        try clear hfz28_0
        try clear hfz28_1
        try clear hfz40_0
        try clear hfz40_1
        try clear hfz47_0
        try clear hfz47_1
        try clear hfz51_0
        try clear hfz51_1
        try clear hfz56_0
        try clear hfz56_1
        try clear hfz57_0
        try clear hfz57_1
        try clear hx124_0
        try clear hx124_1
        try clear hx125_0
        try clear hx125_1
        try clear hx126_0
        try clear hx126_1
        try clear hx127_0
        try clear hx127_1
        try clear hx22_0
        try clear hx22_1
        try clear hx23_0
        try clear hx23_1
        try clear hx29_0
        try clear hx29_1
        try clear hx31_0
        try clear hx31_1
        try clear p1
        try clear p12
        try clear p124
        try clear p125
        try clear p126
        try clear p127
        try clear p2
        try clear p22
        try clear p23
        try clear p6
        try clear q1
        try clear q12
        try clear q124
        try clear q125
        try clear q126
        try clear q127
        try clear q2
        try clear q22
        try clear q23
        obtain ⟨x12_3, x95_3, x136001_3, u136001, rfl, HA, HK3, HO_8, HO_12, HO_93, HO_124001, HO_136001, BK117, BK118, BK123, BK135, HB⟩ := hrel
        cases gk with
        | zero => exact absurd HA.out (by simp [pianolalaw03_PunchAdded.l2])
        | succ k3 =>
         have H := HA.out
         clear HA
         simp only [pianolalaw03_PunchAdded.l2] at H
         by_cases c58 : x95_3 < (x124001_1.length : Int)
         ·
          rw [if_pos c58] at H
          have c58b0 : decide (x95_3 < (x124001_1.length : Int)) = true := decide_eq_true c58
          clear c58
          by_cases c59 : 0 ≤ x95_3
          ·
           rw [if_pos c59] at H
           have c59b0 : decide (0 ≤ x95_3) = true := decide_eq_true c59
           clear c59
           by_cases c60 : x95_3 < (x124001_1.length : Int)
           ·
            rw [if_pos c60] at H
            have c60b0 : decide (x95_3 < (x124001_1.length : Int)) = true := decide_eq_true c60
            clear c60
            replace H := Option.bind_eq_some_iff.mp H
            obtain ⟨⟨t138, t139⟩, A610, H⟩ := H
            replace H : (if t139 = 0 then (if x95_3 < (t130.length : Int) then (if t138 = (rd t130 x95_3) then ((some (([(⟨(rd_T47 x124001_1 x95_3).f0, (rd_T47 x124001_1 x95_3).f1⟩ : S47)] : List (S47)) : List (S47))).bind fun y141 => (if x136001_3.length + y141.length < 8796093022208 then ((some (([t138] : List Int) : List Int)).bind fun y147 => (if x12_3.length + y147.length < 17592186044416 then (pianolalaw03_PunchAdded.l2 k3 t130 (x12_3 ++ y147) x124001_1 (x124001_1.length : Int) (wrap64 (x95_3 + 1)) a1_0 a1_1 t119 (x136001_3 ++ y141)) else (none))) else (none))) else (some false)) else (none)) else (some false)) = some r := H
            have A61 := zA A610
            clear A610
            by_cases c62 : t139 = 0
            ·
             rw [if_pos c62] at H
             have c62b0 : (t139 == 0) = true := beq_iff_eq.mpr c62
             have c62b1 : (t139 != 0) = false := bne_eq_false_iff_eq.mpr c62
             clear c62
             by_cases c63 : x95_3 < (t130.length : Int)
             ·
              rw [if_pos c63] at H
              have c63b0 : decide (x95_3 < (t130.length : Int)) = true := decide_eq_true c63
              clear c63
              by_cases c64 : t138 = (rd t130 x95_3)
              ·
               rw [if_pos c64] at H
               have c64b0 : (t138 == (rd t130 x95_3)) = true := beq_iff_eq.mpr c64
               have c64b1 : (t138 != (rd t130 x95_3)) = false := bne_eq_false_iff_eq.mpr c64
               clear c64
               obtain ⟨y141, hy141⟩ : ∃ y_ : List (S47), y_ = (([(⟨(rd_T47 x124001_1 x95_3).f0, (rd_T47 x124001_1 x95_3).f1⟩ : S47)] : List (S47))) := ⟨_, rfl⟩
               replace H : (if x136001_3.length + y141.length < 8796093022208 then ((some (([t138] : List Int) : List Int)).bind fun y147 => (if x12_3.length + y147.length < 17592186044416 then (pianolalaw03_PunchAdded.l2 k3 t130 (x12_3 ++ y147) x124001_1 (x124001_1.length : Int) (wrap64 (x95_3 + 1)) a1_0 a1_1 t119 (x136001_3 ++ y141)) else (none))) else (none)) = some r := zqF hy141 H
               have Ny141 := zA hy141
               clear hy141
               by_cases c65 : x136001_3.length + y141.length < 8796093022208
               ·
                rw [if_pos c65] at H
                have LMc65 := zA c65
                clear c65
                obtain ⟨y144, hy144⟩ : ∃ y_ : List (S47), y_ = (x136001_3 ++ y141) := ⟨_, rfl⟩
                replace H : ((some (([t138] : List Int) : List Int)).bind fun y147 => (if x12_3.length + y147.length < 17592186044416 then (pianolalaw03_PunchAdded.l2 k3 t130 (x12_3 ++ y147) x124001_1 (x124001_1.length : Int) (wrap64 (x95_3 + 1)) a1_0 a1_1 t119 y144) else (none))) = some r := zqF hy144 H
                have Ny144 := zA hy144
                clear hy144
                obtain ⟨y147, hy147⟩ : ∃ y_ : List Int, y_ = (([t138] : List Int)) := ⟨_, rfl⟩
                replace H : (if x12_3.length + y147.length < 17592186044416 then (pianolalaw03_PunchAdded.l2 k3 t130 (x12_3 ++ y147) x124001_1 (x124001_1.length : Int) (wrap64 (x95_3 + 1)) a1_0 a1_1 t119 y144) else (none)) = some r := zqF hy147 H
                have Ny147 := zA hy147
                clear hy147
                by_cases c66 : x12_3.length + y147.length < 17592186044416
                ·
                 rw [if_pos c66] at H
                 have LMc66 := zA c66
                 clear c66
                 obtain ⟨y150, hy150⟩ : ∃ y_ : List Int, y_ = (x12_3 ++ y147) := ⟨_, rfl⟩
                 replace H : (pianolalaw03_PunchAdded.l2 k3 t130 y150 x124001_1 (x124001_1.length : Int) (wrap64 (x95_3 + 1)) a1_0 a1_1 t119 y144) = some r := zqF hy150 H
                 have Ny150 := zA hy150
                 clear hy150
                 have H' := zA H
                 clear H
                 have p136 : 0 ≤ (x95_3 : Int) := of_decide_eq_true (zqD)
                 have q136 : x95_3 < (x124001_1.length : Int) := of_decide_eq_true (zqD)
                 obtain ⟨ad136, e136, hx136_0, hx136_1⟩ := at_T47 (Kd.R_reads' HO_93.out).2.2 x95_3 p136 q136
                 cases e136; replace p136 := eq_true p136; replace q136 := eq_true q136
                 go_wp2_with (first | ((with_reducible refine gate_dst (N := 14) rfl ?_); (try (refine gate_guard (by rfl) ?_; dsimp only)); refine box_event ?hg (N := 14) ?hd (cs := #[.int .i64 0, .int .i64 0]) (t := 47) ?hr ?_; (case hd => rfl); (case hg => rfl); (case hr => first | (go_simp; done) | (go_simp; rfl)); intro gb137 hg w67 hbox hb; have n0_ := zA (Kd.R_below (zqC HO_8.out) hb); have n1_ := zA (Kd.R_below (zqC HO_12.out) hb); have n2_ := zA (Kd.R_below (Kd.R_elderB (zqC HO_93.out) gb137 (Nat.le_of_eq hg.symm)) hb); have n3_ := zA (Kd.R_below (Kd.R_elderB (zqC HO_124001.out) gb137 (Nat.le_of_eq hg.symm)) hb); have n4_ := zA (Kd.R_below (Kd.R_elderB (zqC HO_136001.out) gb137 (Nat.le_of_eq hg.symm)) hb); have n5_ := zA (blk_below (g := gb117) (o := .cells #[.int .u8 a0_0, .slice A0_1 l0_1.length c0_1] 74 (0, 0)) (zqB BK117.out) hb); have n6_ := zA (blk_below (g := gb118) (o := .cells #[.int .u8 a1_0, .int .u8 a1_1] 82 (0, 0)) (zqB BK118.out) hb); have n7_ := zA (blk_below (g := gb123) (o := .cells #[.int .i64 t119, .slice (some ad136) x124001_1.length co41] 24 (0, 0)) (zqB BK123.out) hb); have n8_ := zA (blk_below (g := gb135) (o := .cells #[.int .i64 t119, u136001] 24 (0, 0)) (zqB BK135.out) hb); have n9_ := zA (below_step (zqJ HB.out GE117.out GE118.out GE123.out GE135.out) hb); have n10_ := zA (hbox); have n11_ := zA ((by rw [hg]; exact (below_size (zqJ HB.out GE117.out GE118.out GE123.out GE135.out)) : w.heap.size ≤ gb137)); have n12_ := zA ((by rw [hg]; exact (below_size (zqJ HB.out GE117.out GE118.out GE123.out GE135.out)) : w.heap.size ≤ gb137)); have n13_ := zA ((by rw [hg]; exact Nat.ne_of_lt (blk_lt (g := gb117) (o := .cells #[.int .u8 a0_0, .slice A0_1 l0_1.length c0_1] 74 (0, 0)) (zqB BK117.out)) : gb117 ≠ gb137)); have n14_ := zA ((by rw [hg]; exact Nat.ne_of_gt (blk_lt (g := gb117) (o := .cells #[.int .u8 a0_0, .slice A0_1 l0_1.length c0_1] 74 (0, 0)) (zqB BK117.out)) : gb137 ≠ gb117)); have n15_ := zA ((by rw [hg]; exact Nat.ne_of_lt (blk_lt (g := gb118) (o := .cells #[.int .u8 a1_0, .int .u8 a1_1] 82 (0, 0)) (zqB BK118.out)) : gb118 ≠ gb137)); have n16_ := zA ((by rw [hg]; exact Nat.ne_of_gt (blk_lt (g := gb118) (o := .cells #[.int .u8 a1_0, .int .u8 a1_1] 82 (0, 0)) (zqB BK118.out)) : gb137 ≠ gb118)); have n17_ := zA ((by rw [hg]; exact Nat.ne_of_lt (blk_lt (g := gb123) (o := .cells #[.int .i64 t119, .slice (some ad136) x124001_1.length co41] 24 (0, 0)) (zqB BK123.out)) : gb123 ≠ gb137)); have n18_ := zA ((by rw [hg]; exact Nat.ne_of_gt (blk_lt (g := gb123) (o := .cells #[.int .i64 t119, .slice (some ad136) x124001_1.length co41] 24 (0, 0)) (zqB BK123.out)) : gb137 ≠ gb123)); have n19_ := zA ((by rw [hg]; exact Nat.ne_of_lt (blk_lt (g := gb135) (o := .cells #[.int .i64 t119, u136001] 24 (0, 0)) (zqB BK135.out)) : gb135 ≠ gb137)); have n20_ := zA ((by rw [hg]; exact Nat.ne_of_gt (blk_lt (g := gb135) (o := .cells #[.int .i64 t119, u136001] 24 (0, 0)) (zqB BK135.out)) : gb137 ≠ gb135)); clear HO_8; clear HO_12; clear HO_93; clear HO_124001; clear HO_136001; clear BK117; clear BK118; clear BK123; clear BK135; clear HB; have HO_8 := n0_; have HO_12 := n1_; have HO_93 := n2_; have HO_124001 := n3_; have HO_136001 := n4_; have BK117 := n5_; have BK118 := n6_; have BK123 := n7_; have BK135 := n8_; have HB := n9_; have BK137 := n10_; have GW137 := n11_; have GE137 := n12_; have NB117_137 := n13_; have NB137_117 := n14_; have NB118_137 := n15_; have NB137_118 := n16_; have NB123_137 := n17_; have NB137_123 := n18_; have NB135_137 := n19_; have NB137_135 := n20_; clear n0_ n1_ n2_ n3_ n4_ n5_ n6_ n7_ n8_ n9_ n10_ n11_ n12_ n13_ n14_ n15_ n16_ n17_ n18_ n19_ n20_; clear hb hbox hg; have hnb68 := NB137_117.out; have hnc68 := NB117_137.out; have hnb69 := NB137_118.out; have hnc69 := NB118_137.out; have hnb70 := NB137_123.out; have hnc70 := NB123_137.out; have hnb71 := NB137_135.out; have hnc71 := NB135_137.out; have hcz72_0 : w67.cell? ⟨gb137, 0, none⟩ = some (.int .i64 0) := (blk_cell BK137.out 0).trans rfl; have hcz72_1 : w67.cell? ⟨gb137, 1, none⟩ = some (.int .i64 0) := (blk_cell BK137.out 1).trans rfl; have hfz72_0 := blk_frozen BK137.out 0; have hfz72_1 := blk_frozen BK137.out 1; have hnb73 := NB135_117.out; have hnc73 := NB117_135.out; have hnb74 := NB135_118.out; have hnc74 := NB118_135.out; have hnb75 := NB135_123.out; have hnc75 := NB123_135.out; have hcz76_0 : w67.cell? ⟨gb135, 0, none⟩ = some (.int .i64 t119) := (blk_cell BK135.out 0).trans rfl; have hcz76_1 : w67.cell? ⟨gb135, 1, none⟩ = some (u136001) := (blk_cell BK135.out 1).trans rfl; have hfz76_0 := blk_frozen BK135.out 0; have hfz76_1 := blk_frozen BK135.out 1; obtain ⟨Ao77, co77, eo77⟩ := Kd.R_slice HO_136001.out; subst eo77; obtain ⟨Ao78, co78, eo78⟩ := Kd.R_slice HO_12.out; subst eo78) | ((with_reducible refine gate_callee (f := 28) rfl ?_); refine goesL_ (some 104) rfl rfl Try.func28 (by kernel_rfl) rfl #[.agg #[.int .i64 t119, .slice Ao77 x136001_3.length co77], .slice Ao78 x12_3.length co78, .agg #[.int .i64 ((rd_T47 x124001_1 x95_3).f0), .int .i64 ((rd_T47 x124001_1 x95_3).f1)]] rfl zqE ?_; (with_reducible refine (punch_Add.calls t119 _ _ x136001_3 _ _ x12_3 ((rd_T47 x124001_1 x95_3).f0) ((rd_T47 x124001_1 x95_3).f1) t138 t139 _ ?side1 ?side2 ?side3 ?side4 A61.out).mono ?_); (case side1 => refine (Kd.R_reads' (e := 47) (base := w.heap.size) (ok := fun k_ => ((some k_ ≠ (.slice (some ad136) x124001_1.length co41 : Value).ownBlock ∧ some k_ ≠ (.slice (some ad136) x124001_1.length co41 : Value).ownBlock) ∧ k_ ≠ gb137)) (n := x136001_3.length) (c := co77) ?_).2.2; exact (by (with_reducible repeat (first | apply Kd.R_alloc | apply Kd.R_drewN | apply Kd.R_drew)); exact (Kd.R_mono (Kd.R_far (p := ⟨gb137, 1, none⟩) (Kd.R_far (p := ⟨gb137, 0, none⟩) (Kd.R_mono HO_136001.out (fun k_ hk => (⟨hk, hk.2⟩ : _ ∧ k_ ≠ gb137))) (fun _ hk => hk.2) (.int .i64 ((rd_T47 x124001_1 x95_3).f0))) (fun _ hk => hk.2) (.int .i64 ((rd_T47 x124001_1 x95_3).f1))) (fun _ h_ => h_.1)))); (case side2 => exact (Kd.R_reads' HO_136001.out).2.1); (case side3 => refine (Kd.R_reads' (e := 3) (base := w.heap.size) (ok := fun k_ => some k_ ≠ (v131 : Value).ownBlock) (n := x12_3.length) (c := co78) ?_).2.2; exact (by (with_reducible repeat (first | apply Kd.R_alloc | apply Kd.R_drewN | apply Kd.R_drew)); exact (Kd.R_mono (Kd.R_far (p := ⟨gb137, 1, none⟩) (Kd.R_far (p := ⟨gb137, 0, none⟩) (Kd.R_types HO_12.out BK137.out (by decide)) (fun _ hk => hk.2) (.int .i64 ((rd_T47 x124001_1 x95_3).f0))) (fun _ hk => hk.2) (.int .i64 ((rd_T47 x124001_1 x95_3).f1))) (fun _ h_ => h_.1)))); (case side4 => exact (Kd.R_reads' HO_12.out).2.1); rintro e w79 ⟨rfl, hb⟩; refine ⟨_, rfl, ?_⟩; have n0_ := zA (Kd.R_below (by (with_reducible repeat (first | apply Kd.R_alloc | apply Kd.R_drewN | apply Kd.R_drew)); exact (Kd.R_mono (Kd.R_far (p := ⟨gb137, 1, none⟩) (Kd.R_far (p := ⟨gb137, 0, none⟩) (Kd.R_types HO_8.out BK137.out (by decide)) (fun _ hk => hk.2) (.int .i64 ((rd_T47 x124001_1 x95_3).f0))) (fun _ hk => hk.2) (.int .i64 ((rd_T47 x124001_1 x95_3).f1))) (fun _ h_ => h_.1))) hb); have n1_ := zA (Kd.R_below (by (with_reducible repeat (first | apply Kd.R_alloc | apply Kd.R_drewN | apply Kd.R_drew)); exact (Kd.R_mono (Kd.R_far (p := ⟨gb137, 1, none⟩) (Kd.R_far (p := ⟨gb137, 0, none⟩) (Kd.R_types HO_12.out BK137.out (by decide)) (fun _ hk => hk.2) (.int .i64 ((rd_T47 x124001_1 x95_3).f0))) (fun _ hk => hk.2) (.int .i64 ((rd_T47 x124001_1 x95_3).f1))) (fun _ h_ => h_.1))) hb); have n2_ := zA (Kd.R_below (by (with_reducible repeat (first | apply Kd.R_alloc | apply Kd.R_drewN | apply Kd.R_drew)); exact (Kd.R_mono (Kd.R_far (p := ⟨gb137, 1, none⟩) (Kd.R_far (p := ⟨gb137, 0, none⟩) (Kd.R_mono HO_93.out (fun k_ hk => (⟨hk, hk.2⟩ : _ ∧ k_ ≠ gb137))) (fun _ hk => hk.2) (.int .i64 ((rd_T47 x124001_1 x95_3).f0))) (fun _ hk => hk.2) (.int .i64 ((rd_T47 x124001_1 x95_3).f1))) (fun _ h_ => h_.1))) hb); have n3_ := zA (Kd.R_below (by (with_reducible repeat (first | apply Kd.R_alloc | apply Kd.R_drewN | apply Kd.R_drew)); exact (Kd.R_mono (Kd.R_far (p := ⟨gb137, 1, none⟩) (Kd.R_far (p := ⟨gb137, 0, none⟩) (Kd.R_mono HO_124001.out (fun k_ hk => (⟨hk, hk.2⟩ : _ ∧ k_ ≠ gb137))) (fun _ hk => hk.2) (.int .i64 ((rd_T47 x124001_1 x95_3).f0))) (fun _ hk => hk.2) (.int .i64 ((rd_T47 x124001_1 x95_3).f1))) (fun _ h_ => h_.1))) hb); have n4_ := zA (Kd.R_below (by (with_reducible repeat (first | apply Kd.R_alloc | apply Kd.R_drewN | apply Kd.R_drew)); exact (Kd.R_mono (Kd.R_far (p := ⟨gb137, 1, none⟩) (Kd.R_far (p := ⟨gb137, 0, none⟩) (Kd.R_mono HO_136001.out (fun k_ hk => (⟨hk, hk.2⟩ : _ ∧ k_ ≠ gb137))) (fun _ hk => hk.2) (.int .i64 ((rd_T47 x124001_1 x95_3).f0))) (fun _ hk => hk.2) (.int .i64 ((rd_T47 x124001_1 x95_3).f1))) (fun _ h_ => h_.1))) hb); have n5_ := zA (blk_below (g := gb117) (o := .cells #[.int .u8 a0_0, .slice A0_1 l0_1.length c0_1] 74 (0, 0)) (by (with_reducible repeat (first | refine blk_drewN ?_ _ | refine blk_drew ?_ | refine blk_alloc ?_ _)); refine blk_far ?_ NB117_137.out _; (with_reducible repeat (first | refine blk_drewN ?_ _ | refine blk_drew ?_ | refine blk_alloc ?_ _)); refine blk_far ?_ NB117_137.out _; (with_reducible repeat (first | refine blk_drewN ?_ _ | refine blk_drew ?_ | refine blk_alloc ?_ _)); exact BK117.out) hb); have n6_ := zA (blk_below (g := gb118) (o := .cells #[.int .u8 a1_0, .int .u8 a1_1] 82 (0, 0)) (by (with_reducible repeat (first | refine blk_drewN ?_ _ | refine blk_drew ?_ | refine blk_alloc ?_ _)); refine blk_far ?_ NB118_137.out _; (with_reducible repeat (first | refine blk_drewN ?_ _ | refine blk_drew ?_ | refine blk_alloc ?_ _)); refine blk_far ?_ NB118_137.out _; (with_reducible repeat (first | refine blk_drewN ?_ _ | refine blk_drew ?_ | refine blk_alloc ?_ _)); exact BK118.out) hb); have n7_ := zA (blk_below (g := gb123) (o := .cells #[.int .i64 t119, .slice (some ad136) x124001_1.length co41] 24 (0, 0)) (by (with_reducible repeat (first | refine blk_drewN ?_ _ | refine blk_drew ?_ | refine blk_alloc ?_ _)); refine blk_far ?_ NB123_137.out _; (with_reducible repeat (first | refine blk_drewN ?_ _ | refine blk_drew ?_ | refine blk_alloc ?_ _)); refine blk_far ?_ NB123_137.out _; (with_reducible repeat (first | refine blk_drewN ?_ _ | refine blk_drew ?_ | refine blk_alloc ?_ _)); exact BK123.out) hb); have n8_ := zA (blk_below (g := gb135) (o := .cells #[.int .i64 t119, .slice Ao77 x136001_3.length co77] 24 (0, 0)) (by (with_reducible repeat (first | refine blk_drewN ?_ _ | refine blk_drew ?_ | refine blk_alloc ?_ _)); refine blk_far ?_ NB135_137.out _; (with_reducible repeat (first | refine blk_drewN ?_ _ | refine blk_drew ?_ | refine blk_alloc ?_ _)); refine blk_far ?_ NB135_137.out _; (with_reducible repeat (first | refine blk_drewN ?_ _ | refine blk_drew ?_ | refine blk_alloc ?_ _)); exact BK135.out) hb); have n9_ := zA (blk_below (g := gb137) (o := .cells #[.int .i64 ((rd_T47 x124001_1 x95_3).f0), .int .i64 ((rd_T47 x124001_1 x95_3).f1)] 47 (0, 0)) (by (with_reducible repeat (first | refine blk_drewN ?_ _ | refine blk_drew ?_ | refine blk_alloc ?_ _)); refine blk_put (cs := #[.int .i64 ((rd_T47 x124001_1 x95_3).f0), .int .i64 0]) ?_ 1 _ rfl; (with_reducible repeat (first | refine blk_drewN ?_ _ | refine blk_drew ?_ | refine blk_alloc ?_ _)); refine blk_put (cs := #[.int .i64 0, .int .i64 0]) ?_ 0 _ rfl; (with_reducible repeat (first | refine blk_drewN ?_ _ | refine blk_drew ?_ | refine blk_alloc ?_ _)); exact BK137.out) hb); have n10_ := zA (below_step (by repeat (first | (with_reducible first | exact HB.out | apply below_alloc | apply pw_below_drewN | apply below_drew1 | refine below_set ?_ GE117.out | refine below_set ?_ GE118.out | refine below_set ?_ GE123.out | refine below_set ?_ GE135.out | refine below_set ?_ GE137.out) | exact HB.out)) hb); clear HO_8; clear HO_12; clear HO_93; clear HO_124001; clear HO_136001; clear BK117; clear BK118; clear BK123; clear BK135; clear BK137; clear HB; have HO_8 := n0_; have HO_12 := n1_; have HO_93 := n2_; have HO_124001 := n3_; have HO_136001 := n4_; have BK117 := n5_; have BK118 := n6_; have BK123 := n7_; have BK135 := n8_; have BK137 := n9_; have HB := n10_; clear n0_ n1_ n2_ n3_ n4_ n5_ n6_ n7_ n8_ n9_ n10_; (try clear hb); (try clear hb2); (try clear hk); (try clear hi); obtain ⟨Ao80, co80, eo80⟩ := Kd.R_slice HO_8.out; subst eo80; have p140 : 0 ≤ (x95_3 : Int) := of_decide_eq_true (zqD); have q140 : x95_3 < (t130.length : Int) := of_decide_eq_true (zqD); obtain ⟨ad140, e140, hx140_0⟩ := Kd.at_int (Kd.R_reads' HO_8.out).2.2 x95_3 p140 q140; cases e140; replace p140 := eq_true p140; replace q140 := eq_true q140; have hcz81_0 : w79.cell? ⟨gb135, 0, none⟩ = some (.int .i64 t119) := (blk_cell BK135.out 0).trans rfl; have hcz81_1 : w79.cell? ⟨gb135, 1, none⟩ = some (.slice Ao77 x136001_3.length co77) := (blk_cell BK135.out 1).trans rfl; have hfz81_0 := blk_frozen BK135.out 0; have hfz81_1 := blk_frozen BK135.out 1; have hcz82_0 : w79.cell? ⟨gb137, 0, none⟩ = some (.int .i64 ((rd_T47 x124001_1 x95_3).f0)) := (blk_cell BK137.out 0).trans rfl; have hcz82_1 : w79.cell? ⟨gb137, 1, none⟩ = some (.int .i64 ((rd_T47 x124001_1 x95_3).f1)) := (blk_cell BK137.out 1).trans rfl; have hfz82_0 := blk_frozen BK137.out 0; have hfz82_1 := blk_frozen BK137.out 1) | ((with_reducible refine gate_dst (N := 120) rfl ?_); (try (refine gate_guard (by rfl) ?_; dsimp only)); refine Kd.R_lit k47 _ 47 ?hg (N := 120) ?hd (xs := ([(⟨(rd_T47 x124001_1 x95_3).f0, (rd_T47 x124001_1 x95_3).f1⟩ : S47)] : List (S47))) (inner := [.int .i64 ((rd_T47 x124001_1 x95_3).f0), .int .i64 ((rd_T47 x124001_1 x95_3).f1)]) (ok := fun _ => True) (okp := fun _ => True) ?hr ?hp (fun _ hk => hk) trivial (Below.refl _ _) (Nat.le_refl _) (by simp) ?_; (case hd => rfl); (case hg => rfl); (case hr => first | (go_simp; done) | (go_simp; rfl)); (case hp => exact (Reps.c2 (show Kd.M k47 _ _ _ (⟨(rd_T47 x124001_1 x95_3).f0, (rd_T47 x124001_1 x95_3).f1⟩ : S47) [.int .i64 ((rd_T47 x124001_1 x95_3).f0), .int .i64 ((rd_T47 x124001_1 x95_3).f1)] from (k47_mkM _ _ _ (⟨(rd_T47 x124001_1 x95_3).f0, (rd_T47 x124001_1 x95_3).f1⟩ : S47) )) (Reps.none _ _))); intro v142 w83 ho84 hb hg_ hnew_; clear hg_ hnew_; (first | rw [← Ny141.out] at ho84 | (simp only [Int.reduceToNat] at ho84; rw [← Ny141.out] at ho84)); have n0_ := zA (Kd.R_below (zqC HO_8.out) hb); have n1_ := zA (Kd.R_below (zqC HO_12.out) hb); have n2_ := zA (Kd.R_elder' (zqC HO_93.out) (Kd.R_base ho84) hb); have n3_ := zA (Kd.R_elder' (zqC HO_124001.out) (Kd.R_base ho84) hb); have n4_ := zA (Kd.R_elder' (zqC HO_136001.out) (Kd.R_base ho84) hb); have n5_ := zA (Kd.R_lower (Kd.R_newB (Kd.R_new' (Kd.R_new' (Kd.R_new' ho84 (Kd.R_lt (zqC HO_93.out))) (Kd.R_lt (zqC HO_124001.out))) (Kd.R_lt (zqC HO_136001.out))) (g := gb137) (o := .cells #[.int .i64 ((rd_T47 x124001_1 x95_3).f0), .int .i64 ((rd_T47 x124001_1 x95_3).f1)] 47 (0, 0)) (zqB BK137.out)) (below_size (by repeat (first | (with_reducible first | exact HB.out | apply below_alloc | apply pw_below_drewN | apply below_drew1 | refine below_set ?_ GE117.out | refine below_set ?_ GE118.out | refine below_set ?_ GE123.out | refine below_set ?_ GE135.out | refine below_set ?_ GE137.out) | exact HB.out)))); have n6_ := zA (blk_below (g := gb117) (o := .cells #[.int .u8 a0_0, .slice A0_1 l0_1.length c0_1] 74 (0, 0)) (zqB BK117.out) hb); have n7_ := zA (blk_below (g := gb118) (o := .cells #[.int .u8 a1_0, .int .u8 a1_1] 82 (0, 0)) (zqB BK118.out) hb); have n8_ := zA (blk_below (g := gb123) (o := .cells #[.int .i64 t119, .slice (some ad136) x124001_1.length co41] 24 (0, 0)) (zqB BK123.out) hb); have n9_ := zA (blk_below (g := gb135) (o := .cells #[.int .i64 t119, .slice Ao77 x136001_3.length co77] 24 (0, 0)) (zqB BK135.out) hb); have n10_ := zA (blk_below (g := gb137) (o := .cells #[.int .i64 ((rd_T47 x124001_1 x95_3).f0), .int .i64 ((rd_T47 x124001_1 x95_3).f1)] 47 (0, 0)) (zqB BK137.out) hb); have n11_ := zA (below_step (by repeat (first | (with_reducible first | exact HB.out | apply below_alloc | apply pw_below_drewN | apply below_drew1 | refine below_set ?_ GE117.out | refine below_set ?_ GE118.out | refine below_set ?_ GE123.out | refine below_set ?_ GE135.out | refine below_set ?_ GE137.out) | exact HB.out)) hb); clear HO_8; clear HO_12; clear HO_93; clear HO_124001; clear HO_136001; clear BK117; clear BK118; clear BK123; clear BK135; clear BK137; clear HB; have HO_8 := n0_; have HO_12 := n1_; have HO_93 := n2_; have HO_124001 := n3_; have HO_136001 := n4_; have HO143 := n5_; have BK117 := n6_; have BK118 := n7_; have BK123 := n8_; have BK135 := n9_; have BK137 := n10_; have HB := n11_; clear n0_ n1_ n2_ n3_ n4_ n5_ n6_ n7_ n8_ n9_ n10_ n11_; clear hb ho84; obtain ⟨Ao86, co86, eo86⟩ := Kd.R_slice HO143.out; subst eo86) | ((with_reducible refine gate_builtin (b := .append) (xs := #[.tmp 118, .tmp 120]) rfl ?_); (try (refine gate_guard (by rfl) ?_; dsimp only)); at_builtin; refine Kd.R_append_rows k47 (w0 := w) w.heap.size rfl (.tmp 118) (.tmp 120) 22 47 (.agg #[(.int .i64 0), (.int .i64 0)]) 16 rfl Try.underlying22 info47 rfl (by decide) (by omega) (.slice Ao77 x136001_3.length co77) x136001_3 y141 _ _ _ (fun k_ => some k_ ≠ (.slice (some ad136) x124001_1.length co41 : Value).ownBlock ∧ some k_ ≠ (.slice (some ad136) x124001_1.length co41 : Value).ownBlock ∧ some k_ ≠ (.slice Ao86 y141.length co86 : Value).ownBlock ∧ k_ ≠ gb137) (fun _ => False) rfl rfl ?aO ?aR (fun _ _ h => h) (fun _ h => h.elim) ?aF ?aB ?aS ?aL ?_; (case aR => repeat (first | exact (Kd.R_reads' HO143.out).2.2 | (with_reducible refine Kd.C_alloc ?_ _) | (with_reducible refine Kd.C_drewN ?_ _) | (with_reducible refine Kd.C_drew ?_))); (case aB => exact (by repeat (first | (with_reducible first | exact HB.out | apply below_alloc | apply pw_below_drewN | apply below_drew1 | refine below_set ?_ GE117.out | refine below_set ?_ GE118.out | refine below_set ?_ GE123.out | refine below_set ?_ GE135.out | refine below_set ?_ GE137.out) | exact HB.out))); (case aF => exact (fun k_ hk => ⟨Kd.fresh' (Kd.R_lt (zqC HO_93.out)) k_ hk, Kd.fresh' (Kd.R_lt (zqC HO_124001.out)) k_ hk, Kd.fresh' (Kd.R_lt (zqC HO143.out)) k_ hk, Kd.freshB (g := gb137) (o := .cells #[.int .i64 ((rd_T47 x124001_1 x95_3).f0), .int .i64 ((rd_T47 x124001_1 x95_3).f1)] 47 (0, 0)) (zqB BK137.out) k_ hk⟩)); (case aO => exact (by (with_reducible repeat (first | apply Kd.R_alloc | apply Kd.R_drewN | apply Kd.R_drew)); exact Kd.R_mono HO_136001.out (fun _ hk => ⟨hk.1.1.1, ⟨hk.1.1.2, ⟨hk.2, hk.1.2⟩⟩⟩))); (case aS => exact (below_size (by repeat (first | (with_reducible first | exact HB.out | apply below_alloc | apply pw_below_drewN | apply below_drew1 | refine below_set ?_ GE117.out | refine below_set ?_ GE118.out | refine below_set ?_ GE123.out | refine below_set ?_ GE135.out | refine below_set ?_ GE137.out) | exact HB.out)))); (case aL => have := LMc65.out; omega); intro v145 w85 ho hb hg hat; rw [← Ny144.out] at ho; have n0_ := zA (Kd.R_over' (zqC HO_8.out) (Kd.R_typed (zqC HO_136001.out)) (by decide) hg); have n1_ := zA (Kd.R_over' (zqC HO_12.out) (Kd.R_typed (zqC HO_136001.out)) (by decide) hg); have n2_ := zA (Kd.R_after (ok := (fun k_ => some k_ ≠ (.slice Ao86 y141.length co86 : Value).ownBlock ∧ k_ ≠ gb137)) (by (with_reducible repeat (first | apply Kd.R_alloc | apply Kd.R_drewN | apply Kd.R_drew)); exact Kd.R_mono HO_93.out (fun _ hk => ⟨⟨hk.2, hk.1.2⟩, hk.1.1⟩)) hg hat); have n3_ := zA (Kd.R_after (ok := (fun k_ => some k_ ≠ (.slice Ao86 y141.length co86 : Value).ownBlock ∧ k_ ≠ gb137)) (by (with_reducible repeat (first | apply Kd.R_alloc | apply Kd.R_drewN | apply Kd.R_drew)); exact Kd.R_mono HO_124001.out (fun _ hk => ⟨⟨hk.2, hk.1.2⟩, hk.1.1⟩)) hg hat); have n4_ := zA (blk_grown (g := gb117) (o := .cells #[.int .u8 a0_0, .slice A0_1 l0_1.length c0_1] 74 (0, 0)) (zqB BK117.out) hg (Kd.R_ne HO_136001.out BK117.out (by decide))); have n5_ := zA (blk_grown (g := gb118) (o := .cells #[.int .u8 a1_0, .int .u8 a1_1] 82 (0, 0)) (zqB BK118.out) hg (Kd.R_ne HO_136001.out BK118.out (by decide))); have n6_ := zA (blk_grown (g := gb123) (o := .cells #[.int .i64 t119, .slice (some ad136) x124001_1.length co41] 24 (0, 0)) (zqB BK123.out) hg (Kd.R_ne HO_136001.out BK123.out (by decide))); have n7_ := zA (blk_grown (g := gb135) (o := .cells #[.int .i64 t119, .slice Ao77 x136001_3.length co77] 24 (0, 0)) (zqB BK135.out) hg (Kd.R_ne HO_136001.out BK135.out (by decide))); have n8_ := zA (blk_grown (g := gb137) (o := .cells #[.int .i64 ((rd_T47 x124001_1 x95_3).f0), .int .i64 ((rd_T47 x124001_1 x95_3).f1)] 47 (0, 0)) (zqB BK137.out) hg (Kd.R_away HO_136001.out (fun _ hk => hk.1.2))); have n9_ := zA (Kd.R_after (ok := (fun k_ => some k_ ≠ (.slice (some ad136) x124001_1.length co41 : Value).ownBlock ∧ some k_ ≠ (.slice (some ad136) x124001_1.length co41 : Value).ownBlock ∧ k_ ≠ gb137)) (by (with_reducible repeat (first | apply Kd.R_alloc | apply Kd.R_drewN | apply Kd.R_drew)); exact Kd.R_mono HO143.out (fun _ hk => ⟨⟨hk.1.1.1.2, ⟨hk.1.1.2, hk.2⟩⟩, hk.1.2⟩)) hg hat); have n10_ := zA (hb); have n11_ := zA (ho); clear HO_8; clear HO_12; clear HO_93; clear HO_124001; clear BK117; clear BK118; clear BK123; clear BK135; clear BK137; clear HO143; clear HB; clear HO_136001; have HO_8 := n0_; have HO_12 := n1_; have HO_93 := n2_; have HO_124001 := n3_; have BK117 := n4_; have BK118 := n5_; have BK123 := n6_; have BK135 := n7_; have BK137 := n8_; have HO143 := n9_; have HB := n10_; have HO146 := n11_; clear n0_ n1_ n2_ n3_ n4_ n5_ n6_ n7_ n8_ n9_ n10_ n11_; clear ho hb hg hat) | ((with_reducible refine gate_dst (N := 124) rfl ?_); (try (refine gate_guard (by rfl) ?_; dsimp only)); refine Kd.R_lit (Kd.int .i64) _ 3 ?hg (N := 124) ?hd (xs := ([t138] : List Int)) (inner := [.int .i64 t138]) (ok := fun _ => True) (okp := fun _ => True) ?hr ?hp (fun _ hk => hk) trivial (Below.refl _ _) (Nat.le_refl _) (by simp) ?_; (case hd => rfl); (case hg => rfl); (case hr => first | (go_simp; done) | (go_simp; rfl)); (case hp => exact (Reps.one (show Kd.M (Kd.int .i64) _ _ _ t138 [.int .i64 t138] from rfl) (Reps.none _ _))); intro v148 w87 ho88 hb hg_ hnew_; clear hg_ hnew_; (first | rw [← Ny147.out] at ho88 | (simp only [Int.reduceToNat] at ho88; rw [← Ny147.out] at ho88)); have n0_ := zA (Kd.R_elder' (zqC HO_8.out) (Kd.R_base ho88) hb); have n1_ := zA (Kd.R_elder' (zqC HO_12.out) (Kd.R_base ho88) hb); have n2_ := zA (Kd.R_below (zqC HO_93.out) hb); have n3_ := zA (Kd.R_below (zqC HO_124001.out) hb); have n4_ := zA (Kd.R_below (zqC HO143.out) hb); have n5_ := zA (Kd.R_below (zqC HO146.out) hb); have n6_ := zA (Kd.R_lower (Kd.R_new' (Kd.R_new' ho88 (Kd.R_lt (zqC HO_8.out))) (Kd.R_lt (zqC HO_12.out))) (below_size (by repeat (first | (with_reducible first | exact HB.out | apply below_alloc | apply pw_below_drewN | apply below_drew1 | refine below_set ?_ GE117.out | refine below_set ?_ GE118.out | refine below_set ?_ GE123.out | refine below_set ?_ GE135.out | refine below_set ?_ GE137.out) | exact HB.out)))); have n7_ := zA (blk_below (g := gb117) (o := .cells #[.int .u8 a0_0, .slice A0_1 l0_1.length c0_1] 74 (0, 0)) (zqB BK117.out) hb); have n8_ := zA (blk_below (g := gb118) (o := .cells #[.int .u8 a1_0, .int .u8 a1_1] 82 (0, 0)) (zqB BK118.out) hb); have n9_ := zA (blk_below (g := gb123) (o := .cells #[.int .i64 t119, .slice (some ad136) x124001_1.length co41] 24 (0, 0)) (zqB BK123.out) hb); have n10_ := zA (blk_below (g := gb135) (o := .cells #[.int .i64 t119, .slice Ao77 x136001_3.length co77] 24 (0, 0)) (zqB BK135.out) hb); have n11_ := zA (blk_below (g := gb137) (o := .cells #[.int .i64 ((rd_T47 x124001_1 x95_3).f0), .int .i64 ((rd_T47 x124001_1 x95_3).f1)] 47 (0, 0)) (zqB BK137.out) hb); have n12_ := zA (below_step (by repeat (first | (with_reducible first | exact HB.out | apply below_alloc | apply pw_below_drewN | apply below_drew1 | refine below_set ?_ GE117.out | refine below_set ?_ GE118.out | refine below_set ?_ GE123.out | refine below_set ?_ GE135.out | refine below_set ?_ GE137.out) | exact HB.out)) hb); clear HO_8; clear HO_12; clear HO_93; clear HO_124001; clear HO143; clear HO146; clear BK117; clear BK118; clear BK123; clear BK135; clear BK137; clear HB; have HO_8 := n0_; have HO_12 := n1_; have HO_93 := n2_; have HO_124001 := n3_; have HO143 := n4_; have HO146 := n5_; have HO149 := n6_; have BK117 := n7_; have BK118 := n8_; have BK123 := n9_; have BK135 := n10_; have BK137 := n11_; have HB := n12_; clear n0_ n1_ n2_ n3_ n4_ n5_ n6_ n7_ n8_ n9_ n10_ n11_ n12_; clear hb ho88; obtain ⟨Ao90, co90, eo90⟩ := Kd.R_slice HO149.out; subst eo90) | ((with_reducible refine gate_builtin (b := .append) (xs := #[.tmp 122, .tmp 124]) rfl ?_); (try (refine gate_guard (by rfl) ?_; dsimp only)); at_builtin; refine Kd.R_append_rows (Kd.int .i64) (w0 := w) w.heap.size rfl (.tmp 122) (.tmp 124) 26 3 (.int .i64 0) 8 rfl Try.underlying26 info3 rfl (by decide) (by omega) (.slice Ao78 x12_3.length co78) x12_3 y147 _ _ _ (fun k_ => some k_ ≠ (.slice (some ad140) t130.length co80 : Value).ownBlock ∧ some k_ ≠ (.slice Ao90 y147.length co90 : Value).ownBlock) (fun _ => False) rfl rfl ?aO ?aR (fun _ _ h => h) (fun _ h => h.elim) ?aF ?aB ?aS ?aL ?_; (case aR => repeat (first | exact (Kd.R_reads' HO149.out).2.2 | (with_reducible refine Kd.C_alloc ?_ _) | (with_reducible refine Kd.C_drewN ?_ _) | (with_reducible refine Kd.C_drew ?_))); (case aB => exact (by repeat (first | (with_reducible first | exact HB.out | apply below_alloc | apply pw_below_drewN | apply below_drew1 | refine below_set ?_ GE117.out | refine below_set ?_ GE118.out | refine below_set ?_ GE123.out | refine below_set ?_ GE135.out | refine below_set ?_ GE137.out) | exact HB.out))); (case aF => exact (fun k_ hk => ⟨Kd.fresh' (Kd.R_lt (zqC HO_8.out)) k_ hk, Kd.fresh' (Kd.R_lt (zqC HO149.out)) k_ hk⟩)); (case aO => exact (zqC HO_12.out)); (case aS => exact (below_size (by repeat (first | (with_reducible first | exact HB.out | apply below_alloc | apply pw_below_drewN | apply below_drew1 | refine below_set ?_ GE117.out | refine below_set ?_ GE118.out | refine below_set ?_ GE123.out | refine below_set ?_ GE135.out | refine below_set ?_ GE137.out) | exact HB.out)))); (case aL => have := LMc66.out; omega); intro v151 w89 ho hb hg hat; rw [← Ny150.out] at ho; have n0_ := zA (Kd.R_after (ok := (fun k_ => some k_ ≠ (.slice Ao90 y147.length co90 : Value).ownBlock)) (by (with_reducible repeat (first | apply Kd.R_alloc | apply Kd.R_drewN | apply Kd.R_drew)); exact Kd.R_mono HO_8.out (fun _ hk => ⟨hk.2, hk.1⟩)) hg hat); have n1_ := zA (Kd.R_over' (zqC HO_93.out) (Kd.R_typed (zqC HO_12.out)) (by decide) hg); have n2_ := zA (Kd.R_over' (zqC HO_124001.out) (Kd.R_typed (zqC HO_12.out)) (by decide) hg); have n3_ := zA (blk_grown (g := gb117) (o := .cells #[.int .u8 a0_0, .slice A0_1 l0_1.length c0_1] 74 (0, 0)) (zqB BK117.out) hg (Kd.R_ne HO_12.out BK117.out (by decide))); have n4_ := zA (blk_grown (g := gb118) (o := .cells #[.int .u8 a1_0, .int .u8 a1_1] 82 (0, 0)) (zqB BK118.out) hg (Kd.R_ne HO_12.out BK118.out (by decide))); have n5_ := zA (blk_grown (g := gb123) (o := .cells #[.int .i64 t119, .slice (some ad136) x124001_1.length co41] 24 (0, 0)) (zqB BK123.out) hg (Kd.R_ne HO_12.out BK123.out (by decide))); have n6_ := zA (blk_grown (g := gb135) (o := .cells #[.int .i64 t119, .slice Ao77 x136001_3.length co77] 24 (0, 0)) (zqB BK135.out) hg (Kd.R_ne HO_12.out BK135.out (by decide))); have n7_ := zA (blk_grown (g := gb137) (o := .cells #[.int .i64 ((rd_T47 x124001_1 x95_3).f0), .int .i64 ((rd_T47 x124001_1 x95_3).f1)] 47 (0, 0)) (zqB BK137.out) hg (Kd.R_ne HO_12.out BK137.out (by decide))); have n8_ := zA (Kd.R_over' (zqC HO143.out) (Kd.R_typed (zqC HO_12.out)) (by decide) hg); have n9_ := zA (Kd.R_over' (zqC HO146.out) (Kd.R_typed (zqC HO_12.out)) (by decide) hg); have n10_ := zA (Kd.R_after (ok := (fun k_ => some k_ ≠ (.slice (some ad140) t130.length co80 : Value).ownBlock)) (by (with_reducible repeat (first | apply Kd.R_alloc | apply Kd.R_drewN | apply Kd.R_drew)); exact Kd.R_mono HO149.out (fun _ hk => ⟨hk.1.2, hk.2⟩)) hg hat); have n11_ := zA (hb); have n12_ := zA (ho); clear HO_8; clear HO_93; clear HO_124001; clear BK117; clear BK118; clear BK123; clear BK135; clear BK137; clear HO143; clear HO146; clear HO149; clear HB; clear HO_12; have HO_8 := n0_; have HO_93 := n1_; have HO_124001 := n2_; have BK117 := n3_; have BK118 := n4_; have BK123 := n5_; have BK135 := n6_; have BK137 := n7_; have HO143 := n8_; have HO146 := n9_; have HO149 := n10_; have HB := n11_; have HO152 := n12_; clear n0_ n1_ n2_ n3_ n4_ n5_ n6_ n7_ n8_ n9_ n10_ n11_ n12_; clear ho hb hg hat; obtain ⟨Ao91, co91, eo91⟩ := Kd.R_slice HO146.out; subst eo91; have hcz92_0 : w89.cell? ⟨gb135, 0, none⟩ = some (.int .i64 t119) := (blk_cell BK135.out 0).trans rfl; have hcz92_1 : w89.cell? ⟨gb135, 1, none⟩ = some (.slice Ao77 x136001_3.length co77) := (blk_cell BK135.out 1).trans rfl; have hfz92_0 := blk_frozen BK135.out 0; have hfz92_1 := blk_frozen BK135.out 1))
                 go_roundg k3
                 case measure => have := HK1.out; have := HJ36.out; have := HK3.out; omega
                 case rel => exact ⟨(y150), (wrap64 (x95_3 + 1)), (y144), (.slice Ao91 y144.length co91), zqQ, H', ⟨by have := HK1.out; have := HJ36.out; have := HK3.out; omega⟩, ⟨by (with_reducible repeat (first | apply Kd.R_alloc | apply Kd.R_drewN | apply Kd.R_drew)); exact Kd.R_mono (Kd.R_far (p := ⟨gb135, 1, none⟩) (Kd.R_types HO_8.out BK135.out (by decide)) (fun _ hk => hk.2) (.slice Ao91 y144.length co91)) (fun _ hk => hk.1.2)⟩, ⟨by (with_reducible repeat (first | apply Kd.R_alloc | apply Kd.R_drewN | apply Kd.R_drew)); exact Kd.R_mono (Kd.R_far (p := ⟨gb135, 1, none⟩) (Kd.R_types HO152.out BK135.out (by decide)) (fun _ hk => hk.2) (.slice Ao91 y144.length co91)) (fun _ hk => hk.1.1)⟩, ⟨by (with_reducible repeat (first | apply Kd.R_alloc | apply Kd.R_drewN | apply Kd.R_drew)); exact Kd.R_mono (Kd.R_far (p := ⟨gb135, 1, none⟩) (Kd.R_types HO_93.out BK135.out (by decide)) (fun _ hk => hk.2) (.slice Ao91 y144.length co91)) (fun _ hk => hk.1.2)⟩, ⟨by (with_reducible repeat (first | apply Kd.R_alloc | apply Kd.R_drewN | apply Kd.R_drew)); exact Kd.R_mono (Kd.R_far (p := ⟨gb135, 1, none⟩) (Kd.R_types HO_124001.out BK135.out (by decide)) (fun _ hk => hk.2) (.slice Ao91 y144.length co91)) (fun _ hk => hk.1.2)⟩, ⟨by (with_reducible repeat (first | apply Kd.R_alloc | apply Kd.R_drewN | apply Kd.R_drew)); exact Kd.R_mono (Kd.R_far (p := ⟨gb135, 1, none⟩) (Kd.R_types HO146.out BK135.out (by decide)) (fun _ hk => hk.2) (.slice Ao91 y144.length co91)) (fun _ hk => ⟨hk.1.1, hk.1.2.1⟩)⟩, ⟨by (with_reducible repeat (first | refine blk_drewN ?_ _ | refine blk_drew ?_ | refine blk_alloc ?_ _)); refine blk_far ?_ NB117_135.out _; (with_reducible repeat (first | refine blk_drewN ?_ _ | refine blk_drew ?_ | refine blk_alloc ?_ _)); exact BK117.out⟩, ⟨by (with_reducible repeat (first | refine blk_drewN ?_ _ | refine blk_drew ?_ | refine blk_alloc ?_ _)); refine blk_far ?_ NB118_135.out _; (with_reducible repeat (first | refine blk_drewN ?_ _ | refine blk_drew ?_ | refine blk_alloc ?_ _)); exact BK118.out⟩, ⟨by (with_reducible repeat (first | refine blk_drewN ?_ _ | refine blk_drew ?_ | refine blk_alloc ?_ _)); refine blk_far ?_ NB123_135.out _; (with_reducible repeat (first | refine blk_drewN ?_ _ | refine blk_drew ?_ | refine blk_alloc ?_ _)); exact BK123.out⟩, ⟨by (with_reducible repeat (first | refine blk_drewN ?_ _ | refine blk_drew ?_ | refine blk_alloc ?_ _)); refine blk_put (cs := #[.int .i64 t119, .slice Ao77 x136001_3.length co77]) ?_ 1 _ rfl; (with_reducible repeat (first | refine blk_drewN ?_ _ | refine blk_drew ?_ | refine blk_alloc ?_ _)); exact BK135.out⟩, ⟨by repeat (first | (with_reducible first | exact HB.out | apply below_alloc | apply pw_below_drewN | apply below_drew1 | refine below_set ?_ GE117.out | refine below_set ?_ GE118.out | refine below_set ?_ GE123.out | refine below_set ?_ GE135.out | refine below_set ?_ GE137.out) | exact HB.out)⟩⟩
                ·
                 rw [if_neg c66] at H
                 exact absurd H (by simp)
               ·
                rw [if_neg c65] at H
                exact absurd H (by simp)
              ·
               rw [if_neg c64] at H
               exact absurd ((Option.some.inj H).trans HRT.out) (by decide)
             ·
              rw [if_neg c63] at H
              exact absurd H (by simp)
            ·
             rw [if_neg c62] at H
             exact absurd ((Option.some.inj H).trans HRT.out) (by decide)
           ·
            rw [if_neg c60] at H
            exact absurd H (by simp)
          ·
           rw [if_neg c59] at H
           exact absurd H (by simp)
         ·
          rw [if_neg c58] at H
          have c58b0 : decide (x95_3 < (x124001_1.length : Int)) = false := decide_eq_false c58
          clear c58
          replace H := Option.bind_eq_some_iff.mp H
          obtain ⟨⟨t154, t155⟩, A1200, H⟩ := H
          replace H : ((some (([(⟨Int.tmod (wrap64 (a1_0)) 40, wrap64 ((wrap64 ((Int.tmod (wrap64 (a1_0)) 40) + 1)) + (Int.tmod (wrap64 (a1_1)) 12))⟩ : S47)] : List (S47)) : List (S47))).bind fun y156 => (if x136001_3.length + y156.length < 8796093022208 then ((some (x136001_3 ++ y156 : List (S47))).bind fun y159 => ((some (([t154] : List Int) : List Int)).bind fun y162 => (if x12_3.length + y162.length < 17592186044416 then ((some (x12_3 ++ y162 : List Int)).bind fun y165 => ((punch_Verify.f t119 y159 y165).bind fun bt168 => (if t155 = 0 then (if bt168.2 = 0 then ((pianolalaw03_good.f k3 t119 y159 y165).bind fun t170 => (if t170 = true then (pianolalaw03_PunchAdded.j4 k3 y165 t154 (decide (t154 < 0)) t119 y159) else (pianolalaw03_PunchAdded.j4 k3 y165 t154 true t119 y159))) else (pianolalaw03_PunchAdded.j4 k3 y165 t154 true t119 y159)) else (pianolalaw03_PunchAdded.j4 k3 y165 t154 true t119 y159)))) else (none)))) else (none))) = some r := H
          have A120 := zA A1200
          clear A1200
          obtain ⟨y156, hy156⟩ : ∃ y_ : List (S47), y_ = (([(⟨Int.tmod (wrap64 (a1_0)) 40, wrap64 ((wrap64 ((Int.tmod (wrap64 (a1_0)) 40) + 1)) + (Int.tmod (wrap64 (a1_1)) 12))⟩ : S47)] : List (S47))) := ⟨_, rfl⟩
          replace H : (if x136001_3.length + y156.length < 8796093022208 then ((some (x136001_3 ++ y156 : List (S47))).bind fun y159 => ((some (([t154] : List Int) : List Int)).bind fun y162 => (if x12_3.length + y162.length < 17592186044416 then ((some (x12_3 ++ y162 : List Int)).bind fun y165 => ((punch_Verify.f t119 y159 y165).bind fun bt168 => (if t155 = 0 then (if bt168.2 = 0 then ((pianolalaw03_good.f k3 t119 y159 y165).bind fun t170 => (if t170 = true then (pianolalaw03_PunchAdded.j4 k3 y165 t154 (decide (t154 < 0)) t119 y159) else (pianolalaw03_PunchAdded.j4 k3 y165 t154 true t119 y159))) else (pianolalaw03_PunchAdded.j4 k3 y165 t154 true t119 y159)) else (pianolalaw03_PunchAdded.j4 k3 y165 t154 true t119 y159)))) else (none)))) else (none)) = some r := zqF hy156 H
          have Ny156 := zA hy156
          clear hy156
          by_cases c121 : x136001_3.length + y156.length < 8796093022208
          ·
           rw [if_pos c121] at H
           have LMc121 := zA c121
           clear c121
           obtain ⟨y159, hy159⟩ : ∃ y_ : List (S47), y_ = (x136001_3 ++ y156) := ⟨_, rfl⟩
           replace H : ((some (([t154] : List Int) : List Int)).bind fun y162 => (if x12_3.length + y162.length < 17592186044416 then ((some (x12_3 ++ y162 : List Int)).bind fun y165 => ((punch_Verify.f t119 y159 y165).bind fun bt168 => (if t155 = 0 then (if bt168.2 = 0 then ((pianolalaw03_good.f k3 t119 y159 y165).bind fun t170 => (if t170 = true then (pianolalaw03_PunchAdded.j4 k3 y165 t154 (decide (t154 < 0)) t119 y159) else (pianolalaw03_PunchAdded.j4 k3 y165 t154 true t119 y159))) else (pianolalaw03_PunchAdded.j4 k3 y165 t154 true t119 y159)) else (pianolalaw03_PunchAdded.j4 k3 y165 t154 true t119 y159)))) else (none))) = some r := zqF hy159 H
           have Ny159 := zA hy159
           clear hy159
           obtain ⟨y162, hy162⟩ : ∃ y_ : List Int, y_ = (([t154] : List Int)) := ⟨_, rfl⟩
           replace H : (if x12_3.length + y162.length < 17592186044416 then ((some (x12_3 ++ y162 : List Int)).bind fun y165 => ((punch_Verify.f t119 y159 y165).bind fun bt168 => (if t155 = 0 then (if bt168.2 = 0 then ((pianolalaw03_good.f k3 t119 y159 y165).bind fun t170 => (if t170 = true then (pianolalaw03_PunchAdded.j4 k3 y165 t154 (decide (t154 < 0)) t119 y159) else (pianolalaw03_PunchAdded.j4 k3 y165 t154 true t119 y159))) else (pianolalaw03_PunchAdded.j4 k3 y165 t154 true t119 y159)) else (pianolalaw03_PunchAdded.j4 k3 y165 t154 true t119 y159)))) else (none)) = some r := zqF hy162 H
           have Ny162 := zA hy162
           clear hy162
           by_cases c122 : x12_3.length + y162.length < 17592186044416
           ·
            rw [if_pos c122] at H
            have LMc122 := zA c122
            clear c122
            obtain ⟨y165, hy165⟩ : ∃ y_ : List Int, y_ = (x12_3 ++ y162) := ⟨_, rfl⟩
            replace H : ((punch_Verify.f t119 y159 y165).bind fun bt168 => (if t155 = 0 then (if bt168.2 = 0 then ((pianolalaw03_good.f k3 t119 y159 y165).bind fun t170 => (if t170 = true then (pianolalaw03_PunchAdded.j4 k3 y165 t154 (decide (t154 < 0)) t119 y159) else (pianolalaw03_PunchAdded.j4 k3 y165 t154 true t119 y159))) else (pianolalaw03_PunchAdded.j4 k3 y165 t154 true t119 y159)) else (pianolalaw03_PunchAdded.j4 k3 y165 t154 true t119 y159))) = some r := zqF hy165 H
            have Ny165 := zA hy165
            clear hy165
            replace H := Option.bind_eq_some_iff.mp H
            obtain ⟨⟨t168, t169⟩, A1230, H⟩ := H
            replace H : (if t155 = 0 then (if t169 = 0 then ((pianolalaw03_good.f k3 t119 y159 y165).bind fun t170 => (if t170 = true then (pianolalaw03_PunchAdded.j4 k3 y165 t154 (decide (t154 < 0)) t119 y159) else (pianolalaw03_PunchAdded.j4 k3 y165 t154 true t119 y159))) else (pianolalaw03_PunchAdded.j4 k3 y165 t154 true t119 y159)) else (pianolalaw03_PunchAdded.j4 k3 y165 t154 true t119 y159)) = some r := H
            have A123 := zA A1230
            clear A1230
            have HC124 := zA H
            clear H
            have hnb125 := NB118_117.out
            have hnc125 := NB117_118.out
            have hnb126 := NB118_123.out
            have hnc126 := NB123_118.out
            have hnb127 := NB118_135.out
            have hnc127 := NB135_118.out
            have hcz128_0 : wr.cell? ⟨gb118, 0, none⟩ = some (.int .u8 a1_0) := (blk_cell BK118.out 0).trans rfl
            have hcz128_1 : wr.cell? ⟨gb118, 1, none⟩ = some (.int .u8 a1_1) := (blk_cell BK118.out 1).trans rfl
            have hfz128_0 := blk_frozen BK118.out 0
            have hfz128_1 := blk_frozen BK118.out 1
            go_upto_region 28 with (first | ((with_reducible refine gate_dst (N := 18) rfl ?_); (try (refine gate_guard (by rfl) ?_; dsimp only)); refine box_event ?hg (N := 18) ?hd (cs := #[.int .i64 0, .int .i64 0]) (t := 47) ?hr ?_; (case hd => rfl); (case hg => rfl); (case hr => first | (go_simp; done) | (go_simp; rfl)); intro gb153 hg w129 hbox hb; have n0_ := zA (Kd.R_below (zqC HO_8.out) hb); have n1_ := zA (Kd.R_below (zqC HO_12.out) hb); have n2_ := zA (Kd.R_below (Kd.R_elderB (zqC HO_93.out) gb153 (Nat.le_of_eq hg.symm)) hb); have n3_ := zA (Kd.R_below (Kd.R_elderB (zqC HO_124001.out) gb153 (Nat.le_of_eq hg.symm)) hb); have n4_ := zA (Kd.R_below (Kd.R_elderB (zqC HO_136001.out) gb153 (Nat.le_of_eq hg.symm)) hb); have n5_ := zA (blk_below (g := gb117) (o := .cells #[.int .u8 a0_0, .slice A0_1 l0_1.length c0_1] 74 (0, 0)) (zqB BK117.out) hb); have n6_ := zA (blk_below (g := gb118) (o := .cells #[.int .u8 a1_0, .int .u8 a1_1] 82 (0, 0)) (zqB BK118.out) hb); have n7_ := zA (blk_below (g := gb123) (o := .cells #[.int .i64 t119, .slice Ao41 x124001_1.length co41] 24 (0, 0)) (zqB BK123.out) hb); have n8_ := zA (blk_below (g := gb135) (o := .cells #[.int .i64 t119, u136001] 24 (0, 0)) (zqB BK135.out) hb); have n9_ := zA (below_step (zqJ HB.out GE117.out GE118.out GE123.out GE135.out) hb); have n10_ := zA (hbox); have n11_ := zA ((by rw [hg]; exact (below_size (zqJ HB.out GE117.out GE118.out GE123.out GE135.out)) : w.heap.size ≤ gb153)); have n12_ := zA ((by rw [hg]; exact (below_size (zqJ HB.out GE117.out GE118.out GE123.out GE135.out)) : w.heap.size ≤ gb153)); have n13_ := zA ((by rw [hg]; exact Nat.ne_of_lt (blk_lt (g := gb117) (o := .cells #[.int .u8 a0_0, .slice A0_1 l0_1.length c0_1] 74 (0, 0)) (zqB BK117.out)) : gb117 ≠ gb153)); have n14_ := zA ((by rw [hg]; exact Nat.ne_of_gt (blk_lt (g := gb117) (o := .cells #[.int .u8 a0_0, .slice A0_1 l0_1.length c0_1] 74 (0, 0)) (zqB BK117.out)) : gb153 ≠ gb117)); have n15_ := zA ((by rw [hg]; exact Nat.ne_of_lt (blk_lt (g := gb118) (o := .cells #[.int .u8 a1_0, .int .u8 a1_1] 82 (0, 0)) (zqB BK118.out)) : gb118 ≠ gb153)); have n16_ := zA ((by rw [hg]; exact Nat.ne_of_gt (blk_lt (g := gb118) (o := .cells #[.int .u8 a1_0, .int .u8 a1_1] 82 (0, 0)) (zqB BK118.out)) : gb153 ≠ gb118)); have n17_ := zA ((by rw [hg]; exact Nat.ne_of_lt (blk_lt (g := gb123) (o := .cells #[.int .i64 t119, .slice Ao41 x124001_1.length co41] 24 (0, 0)) (zqB BK123.out)) : gb123 ≠ gb153)); have n18_ := zA ((by rw [hg]; exact Nat.ne_of_gt (blk_lt (g := gb123) (o := .cells #[.int .i64 t119, .slice Ao41 x124001_1.length co41] 24 (0, 0)) (zqB BK123.out)) : gb153 ≠ gb123)); have n19_ := zA ((by rw [hg]; exact Nat.ne_of_lt (blk_lt (g := gb135) (o := .cells #[.int .i64 t119, u136001] 24 (0, 0)) (zqB BK135.out)) : gb135 ≠ gb153)); have n20_ := zA ((by rw [hg]; exact Nat.ne_of_gt (blk_lt (g := gb135) (o := .cells #[.int .i64 t119, u136001] 24 (0, 0)) (zqB BK135.out)) : gb153 ≠ gb135)); clear HO_8; clear HO_12; clear HO_93; clear HO_124001; clear HO_136001; clear BK117; clear BK118; clear BK123; clear BK135; clear HB; have HO_8 := n0_; have HO_12 := n1_; have HO_93 := n2_; have HO_124001 := n3_; have HO_136001 := n4_; have BK117 := n5_; have BK118 := n6_; have BK123 := n7_; have BK135 := n8_; have HB := n9_; have BK153 := n10_; have GW153 := n11_; have GE153 := n12_; have NB117_153 := n13_; have NB153_117 := n14_; have NB118_153 := n15_; have NB153_118 := n16_; have NB123_153 := n17_; have NB153_123 := n18_; have NB135_153 := n19_; have NB153_135 := n20_; clear n0_ n1_ n2_ n3_ n4_ n5_ n6_ n7_ n8_ n9_ n10_ n11_ n12_ n13_ n14_ n15_ n16_ n17_ n18_ n19_ n20_; clear hb hbox hg; have hnb130 := NB153_117.out; have hnc130 := NB117_153.out; have hnb131 := NB153_118.out; have hnc131 := NB118_153.out; have hnb132 := NB153_123.out; have hnc132 := NB123_153.out; have hnb133 := NB153_135.out; have hnc133 := NB135_153.out; have hcz134_0 : w129.cell? ⟨gb153, 0, none⟩ = some (.int .i64 0) := (blk_cell BK153.out 0).trans rfl; have hcz134_1 : w129.cell? ⟨gb153, 1, none⟩ = some (.int .i64 0) := (blk_cell BK153.out 1).trans rfl; have hfz134_0 := blk_frozen BK153.out 0; have hfz134_1 := blk_frozen BK153.out 1; have hnb135 := NB135_117.out; have hnc135 := NB117_135.out; have hnb136 := NB135_123.out; have hnc136 := NB123_135.out; have hcz137_0 : w129.cell? ⟨gb135, 0, none⟩ = some (.int .i64 t119) := (blk_cell BK135.out 0).trans rfl; have hcz137_1 : w129.cell? ⟨gb135, 1, none⟩ = some (u136001) := (blk_cell BK135.out 1).trans rfl; have hfz137_0 := blk_frozen BK135.out 0; have hfz137_1 := blk_frozen BK135.out 1; obtain ⟨Ao138, co138, eo138⟩ := Kd.R_slice HO_136001.out; subst eo138; obtain ⟨Ao139, co139, eo139⟩ := Kd.R_slice HO_12.out; subst eo139) | ((with_reducible refine gate_callee (f := 28) rfl ?_); refine goesL_ (some 145) rfl rfl Try.func28 (by kernel_rfl) rfl #[.agg #[.int .i64 t119, .slice Ao138 x136001_3.length co138], .slice Ao139 x12_3.length co139, .agg #[.int .i64 (Int.tmod (wrap64 (a1_0)) 40), .int .i64 (wrap64 ((wrap64 ((Int.tmod (wrap64 (a1_0)) 40) + 1)) + (Int.tmod (wrap64 (a1_1)) 12)))]] rfl zqE ?_; (with_reducible refine (punch_Add.calls t119 _ _ x136001_3 _ _ x12_3 (Int.tmod (wrap64 (a1_0)) 40) (wrap64 ((wrap64 ((Int.tmod (wrap64 (a1_0)) 40) + 1)) + (Int.tmod (wrap64 (a1_1)) 12))) t154 t155 _ ?side1 ?side2 ?side3 ?side4 A120.out).mono ?_); (case side1 => refine (Kd.R_reads' (e := 47) (base := w.heap.size) (ok := fun k_ => ((some k_ ≠ (.slice Ao41 x124001_1.length co41 : Value).ownBlock ∧ some k_ ≠ (.slice Ao41 x124001_1.length co41 : Value).ownBlock) ∧ k_ ≠ gb153)) (n := x136001_3.length) (c := co138) ?_).2.2; exact (by (with_reducible repeat (first | apply Kd.R_alloc | apply Kd.R_drewN | apply Kd.R_drew)); exact (Kd.R_mono (Kd.R_far (p := ⟨gb153, 1, none⟩) (Kd.R_far (p := ⟨gb153, 0, none⟩) (Kd.R_mono HO_136001.out (fun k_ hk => (⟨hk, hk.2⟩ : _ ∧ k_ ≠ gb153))) (fun _ hk => hk.2) (.int .i64 (Int.tmod (wrap64 (a1_0)) 40))) (fun _ hk => hk.2) (.int .i64 (wrap64 ((wrap64 ((Int.tmod (wrap64 (a1_0)) 40) + 1)) + (Int.tmod (wrap64 (a1_1)) 12))))) (fun _ h_ => h_.1)))); (case side2 => exact (Kd.R_reads' HO_136001.out).2.1); (case side3 => refine (Kd.R_reads' (e := 3) (base := w.heap.size) (ok := fun k_ => some k_ ≠ (v131 : Value).ownBlock) (n := x12_3.length) (c := co139) ?_).2.2; exact (by (with_reducible repeat (first | apply Kd.R_alloc | apply Kd.R_drewN | apply Kd.R_drew)); exact (Kd.R_mono (Kd.R_far (p := ⟨gb153, 1, none⟩) (Kd.R_far (p := ⟨gb153, 0, none⟩) (Kd.R_types HO_12.out BK153.out (by decide)) (fun _ hk => hk.2) (.int .i64 (Int.tmod (wrap64 (a1_0)) 40))) (fun _ hk => hk.2) (.int .i64 (wrap64 ((wrap64 ((Int.tmod (wrap64 (a1_0)) 40) + 1)) + (Int.tmod (wrap64 (a1_1)) 12))))) (fun _ h_ => h_.1)))); (case side4 => exact (Kd.R_reads' HO_12.out).2.1); rintro e w140 ⟨rfl, hb⟩; refine ⟨_, rfl, ?_⟩; have n0_ := zA (Kd.R_below (by (with_reducible repeat (first | apply Kd.R_alloc | apply Kd.R_drewN | apply Kd.R_drew)); exact (Kd.R_mono (Kd.R_far (p := ⟨gb153, 1, none⟩) (Kd.R_far (p := ⟨gb153, 0, none⟩) (Kd.R_types HO_8.out BK153.out (by decide)) (fun _ hk => hk.2) (.int .i64 (Int.tmod (wrap64 (a1_0)) 40))) (fun _ hk => hk.2) (.int .i64 (wrap64 ((wrap64 ((Int.tmod (wrap64 (a1_0)) 40) + 1)) + (Int.tmod (wrap64 (a1_1)) 12))))) (fun _ h_ => h_.1))) hb); have n1_ := zA (Kd.R_below (by (with_reducible repeat (first | apply Kd.R_alloc | apply Kd.R_drewN | apply Kd.R_drew)); exact (Kd.R_mono (Kd.R_far (p := ⟨gb153, 1, none⟩) (Kd.R_far (p := ⟨gb153, 0, none⟩) (Kd.R_types HO_12.out BK153.out (by decide)) (fun _ hk => hk.2) (.int .i64 (Int.tmod (wrap64 (a1_0)) 40))) (fun _ hk => hk.2) (.int .i64 (wrap64 ((wrap64 ((Int.tmod (wrap64 (a1_0)) 40) + 1)) + (Int.tmod (wrap64 (a1_1)) 12))))) (fun _ h_ => h_.1))) hb); have n2_ := zA (Kd.R_below (by (with_reducible repeat (first | apply Kd.R_alloc | apply Kd.R_drewN | apply Kd.R_drew)); exact (Kd.R_mono (Kd.R_far (p := ⟨gb153, 1, none⟩) (Kd.R_far (p := ⟨gb153, 0, none⟩) (Kd.R_mono HO_93.out (fun k_ hk => (⟨hk, hk.2⟩ : _ ∧ k_ ≠ gb153))) (fun _ hk => hk.2) (.int .i64 (Int.tmod (wrap64 (a1_0)) 40))) (fun _ hk => hk.2) (.int .i64 (wrap64 ((wrap64 ((Int.tmod (wrap64 (a1_0)) 40) + 1)) + (Int.tmod (wrap64 (a1_1)) 12))))) (fun _ h_ => h_.1))) hb); have n3_ := zA (Kd.R_below (by (with_reducible repeat (first | apply Kd.R_alloc | apply Kd.R_drewN | apply Kd.R_drew)); exact (Kd.R_mono (Kd.R_far (p := ⟨gb153, 1, none⟩) (Kd.R_far (p := ⟨gb153, 0, none⟩) (Kd.R_mono HO_124001.out (fun k_ hk => (⟨hk, hk.2⟩ : _ ∧ k_ ≠ gb153))) (fun _ hk => hk.2) (.int .i64 (Int.tmod (wrap64 (a1_0)) 40))) (fun _ hk => hk.2) (.int .i64 (wrap64 ((wrap64 ((Int.tmod (wrap64 (a1_0)) 40) + 1)) + (Int.tmod (wrap64 (a1_1)) 12))))) (fun _ h_ => h_.1))) hb); have n4_ := zA (Kd.R_below (by (with_reducible repeat (first | apply Kd.R_alloc | apply Kd.R_drewN | apply Kd.R_drew)); exact (Kd.R_mono (Kd.R_far (p := ⟨gb153, 1, none⟩) (Kd.R_far (p := ⟨gb153, 0, none⟩) (Kd.R_mono HO_136001.out (fun k_ hk => (⟨hk, hk.2⟩ : _ ∧ k_ ≠ gb153))) (fun _ hk => hk.2) (.int .i64 (Int.tmod (wrap64 (a1_0)) 40))) (fun _ hk => hk.2) (.int .i64 (wrap64 ((wrap64 ((Int.tmod (wrap64 (a1_0)) 40) + 1)) + (Int.tmod (wrap64 (a1_1)) 12))))) (fun _ h_ => h_.1))) hb); have n5_ := zA (blk_below (g := gb117) (o := .cells #[.int .u8 a0_0, .slice A0_1 l0_1.length c0_1] 74 (0, 0)) (by (with_reducible repeat (first | refine blk_drewN ?_ _ | refine blk_drew ?_ | refine blk_alloc ?_ _)); refine blk_far ?_ NB117_153.out _; (with_reducible repeat (first | refine blk_drewN ?_ _ | refine blk_drew ?_ | refine blk_alloc ?_ _)); refine blk_far ?_ NB117_153.out _; (with_reducible repeat (first | refine blk_drewN ?_ _ | refine blk_drew ?_ | refine blk_alloc ?_ _)); exact BK117.out) hb); have n6_ := zA (blk_below (g := gb118) (o := .cells #[.int .u8 a1_0, .int .u8 a1_1] 82 (0, 0)) (by (with_reducible repeat (first | refine blk_drewN ?_ _ | refine blk_drew ?_ | refine blk_alloc ?_ _)); refine blk_far ?_ NB118_153.out _; (with_reducible repeat (first | refine blk_drewN ?_ _ | refine blk_drew ?_ | refine blk_alloc ?_ _)); refine blk_far ?_ NB118_153.out _; (with_reducible repeat (first | refine blk_drewN ?_ _ | refine blk_drew ?_ | refine blk_alloc ?_ _)); exact BK118.out) hb); have n7_ := zA (blk_below (g := gb123) (o := .cells #[.int .i64 t119, .slice Ao41 x124001_1.length co41] 24 (0, 0)) (by (with_reducible repeat (first | refine blk_drewN ?_ _ | refine blk_drew ?_ | refine blk_alloc ?_ _)); refine blk_far ?_ NB123_153.out _; (with_reducible repeat (first | refine blk_drewN ?_ _ | refine blk_drew ?_ | refine blk_alloc ?_ _)); refine blk_far ?_ NB123_153.out _; (with_reducible repeat (first | refine blk_drewN ?_ _ | refine blk_drew ?_ | refine blk_alloc ?_ _)); exact BK123.out) hb); have n8_ := zA (blk_below (g := gb135) (o := .cells #[.int .i64 t119, .slice Ao138 x136001_3.length co138] 24 (0, 0)) (by (with_reducible repeat (first | refine blk_drewN ?_ _ | refine blk_drew ?_ | refine blk_alloc ?_ _)); refine blk_far ?_ NB135_153.out _; (with_reducible repeat (first | refine blk_drewN ?_ _ | refine blk_drew ?_ | refine blk_alloc ?_ _)); refine blk_far ?_ NB135_153.out _; (with_reducible repeat (first | refine blk_drewN ?_ _ | refine blk_drew ?_ | refine blk_alloc ?_ _)); exact BK135.out) hb); have n9_ := zA (blk_below (g := gb153) (o := .cells #[.int .i64 (Int.tmod (wrap64 (a1_0)) 40), .int .i64 (wrap64 ((wrap64 ((Int.tmod (wrap64 (a1_0)) 40) + 1)) + (Int.tmod (wrap64 (a1_1)) 12)))] 47 (0, 0)) (by (with_reducible repeat (first | refine blk_drewN ?_ _ | refine blk_drew ?_ | refine blk_alloc ?_ _)); refine blk_put (cs := #[.int .i64 (Int.tmod (wrap64 (a1_0)) 40), .int .i64 0]) ?_ 1 _ rfl; (with_reducible repeat (first | refine blk_drewN ?_ _ | refine blk_drew ?_ | refine blk_alloc ?_ _)); refine blk_put (cs := #[.int .i64 0, .int .i64 0]) ?_ 0 _ rfl; (with_reducible repeat (first | refine blk_drewN ?_ _ | refine blk_drew ?_ | refine blk_alloc ?_ _)); exact BK153.out) hb); have n10_ := zA (below_step (by repeat (first | (with_reducible first | exact HB.out | apply below_alloc | apply pw_below_drewN | apply below_drew1 | refine below_set ?_ GE117.out | refine below_set ?_ GE118.out | refine below_set ?_ GE123.out | refine below_set ?_ GE135.out | refine below_set ?_ GE153.out) | exact HB.out)) hb); clear HO_8; clear HO_12; clear HO_93; clear HO_124001; clear HO_136001; clear BK117; clear BK118; clear BK123; clear BK135; clear BK153; clear HB; have HO_8 := n0_; have HO_12 := n1_; have HO_93 := n2_; have HO_124001 := n3_; have HO_136001 := n4_; have BK117 := n5_; have BK118 := n6_; have BK123 := n7_; have BK135 := n8_; have BK153 := n9_; have HB := n10_; clear n0_ n1_ n2_ n3_ n4_ n5_ n6_ n7_ n8_ n9_ n10_; (try clear hb); (try clear hb2); (try clear hk); (try clear hi); have hcz141_0 : w140.cell? ⟨gb135, 0, none⟩ = some (.int .i64 t119) := (blk_cell BK135.out 0).trans rfl; have hcz141_1 : w140.cell? ⟨gb135, 1, none⟩ = some (.slice Ao138 x136001_3.length co138) := (blk_cell BK135.out 1).trans rfl; have hfz141_0 := blk_frozen BK135.out 0; have hfz141_1 := blk_frozen BK135.out 1; have hcz142_0 : w140.cell? ⟨gb153, 0, none⟩ = some (.int .i64 (Int.tmod (wrap64 (a1_0)) 40)) := (blk_cell BK153.out 0).trans rfl; have hcz142_1 : w140.cell? ⟨gb153, 1, none⟩ = some (.int .i64 (wrap64 ((wrap64 ((Int.tmod (wrap64 (a1_0)) 40) + 1)) + (Int.tmod (wrap64 (a1_1)) 12)))) := (blk_cell BK153.out 1).trans rfl; have hfz142_0 := blk_frozen BK153.out 0; have hfz142_1 := blk_frozen BK153.out 1) | ((with_reducible refine gate_dst (N := 151) rfl ?_); (try (refine gate_guard (by rfl) ?_; dsimp only)); refine Kd.R_lit k47 _ 47 ?hg (N := 151) ?hd (xs := ([(⟨Int.tmod (wrap64 (a1_0)) 40, wrap64 ((wrap64 ((Int.tmod (wrap64 (a1_0)) 40) + 1)) + (Int.tmod (wrap64 (a1_1)) 12))⟩ : S47)] : List (S47))) (inner := [.int .i64 (Int.tmod (wrap64 (a1_0)) 40), .int .i64 (wrap64 ((wrap64 ((Int.tmod (wrap64 (a1_0)) 40) + 1)) + (Int.tmod (wrap64 (a1_1)) 12)))]) (ok := fun _ => True) (okp := fun _ => True) ?hr ?hp (fun _ hk => hk) trivial (Below.refl _ _) (Nat.le_refl _) (by simp) ?_; (case hd => rfl); (case hg => rfl); (case hr => first | (go_simp; done) | (go_simp; rfl)); (case hp => exact (Reps.c2 (show Kd.M k47 _ _ _ (⟨Int.tmod (wrap64 (a1_0)) 40, wrap64 ((wrap64 ((Int.tmod (wrap64 (a1_0)) 40) + 1)) + (Int.tmod (wrap64 (a1_1)) 12))⟩ : S47) [.int .i64 (Int.tmod (wrap64 (a1_0)) 40), .int .i64 (wrap64 ((wrap64 ((Int.tmod (wrap64 (a1_0)) 40) + 1)) + (Int.tmod (wrap64 (a1_1)) 12)))] from (k47_mkM _ _ _ (⟨Int.tmod (wrap64 (a1_0)) 40, wrap64 ((wrap64 ((Int.tmod (wrap64 (a1_0)) 40) + 1)) + (Int.tmod (wrap64 (a1_1)) 12))⟩ : S47) )) (Reps.none _ _))); intro v157 w143 ho144 hb hg_ hnew_; clear hg_ hnew_; (first | rw [← Ny156.out] at ho144 | (simp only [Int.reduceToNat] at ho144; rw [← Ny156.out] at ho144)); have n0_ := zA (Kd.R_below (zqC HO_8.out) hb); have n1_ := zA (Kd.R_below (zqC HO_12.out) hb); have n2_ := zA (Kd.R_elder' (zqC HO_93.out) (Kd.R_base ho144) hb); have n3_ := zA (Kd.R_elder' (zqC HO_124001.out) (Kd.R_base ho144) hb); have n4_ := zA (Kd.R_elder' (zqC HO_136001.out) (Kd.R_base ho144) hb); have n5_ := zA (Kd.R_lower (Kd.R_newB (Kd.R_new' (Kd.R_new' (Kd.R_new' ho144 (Kd.R_lt (zqC HO_93.out))) (Kd.R_lt (zqC HO_124001.out))) (Kd.R_lt (zqC HO_136001.out))) (g := gb153) (o := .cells #[.int .i64 (Int.tmod (wrap64 (a1_0)) 40), .int .i64 (wrap64 ((wrap64 ((Int.tmod (wrap64 (a1_0)) 40) + 1)) + (Int.tmod (wrap64 (a1_1)) 12)))] 47 (0, 0)) (zqB BK153.out)) (below_size (by repeat (first | (with_reducible first | exact HB.out | apply below_alloc | apply pw_below_drewN | apply below_drew1 | refine below_set ?_ GE117.out | refine below_set ?_ GE118.out | refine below_set ?_ GE123.out | refine below_set ?_ GE135.out | refine below_set ?_ GE153.out) | exact HB.out)))); have n6_ := zA (blk_below (g := gb117) (o := .cells #[.int .u8 a0_0, .slice A0_1 l0_1.length c0_1] 74 (0, 0)) (zqB BK117.out) hb); have n7_ := zA (blk_below (g := gb118) (o := .cells #[.int .u8 a1_0, .int .u8 a1_1] 82 (0, 0)) (zqB BK118.out) hb); have n8_ := zA (blk_below (g := gb123) (o := .cells #[.int .i64 t119, .slice Ao41 x124001_1.length co41] 24 (0, 0)) (zqB BK123.out) hb); have n9_ := zA (blk_below (g := gb135) (o := .cells #[.int .i64 t119, .slice Ao138 x136001_3.length co138] 24 (0, 0)) (zqB BK135.out) hb); have n10_ := zA (blk_below (g := gb153) (o := .cells #[.int .i64 (Int.tmod (wrap64 (a1_0)) 40), .int .i64 (wrap64 ((wrap64 ((Int.tmod (wrap64 (a1_0)) 40) + 1)) + (Int.tmod (wrap64 (a1_1)) 12)))] 47 (0, 0)) (zqB BK153.out) hb); have n11_ := zA (below_step (by repeat (first | (with_reducible first | exact HB.out | apply below_alloc | apply pw_below_drewN | apply below_drew1 | refine below_set ?_ GE117.out | refine below_set ?_ GE118.out | refine below_set ?_ GE123.out | refine below_set ?_ GE135.out | refine below_set ?_ GE153.out) | exact HB.out)) hb); clear HO_8; clear HO_12; clear HO_93; clear HO_124001; clear HO_136001; clear BK117; clear BK118; clear BK123; clear BK135; clear BK153; clear HB; have HO_8 := n0_; have HO_12 := n1_; have HO_93 := n2_; have HO_124001 := n3_; have HO_136001 := n4_; have HO158 := n5_; have BK117 := n6_; have BK118 := n7_; have BK123 := n8_; have BK135 := n9_; have BK153 := n10_; have HB := n11_; clear n0_ n1_ n2_ n3_ n4_ n5_ n6_ n7_ n8_ n9_ n10_ n11_; clear hb ho144; obtain ⟨Ao146, co146, eo146⟩ := Kd.R_slice HO158.out; subst eo146) | ((with_reducible refine gate_builtin (b := .append) (xs := #[.tmp 149, .tmp 151]) rfl ?_); (try (refine gate_guard (by rfl) ?_; dsimp only)); at_builtin; refine Kd.R_append_rows k47 (w0 := w) w.heap.size rfl (.tmp 149) (.tmp 151) 22 47 (.agg #[(.int .i64 0), (.int .i64 0)]) 16 rfl Try.underlying22 info47 rfl (by decide) (by omega) (.slice Ao138 x136001_3.length co138) x136001_3 y156 _ _ _ (fun k_ => some k_ ≠ (.slice Ao41 x124001_1.length co41 : Value).ownBlock ∧ some k_ ≠ (.slice Ao41 x124001_1.length co41 : Value).ownBlock ∧ some k_ ≠ (.slice Ao146 y156.length co146 : Value).ownBlock ∧ k_ ≠ gb153) (fun _ => False) rfl rfl ?aO ?aR (fun _ _ h => h) (fun _ h => h.elim) ?aF ?aB ?aS ?aL ?_; (case aR => repeat (first | exact (Kd.R_reads' HO158.out).2.2 | (with_reducible refine Kd.C_alloc ?_ _) | (with_reducible refine Kd.C_drewN ?_ _) | (with_reducible refine Kd.C_drew ?_))); (case aB => exact (by repeat (first | (with_reducible first | exact HB.out | apply below_alloc | apply pw_below_drewN | apply below_drew1 | refine below_set ?_ GE117.out | refine below_set ?_ GE118.out | refine below_set ?_ GE123.out | refine below_set ?_ GE135.out | refine below_set ?_ GE153.out) | exact HB.out))); (case aF => exact (fun k_ hk => ⟨Kd.fresh' (Kd.R_lt (zqC HO_93.out)) k_ hk, Kd.fresh' (Kd.R_lt (zqC HO_124001.out)) k_ hk, Kd.fresh' (Kd.R_lt (zqC HO158.out)) k_ hk, Kd.freshB (g := gb153) (o := .cells #[.int .i64 (Int.tmod (wrap64 (a1_0)) 40), .int .i64 (wrap64 ((wrap64 ((Int.tmod (wrap64 (a1_0)) 40) + 1)) + (Int.tmod (wrap64 (a1_1)) 12)))] 47 (0, 0)) (zqB BK153.out) k_ hk⟩)); (case aO => exact (by (with_reducible repeat (first | apply Kd.R_alloc | apply Kd.R_drewN | apply Kd.R_drew)); exact Kd.R_mono HO_136001.out (fun _ hk => ⟨hk.1.1.1, ⟨hk.1.1.2, ⟨hk.2, hk.1.2⟩⟩⟩))); (case aS => exact (below_size (by repeat (first | (with_reducible first | exact HB.out | apply below_alloc | apply pw_below_drewN | apply below_drew1 | refine below_set ?_ GE117.out | refine below_set ?_ GE118.out | refine below_set ?_ GE123.out | refine below_set ?_ GE135.out | refine below_set ?_ GE153.out) | exact HB.out)))); (case aL => have := LMc121.out; omega); intro v160 w145 ho hb hg hat; rw [← Ny159.out] at ho; have n0_ := zA (Kd.R_over' (zqC HO_8.out) (Kd.R_typed (zqC HO_136001.out)) (by decide) hg); have n1_ := zA (Kd.R_over' (zqC HO_12.out) (Kd.R_typed (zqC HO_136001.out)) (by decide) hg); have n2_ := zA (Kd.R_after (ok := (fun k_ => some k_ ≠ (.slice Ao146 y156.length co146 : Value).ownBlock ∧ k_ ≠ gb153)) (by (with_reducible repeat (first | apply Kd.R_alloc | apply Kd.R_drewN | apply Kd.R_drew)); exact Kd.R_mono HO_93.out (fun _ hk => ⟨⟨hk.2, hk.1.2⟩, hk.1.1⟩)) hg hat); have n3_ := zA (Kd.R_after (ok := (fun k_ => some k_ ≠ (.slice Ao146 y156.length co146 : Value).ownBlock ∧ k_ ≠ gb153)) (by (with_reducible repeat (first | apply Kd.R_alloc | apply Kd.R_drewN | apply Kd.R_drew)); exact Kd.R_mono HO_124001.out (fun _ hk => ⟨⟨hk.2, hk.1.2⟩, hk.1.1⟩)) hg hat); have n4_ := zA (blk_grown (g := gb117) (o := .cells #[.int .u8 a0_0, .slice A0_1 l0_1.length c0_1] 74 (0, 0)) (zqB BK117.out) hg (Kd.R_ne HO_136001.out BK117.out (by decide))); have n5_ := zA (blk_grown (g := gb118) (o := .cells #[.int .u8 a1_0, .int .u8 a1_1] 82 (0, 0)) (zqB BK118.out) hg (Kd.R_ne HO_136001.out BK118.out (by decide))); have n6_ := zA (blk_grown (g := gb123) (o := .cells #[.int .i64 t119, .slice Ao41 x124001_1.length co41] 24 (0, 0)) (zqB BK123.out) hg (Kd.R_ne HO_136001.out BK123.out (by decide))); have n7_ := zA (blk_grown (g := gb135) (o := .cells #[.int .i64 t119, .slice Ao138 x136001_3.length co138] 24 (0, 0)) (zqB BK135.out) hg (Kd.R_ne HO_136001.out BK135.out (by decide))); have n8_ := zA (blk_grown (g := gb153) (o := .cells #[.int .i64 (Int.tmod (wrap64 (a1_0)) 40), .int .i64 (wrap64 ((wrap64 ((Int.tmod (wrap64 (a1_0)) 40) + 1)) + (Int.tmod (wrap64 (a1_1)) 12)))] 47 (0, 0)) (zqB BK153.out) hg (Kd.R_away HO_136001.out (fun _ hk => hk.1.2))); have n9_ := zA (Kd.R_after (ok := (fun k_ => some k_ ≠ (.slice Ao41 x124001_1.length co41 : Value).ownBlock ∧ some k_ ≠ (.slice Ao41 x124001_1.length co41 : Value).ownBlock ∧ k_ ≠ gb153)) (by (with_reducible repeat (first | apply Kd.R_alloc | apply Kd.R_drewN | apply Kd.R_drew)); exact Kd.R_mono HO158.out (fun _ hk => ⟨⟨hk.1.1.1.2, ⟨hk.1.1.2, hk.2⟩⟩, hk.1.2⟩)) hg hat); have n10_ := zA (hb); have n11_ := zA (ho); clear HO_8; clear HO_12; clear HO_93; clear HO_124001; clear BK117; clear BK118; clear BK123; clear BK135; clear BK153; clear HO158; clear HB; clear HO_136001; have HO_8 := n0_; have HO_12 := n1_; have HO_93 := n2_; have HO_124001 := n3_; have BK117 := n4_; have BK118 := n5_; have BK123 := n6_; have BK135 := n7_; have BK153 := n8_; have HO158 := n9_; have HB := n10_; have HO161 := n11_; clear n0_ n1_ n2_ n3_ n4_ n5_ n6_ n7_ n8_ n9_ n10_ n11_; clear ho hb hg hat) | ((with_reducible refine gate_dst (N := 155) rfl ?_); (try (refine gate_guard (by rfl) ?_; dsimp only)); refine Kd.R_lit (Kd.int .i64) _ 3 ?hg (N := 155) ?hd (xs := ([t154] : List Int)) (inner := [.int .i64 t154]) (ok := fun _ => True) (okp := fun _ => True) ?hr ?hp (fun _ hk => hk) trivial (Below.refl _ _) (Nat.le_refl _) (by simp) ?_; (case hd => rfl); (case hg => rfl); (case hr => first | (go_simp; done) | (go_simp; rfl)); (case hp => exact (Reps.one (show Kd.M (Kd.int .i64) _ _ _ t154 [.int .i64 t154] from rfl) (Reps.none _ _))); intro v163 w147 ho148 hb hg_ hnew_; clear hg_ hnew_; (first | rw [← Ny162.out] at ho148 | (simp only [Int.reduceToNat] at ho148; rw [← Ny162.out] at ho148)); have n0_ := zA (Kd.R_elder' (zqC HO_8.out) (Kd.R_base ho148) hb); have n1_ := zA (Kd.R_elder' (zqC HO_12.out) (Kd.R_base ho148) hb); have n2_ := zA (Kd.R_below (zqC HO_93.out) hb); have n3_ := zA (Kd.R_below (zqC HO_124001.out) hb); have n4_ := zA (Kd.R_below (zqC HO158.out) hb); have n5_ := zA (Kd.R_below (zqC HO161.out) hb); have n6_ := zA (Kd.R_lower (Kd.R_new' (Kd.R_new' ho148 (Kd.R_lt (zqC HO_8.out))) (Kd.R_lt (zqC HO_12.out))) (below_size (by repeat (first | (with_reducible first | exact HB.out | apply below_alloc | apply pw_below_drewN | apply below_drew1 | refine below_set ?_ GE117.out | refine below_set ?_ GE118.out | refine below_set ?_ GE123.out | refine below_set ?_ GE135.out | refine below_set ?_ GE153.out) | exact HB.out)))); have n7_ := zA (blk_below (g := gb117) (o := .cells #[.int .u8 a0_0, .slice A0_1 l0_1.length c0_1] 74 (0, 0)) (zqB BK117.out) hb); have n8_ := zA (blk_below (g := gb118) (o := .cells #[.int .u8 a1_0, .int .u8 a1_1] 82 (0, 0)) (zqB BK118.out) hb); have n9_ := zA (blk_below (g := gb123) (o := .cells #[.int .i64 t119, .slice Ao41 x124001_1.length co41] 24 (0, 0)) (zqB BK123.out) hb); have n10_ := zA (blk_below (g := gb135) (o := .cells #[.int .i64 t119, .slice Ao138 x136001_3.length co138] 24 (0, 0)) (zqB BK135.out) hb); have n11_ := zA (blk_below (g := gb153) (o := .cells #[.int .i64 (Int.tmod (wrap64 (a1_0)) 40), .int .i64 (wrap64 ((wrap64 ((Int.tmod (wrap64 (a1_0)) 40) + 1)) + (Int.tmod (wrap64 (a1_1)) 12)))] 47 (0, 0)) (zqB BK153.out) hb); have n12_ := zA (below_step (by repeat (first | (with_reducible first | exact HB.out | apply below_alloc | apply pw_below_drewN | apply below_drew1 | refine below_set ?_ GE117.out | refine below_set ?_ GE118.out | refine below_set ?_ GE123.out | refine below_set ?_ GE135.out | refine below_set ?_ GE153.out) | exact HB.out)) hb); clear HO_8; clear HO_12; clear HO_93; clear HO_124001; clear HO158; clear HO161; clear BK117; clear BK118; clear BK123; clear BK135; clear BK153; clear HB; have HO_8 := n0_; have HO_12 := n1_; have HO_93 := n2_; have HO_124001 := n3_; have HO158 := n4_; have HO161 := n5_; have HO164 := n6_; have BK117 := n7_; have BK118 := n8_; have BK123 := n9_; have BK135 := n10_; have BK153 := n11_; have HB := n12_; clear n0_ n1_ n2_ n3_ n4_ n5_ n6_ n7_ n8_ n9_ n10_ n11_ n12_; clear hb ho148; obtain ⟨Ao150, co150, eo150⟩ := Kd.R_slice HO164.out; subst eo150) | ((with_reducible refine gate_builtin (b := .append) (xs := #[.tmp 153, .tmp 155]) rfl ?_); (try (refine gate_guard (by rfl) ?_; dsimp only)); at_builtin; refine Kd.R_append_rows (Kd.int .i64) (w0 := w) w.heap.size rfl (.tmp 153) (.tmp 155) 26 3 (.int .i64 0) 8 rfl Try.underlying26 info3 rfl (by decide) (by omega) (.slice Ao139 x12_3.length co139) x12_3 y162 _ _ _ (fun k_ => some k_ ≠ (v131 : Value).ownBlock ∧ some k_ ≠ (.slice Ao150 y162.length co150 : Value).ownBlock) (fun _ => False) rfl rfl ?aO ?aR (fun _ _ h => h) (fun _ h => h.elim) ?aF ?aB ?aS ?aL ?_; (case aR => repeat (first | exact (Kd.R_reads' HO164.out).2.2 | (with_reducible refine Kd.C_alloc ?_ _) | (with_reducible refine Kd.C_drewN ?_ _) | (with_reducible refine Kd.C_drew ?_))); (case aB => exact (by repeat (first | (with_reducible first | exact HB.out | apply below_alloc | apply pw_below_drewN | apply below_drew1 | refine below_set ?_ GE117.out | refine below_set ?_ GE118.out | refine below_set ?_ GE123.out | refine below_set ?_ GE135.out | refine below_set ?_ GE153.out) | exact HB.out))); (case aF => exact (fun k_ hk => ⟨Kd.fresh' (Kd.R_lt (zqC HO_8.out)) k_ hk, Kd.fresh' (Kd.R_lt (zqC HO164.out)) k_ hk⟩)); (case aO => exact (zqC HO_12.out)); (case aS => exact (below_size (by repeat (first | (with_reducible first | exact HB.out | apply below_alloc | apply pw_below_drewN | apply below_drew1 | refine below_set ?_ GE117.out | refine below_set ?_ GE118.out | refine below_set ?_ GE123.out | refine below_set ?_ GE135.out | refine below_set ?_ GE153.out) | exact HB.out)))); (case aL => have := LMc122.out; omega); intro v166 w149 ho hb hg hat; rw [← Ny165.out] at ho; have n0_ := zA (Kd.R_after (ok := (fun k_ => some k_ ≠ (.slice Ao150 y162.length co150 : Value).ownBlock)) (by (with_reducible repeat (first | apply Kd.R_alloc | apply Kd.R_drewN | apply Kd.R_drew)); exact Kd.R_mono HO_8.out (fun _ hk => ⟨hk.2, hk.1⟩)) hg hat); have n1_ := zA (Kd.R_over' (zqC HO_93.out) (Kd.R_typed (zqC HO_12.out)) (by decide) hg); have n2_ := zA (Kd.R_over' (zqC HO_124001.out) (Kd.R_typed (zqC HO_12.out)) (by decide) hg); have n3_ := zA (blk_grown (g := gb117) (o := .cells #[.int .u8 a0_0, .slice A0_1 l0_1.length c0_1] 74 (0, 0)) (zqB BK117.out) hg (Kd.R_ne HO_12.out BK117.out (by decide))); have n4_ := zA (blk_grown (g := gb118) (o := .cells #[.int .u8 a1_0, .int .u8 a1_1] 82 (0, 0)) (zqB BK118.out) hg (Kd.R_ne HO_12.out BK118.out (by decide))); have n5_ := zA (blk_grown (g := gb123) (o := .cells #[.int .i64 t119, .slice Ao41 x124001_1.length co41] 24 (0, 0)) (zqB BK123.out) hg (Kd.R_ne HO_12.out BK123.out (by decide))); have n6_ := zA (blk_grown (g := gb135) (o := .cells #[.int .i64 t119, .slice Ao138 x136001_3.length co138] 24 (0, 0)) (zqB BK135.out) hg (Kd.R_ne HO_12.out BK135.out (by decide))); have n7_ := zA (blk_grown (g := gb153) (o := .cells #[.int .i64 (Int.tmod (wrap64 (a1_0)) 40), .int .i64 (wrap64 ((wrap64 ((Int.tmod (wrap64 (a1_0)) 40) + 1)) + (Int.tmod (wrap64 (a1_1)) 12)))] 47 (0, 0)) (zqB BK153.out) hg (Kd.R_ne HO_12.out BK153.out (by decide))); have n8_ := zA (Kd.R_over' (zqC HO158.out) (Kd.R_typed (zqC HO_12.out)) (by decide) hg); have n9_ := zA (Kd.R_over' (zqC HO161.out) (Kd.R_typed (zqC HO_12.out)) (by decide) hg); have n10_ := zA (Kd.R_after (ok := (fun k_ => some k_ ≠ (v131 : Value).ownBlock)) (by (with_reducible repeat (first | apply Kd.R_alloc | apply Kd.R_drewN | apply Kd.R_drew)); exact Kd.R_mono HO164.out (fun _ hk => ⟨hk.1.2, hk.2⟩)) hg hat); have n11_ := zA (hb); have n12_ := zA (ho); clear HO_8; clear HO_93; clear HO_124001; clear BK117; clear BK118; clear BK123; clear BK135; clear BK153; clear HO158; clear HO161; clear HO164; clear HB; clear HO_12; have HO_8 := n0_; have HO_93 := n1_; have HO_124001 := n2_; have BK117 := n3_; have BK118 := n4_; have BK123 := n5_; have BK135 := n6_; have BK153 := n7_; have HO158 := n8_; have HO161 := n9_; have HO164 := n10_; have HB := n11_; have HO167 := n12_; clear n0_ n1_ n2_ n3_ n4_ n5_ n6_ n7_ n8_ n9_ n10_ n11_ n12_; clear ho hb hg hat; obtain ⟨Ao151, co151, eo151⟩ := Kd.R_slice HO161.out; subst eo151; have hcz152_0 : w149.cell? ⟨gb135, 0, none⟩ = some (.int .i64 t119) := (blk_cell BK135.out 0).trans rfl; have hcz152_1 : w149.cell? ⟨gb135, 1, none⟩ = some (.slice Ao138 x136001_3.length co138) := (blk_cell BK135.out 1).trans rfl; have hfz152_0 := blk_frozen BK135.out 0; have hfz152_1 := blk_frozen BK135.out 1; obtain ⟨Ao153, co153, eo153⟩ := Kd.R_slice HO167.out; subst eo153) | ((with_reducible refine gate_callee (f := 26) rfl ?_); refine goesL_ (some 161) rfl rfl Try.func26 (by kernel_rfl) rfl #[.agg #[.int .i64 t119, .slice Ao151 y159.length co151], .slice Ao153 y165.length co153] rfl zqE ?_; (with_reducible refine (punch_Verify.calls t119 _ _ y159 _ _ y165 t168 t169 _ ?side1 ?side2 ?side3 ?side4 A123.out).mono ?_); (case side1 => refine (Kd.R_reads' (e := 47) (base := w.heap.size) (ok := fun k_ => (some k_ ≠ (.slice Ao41 x124001_1.length co41 : Value).ownBlock ∧ (some k_ ≠ (.slice Ao41 x124001_1.length co41 : Value).ownBlock ∧ (some k_ ≠ (.slice Ao146 y156.length co146 : Value).ownBlock ∧ k_ ≠ gb153)))) (n := y159.length) (c := co151) ?_).2.2; exact (by (with_reducible repeat (first | apply Kd.R_alloc | apply Kd.R_drewN | apply Kd.R_drew)); exact (Kd.R_mono (Kd.R_far (p := ⟨gb135, 1, none⟩) (Kd.R_types HO161.out BK135.out (by decide)) (fun _ hk => hk.2) (.slice Ao151 y159.length co151)) (fun _ h_ => h_.1)))); (case side2 => exact (Kd.R_reads' HO161.out).2.1); (case side3 => refine (Kd.R_reads' (e := 3) (base := w.heap.size) (ok := fun k_ => (some k_ ≠ (v131 : Value).ownBlock ∧ some k_ ≠ (.slice Ao150 y162.length co150 : Value).ownBlock)) (n := y165.length) (c := co153) ?_).2.2; exact (by (with_reducible repeat (first | apply Kd.R_alloc | apply Kd.R_drewN | apply Kd.R_drew)); exact (Kd.R_mono (Kd.R_far (p := ⟨gb135, 1, none⟩) (Kd.R_types HO167.out BK135.out (by decide)) (fun _ hk => hk.2) (.slice Ao151 y159.length co151)) (fun _ h_ => h_.1)))); (case side4 => exact (Kd.R_reads' HO167.out).2.1); rintro e w154 ⟨rfl, hb⟩; refine ⟨_, rfl, ?_⟩; have n0_ := zA (Kd.R_below (by (with_reducible repeat (first | apply Kd.R_alloc | apply Kd.R_drewN | apply Kd.R_drew)); exact (Kd.R_mono (Kd.R_far (p := ⟨gb135, 1, none⟩) (Kd.R_types HO_8.out BK135.out (by decide)) (fun _ hk => hk.2) (.slice Ao151 y159.length co151)) (fun _ h_ => h_.1))) hb); have n1_ := zA (Kd.R_below (by (with_reducible repeat (first | apply Kd.R_alloc | apply Kd.R_drewN | apply Kd.R_drew)); exact (Kd.R_mono (Kd.R_far (p := ⟨gb135, 1, none⟩) (Kd.R_types HO_93.out BK135.out (by decide)) (fun _ hk => hk.2) (.slice Ao151 y159.length co151)) (fun _ h_ => h_.1))) hb); have n2_ := zA (Kd.R_below (by (with_reducible repeat (first | apply Kd.R_alloc | apply Kd.R_drewN | apply Kd.R_drew)); exact (Kd.R_mono (Kd.R_far (p := ⟨gb135, 1, none⟩) (Kd.R_types HO_124001.out BK135.out (by decide)) (fun _ hk => hk.2) (.slice Ao151 y159.length co151)) (fun _ h_ => h_.1))) hb); have n3_ := zA (Kd.R_below (by (with_reducible repeat (first | apply Kd.R_alloc | apply Kd.R_drewN | apply Kd.R_drew)); exact (Kd.R_mono (Kd.R_far (p := ⟨gb135, 1, none⟩) (Kd.R_types HO158.out BK135.out (by decide)) (fun _ hk => hk.2) (.slice Ao151 y159.length co151)) (fun _ h_ => h_.1))) hb); have n4_ := zA (Kd.R_below (by (with_reducible repeat (first | apply Kd.R_alloc | apply Kd.R_drewN | apply Kd.R_drew)); exact (Kd.R_mono (Kd.R_far (p := ⟨gb135, 1, none⟩) (Kd.R_types HO161.out BK135.out (by decide)) (fun _ hk => hk.2) (.slice Ao151 y159.length co151)) (fun _ h_ => h_.1))) hb); have n5_ := zA (Kd.R_below (by (with_reducible repeat (first | apply Kd.R_alloc | apply Kd.R_drewN | apply Kd.R_drew)); exact (Kd.R_mono (Kd.R_far (p := ⟨gb135, 1, none⟩) (Kd.R_types HO164.out BK135.out (by decide)) (fun _ hk => hk.2) (.slice Ao151 y159.length co151)) (fun _ h_ => h_.1))) hb); have n6_ := zA (Kd.R_below (by (with_reducible repeat (first | apply Kd.R_alloc | apply Kd.R_drewN | apply Kd.R_drew)); exact (Kd.R_mono (Kd.R_far (p := ⟨gb135, 1, none⟩) (Kd.R_types HO167.out BK135.out (by decide)) (fun _ hk => hk.2) (.slice Ao151 y159.length co151)) (fun _ h_ => h_.1))) hb); have n7_ := zA (blk_below (g := gb117) (o := .cells #[.int .u8 a0_0, .slice A0_1 l0_1.length c0_1] 74 (0, 0)) (by (with_reducible repeat (first | refine blk_drewN ?_ _ | refine blk_drew ?_ | refine blk_alloc ?_ _)); refine blk_far ?_ NB117_135.out _; (with_reducible repeat (first | refine blk_drewN ?_ _ | refine blk_drew ?_ | refine blk_alloc ?_ _)); exact BK117.out) hb); have n8_ := zA (blk_below (g := gb118) (o := .cells #[.int .u8 a1_0, .int .u8 a1_1] 82 (0, 0)) (by (with_reducible repeat (first | refine blk_drewN ?_ _ | refine blk_drew ?_ | refine blk_alloc ?_ _)); refine blk_far ?_ NB118_135.out _; (with_reducible repeat (first | refine blk_drewN ?_ _ | refine blk_drew ?_ | refine blk_alloc ?_ _)); exact BK118.out) hb); have n9_ := zA (blk_below (g := gb123) (o := .cells #[.int .i64 t119, .slice Ao41 x124001_1.length co41] 24 (0, 0)) (by (with_reducible repeat (first | refine blk_drewN ?_ _ | refine blk_drew ?_ | refine blk_alloc ?_ _)); refine blk_far ?_ NB123_135.out _; (with_reducible repeat (first | refine blk_drewN ?_ _ | refine blk_drew ?_ | refine blk_alloc ?_ _)); exact BK123.out) hb); have n10_ := zA (blk_below (g := gb135) (o := .cells #[.int .i64 t119, .slice Ao151 y159.length co151] 24 (0, 0)) (by (with_reducible repeat (first | refine blk_drewN ?_ _ | refine blk_drew ?_ | refine blk_alloc ?_ _)); refine blk_put (cs := #[.int .i64 t119, .slice Ao138 x136001_3.length co138]) ?_ 1 _ rfl; (with_reducible repeat (first | refine blk_drewN ?_ _ | refine blk_drew ?_ | refine blk_alloc ?_ _)); exact BK135.out) hb); have n11_ := zA (blk_below (g := gb153) (o := .cells #[.int .i64 (Int.tmod (wrap64 (a1_0)) 40), .int .i64 (wrap64 ((wrap64 ((Int.tmod (wrap64 (a1_0)) 40) + 1)) + (Int.tmod (wrap64 (a1_1)) 12)))] 47 (0, 0)) (by (with_reducible repeat (first | refine blk_drewN ?_ _ | refine blk_drew ?_ | refine blk_alloc ?_ _)); refine blk_far ?_ NB153_135.out _; (with_reducible repeat (first | refine blk_drewN ?_ _ | refine blk_drew ?_ | refine blk_alloc ?_ _)); exact BK153.out) hb); have n12_ := zA (below_step (by repeat (first | (with_reducible first | exact HB.out | apply below_alloc | apply pw_below_drewN | apply below_drew1 | refine below_set ?_ GE117.out | refine below_set ?_ GE118.out | refine below_set ?_ GE123.out | refine below_set ?_ GE135.out | refine below_set ?_ GE153.out) | exact HB.out)) hb); clear HO_8; clear HO_93; clear HO_124001; clear HO158; clear HO161; clear HO164; clear HO167; clear BK117; clear BK118; clear BK123; clear BK135; clear BK153; clear HB; have HO_8 := n0_; have HO_93 := n1_; have HO_124001 := n2_; have HO158 := n3_; have HO161 := n4_; have HO164 := n5_; have HO167 := n6_; have BK117 := n7_; have BK118 := n8_; have BK123 := n9_; have BK135 := n10_; have BK153 := n11_; have HB := n12_; clear n0_ n1_ n2_ n3_ n4_ n5_ n6_ n7_ n8_ n9_ n10_ n11_ n12_; (try clear hb); (try clear hb2); (try clear hk); (try clear hi)))
            (try simp only [Act.put, setIfInBounds_toArray, set_cons_zero, set_cons_succ])
            go_cut [179] (fun v179 wc => ∃ (kq : Nat) (x179_123 : Bool), v179 = .bool x179_123 ∧ Aside0 (pianolalaw03_PunchAdded.j4 kq y165 t154 x179_123 t119 y159 = some r) ∧ Aside0 (kq ≤ k3) ∧ Aside0 (Kd.R (Kd.int .i64) 3 wc w.heap.size (fun _ => True) (.slice Ao153 y165.length co153) y165) ∧ Aside0 (Kd.R k47 47 wc w.heap.size (fun k_ => some k_ ≠ ((.slice Ao151 y159.length co151) : Value).ownBlock ∧ k_ ≠ gb153) (.slice Ao41 x124001_1.length co41) x124001_1) ∧ Aside0 (Kd.R k47 47 wc w.heap.size (fun k_ => some k_ ≠ ((.slice Ao41 x124001_1.length co41) : Value).ownBlock ∧ k_ ≠ gb153) (.slice Ao151 y159.length co151) y159) ∧ Aside0 (wc.heap[gb117]? = some (.cells #[.int .u8 a0_0, (.slice A0_1 l0_1.length c0_1)] 74 (0, 0))) ∧ Aside0 (wc.heap[gb118]? = some (.cells #[.int .u8 a1_0, .int .u8 a1_1] 82 (0, 0))) ∧ Aside0 (wc.heap[gb123]? = some (.cells #[.int .i64 t119, (.slice Ao41 x124001_1.length co41)] 24 (0, 0))) ∧ Aside0 (wc.heap[gb135]? = some (.cells #[.int .i64 t119, (.slice Ao151 y159.length co151)] 24 (0, 0))) ∧ Aside0 (wc.heap[gb153]? = some (.cells #[.int .i64 (Int.tmod (wrap64 (a1_0)) 40), .int .i64 (wrap64 ((wrap64 ((Int.tmod (wrap64 (a1_0)) 40) + 1)) + (Int.tmod (wrap64 (a1_1)) 12)))] 47 (0, 0))) ∧ Aside0 (Below w.heap.size w wc))
            case first => as_aux_lemma =>
             have H := HC124.out
             clear HC124
             by_cases c155 : t155 = 0
             ·
              rw [if_pos c155] at H
              have c155b0 : (t155 == 0) = true := beq_iff_eq.mpr c155
              have c155b1 : (t155 != 0) = false := bne_eq_false_iff_eq.mpr c155
              clear c155
              (first | rw [c155b0] | (simp only [i64_w, i32_w]; rw [c155b0]) | skip)
              by_cases c156 : t169 = 0
              ·
               rw [if_pos c156] at H
               have c156b0 : (t169 == 0) = true := beq_iff_eq.mpr c156
               have c156b1 : (t169 != 0) = false := bne_eq_false_iff_eq.mpr c156
               clear c156
               replace H := Option.bind_eq_some_iff.mp H
               obtain ⟨t170, A1570, H⟩ := H
               replace H : (if t170 = true then (pianolalaw03_PunchAdded.j4 k3 y165 t154 (decide (t154 < 0)) t119 y159) else (pianolalaw03_PunchAdded.j4 k3 y165 t154 true t119 y159)) = some r := H
               have A157 := zA A1570
               clear A1570
               by_cases c158 : t170 = true
               ·
                subst c158
                have H1 : (pianolalaw03_PunchAdded.j4 k3 y165 t154 (decide (t154 < 0)) t119 y159) = some r := by rw [if_pos rfl] at H; exact H
                clear H; have H := H1; clear H1
                have H' := zA H
                clear H
                have hnb159 := NB135_117.out
                have hnc159 := NB117_135.out
                have hnb160 := NB135_118.out
                have hnc160 := NB118_135.out
                have hnb161 := NB135_123.out
                have hnc161 := NB123_135.out
                have hnb162 := NB135_153.out
                have hnc162 := NB153_135.out
                have hcz163_0 : w154.cell? ⟨gb135, 0, none⟩ = some (.int .i64 t119) := (blk_cell BK135.out 0).trans rfl
                have hcz163_1 : w154.cell? ⟨gb135, 1, none⟩ = some (.slice Ao151 y159.length co151) := (blk_cell BK135.out 1).trans rfl
                have hfz163_0 := blk_frozen BK135.out 0
                have hfz163_1 := blk_frozen BK135.out 1
                go_wp2_with (first | (go_at_call 39; (with_reducible refine (pianolalaw03_good.calls k3 t119 _ _ y159 _ _ y165 true _ ?side1 ?side2 ?side3 ?side4 A157.out).mono ?_); (case side1 => exact zqK (Kd.R_reads' HO161.out).2.2); (case side2 => exact (Kd.R_reads' HO161.out).2.1); (case side3 => exact zqK (Kd.R_reads' HO167.out).2.2); (case side4 => exact (Kd.R_reads' HO167.out).2.1); rintro e w164 ⟨rfl, hb⟩; have n0_ := zA (Kd.R_below (zqC HO_8.out) hb); have n1_ := zA (Kd.R_below (zqC HO_93.out) hb); have n2_ := zA (Kd.R_below (zqC HO_124001.out) hb); have n3_ := zA (Kd.R_below (zqC HO158.out) hb); have n4_ := zA (Kd.R_below (zqC HO161.out) hb); have n5_ := zA (Kd.R_below (zqC HO164.out) hb); have n6_ := zA (Kd.R_below (zqC HO167.out) hb); have n7_ := zA (blk_below (g := gb117) (o := .cells #[.int .u8 a0_0, .slice A0_1 l0_1.length c0_1] 74 (0, 0)) (zqB BK117.out) hb); have n8_ := zA (blk_below (g := gb118) (o := .cells #[.int .u8 a1_0, .int .u8 a1_1] 82 (0, 0)) (zqB BK118.out) hb); have n9_ := zA (blk_below (g := gb123) (o := .cells #[.int .i64 t119, .slice Ao41 x124001_1.length co41] 24 (0, 0)) (zqB BK123.out) hb); have n10_ := zA (blk_below (g := gb135) (o := .cells #[.int .i64 t119, .slice Ao151 y159.length co151] 24 (0, 0)) (zqB BK135.out) hb); have n11_ := zA (blk_below (g := gb153) (o := .cells #[.int .i64 (Int.tmod (wrap64 (a1_0)) 40), .int .i64 (wrap64 ((wrap64 ((Int.tmod (wrap64 (a1_0)) 40) + 1)) + (Int.tmod (wrap64 (a1_1)) 12)))] 47 (0, 0)) (zqB BK153.out) hb); have n12_ := zA (below_step (by repeat (first | (with_reducible first | exact HB.out | apply below_alloc | apply pw_below_drewN | apply below_drew1 | refine below_set ?_ GE117.out | refine below_set ?_ GE118.out | refine below_set ?_ GE123.out | refine below_set ?_ GE135.out | refine below_set ?_ GE153.out) | exact HB.out)) hb); clear HO_8; clear HO_93; clear HO_124001; clear HO158; clear HO161; clear HO164; clear HO167; clear BK117; clear BK118; clear BK123; clear BK135; clear BK153; clear HB; have HO_8 := n0_; have HO_93 := n1_; have HO_124001 := n2_; have HO158 := n3_; have HO161 := n4_; have HO164 := n5_; have HO167 := n6_; have BK117 := n7_; have BK118 := n8_; have BK123 := n9_; have BK135 := n10_; have BK153 := n11_; have HB := n12_; clear n0_ n1_ n2_ n3_ n4_ n5_ n6_ n7_ n8_ n9_ n10_ n11_ n12_; (try clear hb); (try clear hb2); (try clear hk); (try clear hi)))
                go_meet
                case rel => exact ⟨_, (decide (t154 < 0)), zqQ, H', ⟨by have := HK1.out; have := HJ36.out; have := HK3.out; first | omega | exact Nat.le_refl _⟩, ⟨by (with_reducible repeat (first | apply Kd.R_alloc | apply Kd.R_drewN | apply Kd.R_drew)); exact Kd.R_mono HO167.out (fun _ hk => trivial)⟩, ⟨by (with_reducible repeat (first | apply Kd.R_alloc | apply Kd.R_drewN | apply Kd.R_drew)); exact Kd.R_mono HO_124001.out (fun _ hk => ⟨hk.2, hk.1.2⟩)⟩, ⟨by (with_reducible repeat (first | apply Kd.R_alloc | apply Kd.R_drewN | apply Kd.R_drew)); exact Kd.R_mono HO161.out (fun _ hk => ⟨hk.2.1, hk.2.2.2⟩)⟩, ⟨zqB BK117.out⟩, ⟨zqB BK118.out⟩, ⟨zqB BK123.out⟩, ⟨zqB BK135.out⟩, ⟨zqB BK153.out⟩, ⟨by repeat (first | (with_reducible first | exact HB.out | apply below_alloc | apply pw_below_drewN | apply below_drew1 | refine below_set ?_ GE117.out | refine below_set ?_ GE118.out | refine below_set ?_ GE123.out | refine below_set ?_ GE135.out | refine below_set ?_ GE153.out) | exact HB.out)⟩⟩
               ·
                replace c158 := Bool.eq_false_iff.mpr c158
                subst c158
                have H1 : (pianolalaw03_PunchAdded.j4 k3 y165 t154 true t119 y159) = some r := by rw [if_neg (show ¬ (false = true) by decide)] at H; exact H
                clear H; have H := H1; clear H1
                exact (pianolalaw03_PunchAdded.j4_no H HRT.out).elim
              ·
               rw [if_neg c156] at H
               exact (pianolalaw03_PunchAdded.j4_no H HRT.out).elim
             ·
              rw [if_neg c155] at H
              exact (pianolalaw03_PunchAdded.j4_no H HRT.out).elim
            case rest => as_aux_lemma =>
             clear HC124
             try clear c1
             try clear p1
             try clear q1
             try clear hx1
             try clear c2
             try clear p2
             try clear q2
             try clear hx2
             try clear hf2
             try clear c3
             try clear hx3
             try clear hf3
             try clear c4
             try clear c5
             try clear c6
             try clear p6
             try clear c7
             try clear c9
             try clear c10
             try clear c11
             try clear c12
             try clear p12
             try clear q12
             try clear hx12
             try clear c13
             try clear p13
             try clear q13
             try clear hx13
             try clear c14
             try clear c14b0
             try clear p14
             try clear q14
             try clear hx14
             try clear c15
             try clear c15b0
             try clear c16
             try clear c17
             try clear c19
             try clear c20
             try clear c21
             try clear c21b0
             try clear c22
             try clear p22
             try clear q22
             try clear hx22
             try clear hf22
             try clear c23
             try clear p23
             try clear q23
             try clear hx23
             try clear hf23
             try clear c26
             try clear c27
             try clear c28
             try clear c29
             try clear hx29
             try clear hf29
             try clear c31
             try clear hx31
             try clear hf31
             try clear c38
             try clear c39
             try clear c43
             try clear c43b0
             try clear c43b1
             try clear c45
             try clear c46
             try clear c48
             try clear c49
             try clear c50
             try clear c53
             try clear c54
             try clear c55
             try clear c58
             try clear c58b0
             try clear c59
             try clear c59b0
             try clear c60
             try clear c60b0
             try clear c62
             try clear c62b0
             try clear c62b1
             try clear c63
             try clear c63b0
             try clear c64
             try clear c64b0
             try clear c64b1
             try clear p64
             try clear c65
             try clear c66
             try clear c68
             try clear c69
             try clear c70
             try clear c71
             try clear c73
             try clear c74
             try clear c75
             try clear c94
             try clear c95
             try clear c96
             try clear c97
             try clear c99
             try clear c100
             try clear c101
             try clear c108
             try clear c109
             try clear c110
             try clear c111
             try clear c113
             try clear c114
             try clear c115
             try clear c121
             try clear c122
             try clear p124
             try clear q124
             try clear hx124
             try clear c125
             try clear p125
             try clear q125
             try clear hx125
             try clear c126
             try clear p126
             try clear q126
             try clear hx126
             try clear c127
             try clear p127
             try clear q127
             try clear hx127
             try clear c130
             try clear c131
             try clear c132
             try clear c133
             try clear c135
             try clear c136
             try clear p136
             try clear q136
             try clear hx136
             try clear p140
             try clear q140
             try clear hx140
             try clear c155
             try clear c155b0
             try clear c155b1
             try clear c156
             try clear c156b0
             try clear c156b1
             try clear c158
             try clear c159
             try clear c160
             try clear c161
             try clear c162
             try clear c165
             try clear c166
             try clear c167
             try clear c168
             try clear hcz102_0
             try clear hcz102_1
             try clear hcz112_0
             try clear hcz112_1
             try clear hcz116_0
             try clear hcz116_1
             try clear hcz128_0
             try clear hcz128_1
             try clear hcz134_0
             try clear hcz134_1
             try clear hcz137_0
             try clear hcz137_1
             try clear hcz141_0
             try clear hcz141_1
             try clear hcz142_0
             try clear hcz142_1
             try clear hcz152_0
             try clear hcz152_1
             try clear hcz163_0
             try clear hcz163_1
             try clear hcz169_0
             try clear hcz169_1
             try clear hcz28_0
             try clear hcz28_1
             try clear hcz40_0
             try clear hcz40_1
             try clear hcz47_0
             try clear hcz47_1
             try clear hcz51_0
             try clear hcz51_1
             try clear hcz56_0
             try clear hcz56_1
             try clear hcz57_0
             try clear hcz57_1
             try clear hcz72_0
             try clear hcz72_1
             try clear hcz76_0
             try clear hcz76_1
             try clear hcz81_0
             try clear hcz81_1
             try clear hcz82_0
             try clear hcz82_1
             try clear hcz92_0
             try clear hcz92_1
             try clear hcz98_0
             try clear hcz98_1
             try clear hfz102_0
             try clear hfz102_1
             try clear hfz112_0
             try clear hfz112_1
             try clear hfz116_0
             try clear hfz116_1
             try clear hfz128_0
             try clear hfz128_1
             try clear hfz134_0
             try clear hfz134_1
             try clear hfz137_0
             try clear hfz137_1
             try clear hfz141_0
             try clear hfz141_1
             try clear hfz142_0
             try clear hfz142_1
             try clear hfz152_0
             try clear hfz152_1
             try clear hfz163_0
             try clear hfz163_1
             try clear hfz169_0
             try clear hfz169_1
             try clear hfz28_0
             try clear hfz28_1
             try clear hfz40_0
             try clear hfz40_1
             try clear hfz47_0
             try clear hfz47_1
             try clear hfz51_0
             try clear hfz51_1
             try clear hfz56_0
             try clear hfz56_1
             try clear hfz57_0
             try clear hfz57_1
             try clear hfz72_0
             try clear hfz72_1
             try clear hfz76_0
             try clear hfz76_1
             try clear hfz81_0
             try clear hfz81_1
             try clear hfz82_0
             try clear hfz82_1
             try clear hfz92_0
             try clear hfz92_1
             try clear hfz98_0
             try clear hfz98_1
             try clear hx124_0
             try clear hx124_1
             try clear hx125_0
             try clear hx125_1
             try clear hx126_0
             try clear hx126_1
             try clear hx127_0
             try clear hx127_1
             try clear hx136_0
             try clear hx136_1
             try clear hx140_0
             try clear hx22_0
             try clear hx22_1
             try clear hx23_0
             try clear hx23_1
             try clear hx29_0
             try clear hx29_1
             try clear hx31_0
             try clear hx31_1
             try clear p1
             try clear p12
             try clear p124
             try clear p125
             try clear p126
             try clear p127
             try clear p136
             try clear p140
             try clear p2
             try clear p22
             try clear p23
             try clear p6
             try clear q1
             try clear q12
             try clear q124
             try clear q125
             try clear q126
             try clear q127
             try clear q136
             try clear q140
             try clear q2
             try clear q22
             try clear q23
             obtain ⟨kq, x179_123, rfl, HA, HJ123, HO_12, HO_124001, HO_136001, BK117, BK118, BK123, BK135, BK153, HB⟩ := hcut
             cases kq with
             | zero => exact absurd HA.out (by simp [pianolalaw03_PunchAdded.j4])
             | succ kj123 =>
              have H := HA.out
              clear HA
              simp only [pianolalaw03_PunchAdded.j4] at H
              by_cases c171 : x179_123 = true
              ·
               subst c171
               have H1 : (some false) = some r := by rw [if_pos rfl] at H; exact H
               clear H; have H := H1; clear H1
               exact absurd ((Option.some.inj H).trans HRT.out) (by decide)
              ·
               replace c171 := Bool.eq_false_iff.mpr c171
               subst c171
               have H1 : (pianolalaw03_PunchAdded.l3 kj123 y165 t154 0 t119 y159) = some r := by rw [if_neg (show ¬ (false = true) by decide)] at H; exact H
               clear H; have H := H1; clear H1
               have H' := zA H
               clear H
               go_wp2
               go_loopg [22] kj123 (fun kq v22 w' => ∃ (x22_5 : Int), v22 = .int .i64 x22_5 ∧ Aside0 (pianolalaw03_PunchAdded.l3 kq y165 t154 x22_5 t119 y159 = some r) ∧ Aside0 (kq ≤ kj123) ∧ Aside0 (Kd.R (Kd.int .i64) 3 w' w.heap.size (fun _ => True) (.slice Ao153 y165.length co153) y165) ∧ Aside0 (Kd.R k47 47 w' w.heap.size (fun k_ => some k_ ≠ ((.slice Ao151 y159.length co151) : Value).ownBlock ∧ k_ ≠ gb153) (.slice Ao41 x124001_1.length co41) x124001_1) ∧ Aside0 (Kd.R k47 47 w' w.heap.size (fun k_ => some k_ ≠ ((.slice Ao41 x124001_1.length co41) : Value).ownBlock ∧ k_ ≠ gb153) (.slice Ao151 y159.length co151) y159) ∧ Aside0 (w'.heap[gb117]? = some (.cells #[.int .u8 a0_0, (.slice A0_1 l0_1.length c0_1)] 74 (0, 0))) ∧ Aside0 (w'.heap[gb118]? = some (.cells #[.int .u8 a1_0, .int .u8 a1_1] 82 (0, 0))) ∧ Aside0 (w'.heap[gb123]? = some (.cells #[.int .i64 t119, (.slice Ao41 x124001_1.length co41)] 24 (0, 0))) ∧ Aside0 (w'.heap[gb135]? = some (.cells #[.int .i64 t119, (.slice Ao151 y159.length co151)] 24 (0, 0))) ∧ Aside0 (w'.heap[gb153]? = some (.cells #[.int .i64 (Int.tmod (wrap64 (a1_0)) 40), .int .i64 (wrap64 ((wrap64 ((Int.tmod (wrap64 (a1_0)) 40) + 1)) + (Int.tmod (wrap64 (a1_1)) 12)))] 47 (0, 0))) ∧ Aside0 (Below w.heap.size w w'))
               case atStart => exact ⟨(0), zqQ, H', ⟨Nat.le_refl _⟩, ⟨zqC HO_12.out⟩, ⟨zqC HO_124001.out⟩, ⟨zqC HO_136001.out⟩, ⟨zqB BK117.out⟩, ⟨zqB BK118.out⟩, ⟨zqB BK123.out⟩, ⟨zqB BK135.out⟩, ⟨zqB BK153.out⟩, ⟨by repeat (first | (with_reducible first | exact HB.out | apply below_alloc | apply pw_below_drewN | apply below_drew1 | refine below_set ?_ GE117.out | refine below_set ?_ GE118.out | refine below_set ?_ GE123.out | refine below_set ?_ GE135.out | refine below_set ?_ GE153.out) | exact HB.out)⟩⟩
               case round => as_aux_lemma =>
                clear H'
                try clear c1
                try clear p1
                try clear q1
                try clear hx1
                try clear c2
                try clear p2
                try clear q2
                try clear hx2
                try clear hf2
                try clear c3
                try clear hx3
                try clear hf3
                try clear c4
                try clear c5
                try clear c6
                try clear p6
                try clear c7
                try clear c9
                try clear c10
                try clear c11
                try clear c12
                try clear p12
                try clear q12
                try clear hx12
                try clear c13
                try clear p13
                try clear q13
                try clear hx13
                try clear c14
                try clear c14b0
                try clear p14
                try clear q14
                try clear hx14
                try clear c15
                try clear c15b0
                try clear c16
                try clear c17
                try clear c19
                try clear c20
                try clear c21
                try clear c21b0
                try clear c22
                try clear p22
                try clear q22
                try clear hx22
                try clear hf22
                try clear c23
                try clear p23
                try clear q23
                try clear hx23
                try clear hf23
                try clear c26
                try clear c27
                try clear c28
                try clear c29
                try clear hx29
                try clear hf29
                try clear c31
                try clear hx31
                try clear hf31
                try clear c38
                try clear c39
                try clear c43
                try clear c43b0
                try clear c43b1
                try clear c45
                try clear c46
                try clear c48
                try clear c49
                try clear c50
                try clear c53
                try clear c54
                try clear c55
                try clear c58
                try clear c58b0
                try clear c59
                try clear c59b0
                try clear c60
                try clear c60b0
                try clear c62
                try clear c62b0
                try clear c62b1
                try clear c63
                try clear c63b0
                try clear c64
                try clear c64b0
                try clear c64b1
                try clear p64
                try clear c65
                try clear c66
                try clear c68
                try clear c69
                try clear c70
                try clear c71
                try clear c73
                try clear c74
                try clear c75
                try clear c94
                try clear c95
                try clear c96
                try clear c97
                try clear c99
                try clear c100
                try clear c101
                try clear c108
                try clear c109
                try clear c110
                try clear c111
                try clear c113
                try clear c114
                try clear c115
                try clear c121
                try clear c122
                try clear p124
                try clear q124
                try clear hx124
                try clear c125
                try clear p125
                try clear q125
                try clear hx125
                try clear c126
                try clear p126
                try clear q126
                try clear hx126
                try clear c127
                try clear p127
                try clear q127
                try clear hx127
                try clear c130
                try clear c131
                try clear c132
                try clear c133
                try clear c135
                try clear c136
                try clear p136
                try clear q136
                try clear hx136
                try clear p140
                try clear q140
                try clear hx140
                try clear c155
                try clear c155b0
                try clear c155b1
                try clear c156
                try clear c156b0
                try clear c156b1
                try clear c158
                try clear c159
                try clear c160
                try clear c161
                try clear c162
                try clear c165
                try clear c166
                try clear c167
                try clear c168
                try clear c171
                try clear hcz102_0
                try clear hcz102_1
                try clear hcz112_0
                try clear hcz112_1
                try clear hcz116_0
                try clear hcz116_1
                try clear hcz128_0
                try clear hcz128_1
                try clear hcz134_0
                try clear hcz134_1
                try clear hcz137_0
                try clear hcz137_1
                try clear hcz141_0
                try clear hcz141_1
                try clear hcz142_0
                try clear hcz142_1
                try clear hcz152_0
                try clear hcz152_1
                try clear hcz163_0
                try clear hcz163_1
                try clear hcz169_0
                try clear hcz169_1
                try clear hcz28_0
                try clear hcz28_1
                try clear hcz40_0
                try clear hcz40_1
                try clear hcz47_0
                try clear hcz47_1
                try clear hcz51_0
                try clear hcz51_1
                try clear hcz56_0
                try clear hcz56_1
                try clear hcz57_0
                try clear hcz57_1
                try clear hcz72_0
                try clear hcz72_1
                try clear hcz76_0
                try clear hcz76_1
                try clear hcz81_0
                try clear hcz81_1
                try clear hcz82_0
                try clear hcz82_1
                try clear hcz92_0
                try clear hcz92_1
                try clear hcz98_0
                try clear hcz98_1
                try clear hfz102_0
                try clear hfz102_1
                try clear hfz112_0
                try clear hfz112_1
                try clear hfz116_0
                try clear hfz116_1
                try clear hfz128_0
                try clear hfz128_1
                try clear hfz134_0
                try clear hfz134_1
                try clear hfz137_0
                try clear hfz137_1
                try clear hfz141_0
                try clear hfz141_1
                try clear hfz142_0
                try clear hfz142_1
                try clear hfz152_0
                try clear hfz152_1
                try clear hfz163_0
                try clear hfz163_1
                try clear hfz169_0
                try clear hfz169_1
                try clear hfz28_0
                try clear hfz28_1
                try clear hfz40_0
                try clear hfz40_1
                try clear hfz47_0
                try clear hfz47_1
                try clear hfz51_0
                try clear hfz51_1
                try clear hfz56_0
                try clear hfz56_1
                try clear hfz57_0
                try clear hfz57_1
                try clear hfz72_0
                try clear hfz72_1
                try clear hfz76_0
                try clear hfz76_1
                try clear hfz81_0
                try clear hfz81_1
                try clear hfz82_0
                try clear hfz82_1
                try clear hfz92_0
                try clear hfz92_1
                try clear hfz98_0
                try clear hfz98_1
                try clear hx124_0
                try clear hx124_1
                try clear hx125_0
                try clear hx125_1
                try clear hx126_0
                try clear hx126_1
                try clear hx127_0
                try clear hx127_1
                try clear hx136_0
                try clear hx136_1
                try clear hx140_0
                try clear hx22_0
                try clear hx22_1
                try clear hx23_0
                try clear hx23_1
                try clear hx29_0
                try clear hx29_1
                try clear hx31_0
                try clear hx31_1
                try clear p1
                try clear p12
                try clear p124
                try clear p125
                try clear p126
                try clear p127
                try clear p13
                try clear p136
                try clear p14
                try clear p140
                try clear p2
                try clear p22
                try clear p23
                try clear p6
                try clear p64
                try clear q1
                try clear q12
                try clear q124
                try clear q125
                try clear q126
                try clear q127
                try clear q13
                try clear q136
                try clear q14
                try clear q140
                try clear q2
                try clear q22
                try clear q23
                obtain ⟨x22_5, rfl, HA, HK5, HO_12, HO_124001, HO_136001, BK117, BK118, BK123, BK135, BK153, HB⟩ := hrel
                cases gk with
                | zero => exact absurd HA.out (by simp [pianolalaw03_PunchAdded.l3])
                | succ k5 =>
                 have H := HA.out
                 clear HA
                 simp only [pianolalaw03_PunchAdded.l3] at H
                 by_cases c172 : x22_5 < t154
                 ·
                  rw [if_pos c172] at H
                  have c172b0 : decide (x22_5 < t154) = true := decide_eq_true c172
                  clear c172
                  obtain ⟨y171, hy171⟩ : ∃ y_ : List Int, y_ = (([] : List Int)) := ⟨_, rfl⟩
                  replace H : (if 0 ≤ (wrap64 ((y165.length : Int) - 1)) then (if (wrap64 ((y165.length : Int) - 1)) ≤ (y165.length : Int) then ((some (y165.take ((wrap64 ((y165.length : Int) - 1)) : Int).toNat : List Int)).bind fun y174 => (if y171.length + y174.length < 17592186044416 then ((some (y171 ++ y174 : List Int)).bind fun y178 => ((some (([x22_5] : List Int) : List Int)).bind fun y181 => (if y178.length + y181.length < 17592186044416 then ((pianolalaw03_good.f k5 t119 y159 (y178 ++ y181)).bind fun t187 => (if t187 = true then (some false) else (pianolalaw03_PunchAdded.l3 k5 y165 t154 (wrap64 (x22_5 + 1)) t119 y159))) else (none)))) else (none))) else (none)) else (none)) = some r := zqF hy171 H
                  have Ny171 := zA hy171
                  clear hy171
                  obtain ⟨ji173, hji173⟩ : ∃ j_ : Int, (wrap64 ((y165.length : Int) - 1)) = j_ := ⟨_, rfl⟩
                  replace H : (if 0 ≤ (ji173) then (if (ji173) ≤ (y165.length : Int) then ((some (y165.take ((ji173) : Int).toNat : List Int)).bind fun y174 => (if y171.length + y174.length < 17592186044416 then ((some (y171 ++ y174 : List Int)).bind fun y178 => ((some (([x22_5] : List Int) : List Int)).bind fun y181 => (if y178.length + y181.length < 17592186044416 then ((pianolalaw03_good.f k5 t119 y159 (y178 ++ y181)).bind fun t187 => (if t187 = true then (some false) else (pianolalaw03_PunchAdded.l3 k5 y165 t154 (wrap64 (x22_5 + 1)) t119 y159))) else (none)))) else (none))) else (none)) else (none)) = some r := by first | (rw [hji173] at H; exact H) | (simp only [hji173] at H ⊢; exact H)
                  have hji173w : (IntKind.i64.wrap ((y165.length : Int) - 1)) = ji173 := (i64_w _).trans hji173
                  by_cases c174 : 0 ≤ (ji173)
                  ·
                   rw [if_pos c174] at H
                   have c174b0 := eq_true c174
                   have c174b1 : decide (0 ≤ (ji173)) = true := decide_eq_true c174
                   clear c174
                   by_cases c175 : (ji173) ≤ (y165.length : Int)
                   ·
                    rw [if_pos c175] at H
                    have c175b0 := eq_true c175
                    have c175b1 : decide ((ji173) ≤ (y165.length : Int)) = true := decide_eq_true c175
                    clear c175
                    obtain ⟨y174, hy174⟩ : ∃ y_ : List Int, y_ = (y165.take ((ji173) : Int).toNat) := ⟨_, rfl⟩
                    replace H : (if y171.length + y174.length < 17592186044416 then ((some (y171 ++ y174 : List Int)).bind fun y178 => ((some (([x22_5] : List Int) : List Int)).bind fun y181 => (if y178.length + y181.length < 17592186044416 then ((pianolalaw03_good.f k5 t119 y159 (y178 ++ y181)).bind fun t187 => (if t187 = true then (some false) else (pianolalaw03_PunchAdded.l3 k5 y165 t154 (wrap64 (x22_5 + 1)) t119 y159))) else (none)))) else (none)) = some r := zqF hy174 H
                    have Ny174 := zA hy174
                    clear hy174
                    by_cases c176 : y171.length + y174.length < 17592186044416
                    ·
                     rw [if_pos c176] at H
                     have LMc176 := zA c176
                     clear c176
                     obtain ⟨y178, hy178⟩ : ∃ y_ : List Int, y_ = (y171 ++ y174) := ⟨_, rfl⟩
                     replace H : ((some (([x22_5] : List Int) : List Int)).bind fun y181 => (if y178.length + y181.length < 17592186044416 then ((pianolalaw03_good.f k5 t119 y159 (y178 ++ y181)).bind fun t187 => (if t187 = true then (some false) else (pianolalaw03_PunchAdded.l3 k5 y165 t154 (wrap64 (x22_5 + 1)) t119 y159))) else (none))) = some r := zqF hy178 H
                     have Ny178 := zA hy178
                     clear hy178
                     obtain ⟨y181, hy181⟩ : ∃ y_ : List Int, y_ = (([x22_5] : List Int)) := ⟨_, rfl⟩
                     replace H : (if y178.length + y181.length < 17592186044416 then ((pianolalaw03_good.f k5 t119 y159 (y178 ++ y181)).bind fun t187 => (if t187 = true then (some false) else (pianolalaw03_PunchAdded.l3 k5 y165 t154 (wrap64 (x22_5 + 1)) t119 y159))) else (none)) = some r := zqF hy181 H
                     have Ny181 := zA hy181
                     clear hy181
                     by_cases c177 : y178.length + y181.length < 17592186044416
                     ·
                      rw [if_pos c177] at H
                      have LMc177 := zA c177
                      clear c177
                      obtain ⟨y184, hy184⟩ : ∃ y_ : List Int, y_ = (y178 ++ y181) := ⟨_, rfl⟩
                      replace H : ((pianolalaw03_good.f k5 t119 y159 y184).bind fun t187 => (if t187 = true then (some false) else (pianolalaw03_PunchAdded.l3 k5 y165 t154 (wrap64 (x22_5 + 1)) t119 y159))) = some r := zqF hy184 H
                      have Ny184 := zA hy184
                      clear hy184
                      replace H := Option.bind_eq_some_iff.mp H
                      obtain ⟨t187, A1780, H⟩ := H
                      replace H : (if t187 = true then (some false) else (pianolalaw03_PunchAdded.l3 k5 y165 t154 (wrap64 (x22_5 + 1)) t119 y159)) = some r := H
                      have A178 := zA A1780
                      clear A1780
                      by_cases c179 : t187 = true
                      ·
                       subst c179
                       have H1 : (some false) = some r := by rw [if_pos rfl] at H; exact H
                       clear H; have H := H1; clear H1
                       exact absurd ((Option.some.inj H).trans HRT.out) (by decide)
                      ·
                       replace c179 := Bool.eq_false_iff.mpr c179
                       subst c179
                       have H1 : (pianolalaw03_PunchAdded.l3 k5 y165 t154 (wrap64 (x22_5 + 1)) t119 y159) = some r := by rw [if_neg (show ¬ (false = true) by decide)] at H; exact H
                       clear H; have H := H1; clear H1
                       have H' := zA H
                       clear H
                       try go_wp2
                       have n0_ := zA (Kd.R_drew HO_12.out); have n1_ := zA (Kd.R_drew HO_124001.out); have n2_ := zA (Kd.R_drew HO_136001.out); have n3_ := zA (blk_drew BK117.out); have n4_ := zA (blk_drew BK118.out); have n5_ := zA (blk_drew BK123.out); have n6_ := zA (blk_drew BK135.out); have n7_ := zA (blk_drew BK153.out); have n8_ := zA (below_drew1 HB.out); clear HO_12 HO_124001 HO_136001 BK117 BK118 BK123 BK135 BK153 HB; have HO_12 := n0_; have HO_124001 := n1_; have HO_136001 := n2_; have BK117 := n3_; have BK118 := n4_; have BK123 := n5_; have BK135 := n6_; have BK153 := n7_; have HB := n8_; clear n0_ n1_ n2_ n3_ n4_ n5_ n6_ n7_ n8_
                       have q193 : ((ji173) : Int) ≤ ((y165.length : Int) : Int) := of_decide_eq_true (zqD)
                       obtain ⟨i0193, hi0193, _, hsz193, _⟩ := info_parts info3
                       have hroom193 : y165.length ≤ co153 := (Kd.R_reads' HO_12.out).2.1
                       have hC193 : Kd.C (Kd.int .i64) _ Ao153 y165.length y165 := (Kd.R_reads' HO_12.out).2.2
                       have hcut193 := cut_to (P := Try.prog) 26 3 .i64 Try.underlying26 hi0193 Ao153 y165.length co153 (ji173) (of_decide_eq_true (zqD)) q193 hroom193
                       have hr193 := Kd.C_take (m := ((ji173) : Int).toNat) hC193 (by omega)
                       have hy193 : y174.length = ((ji173) : Int).toNat := (by rw [Ny174.out, List.length_take]; omega)
                       rw [← Ny174.out] at hr193
                       rw [← hy193] at hcut193
                       have HR177 := zA hr193
                       have HC177 := zA (show y174.length ≤ co153 from by omega)
                       clear hr193 hC193 hroom193 hi0193 hsz193
                       have KY193 := zA hy193
                       clear hy193
                       have KL193 := zA (show ((ji173) : Int).toNat ≤ y165.length from by omega)
                       replace q193 := eq_true q193
                       refine start_ (n := 12) (S := fun w' => w'.cell? ⟨gb135, 0, none⟩ = some (.int .i64 t119) ∧ w'.cell? ⟨gb135, 1, none⟩ = some (.slice Ao151 y159.length co151)) (ds := []) #[false, false, false, false, false, false, false, false, false, false, false, false] (by kernel_rfl) rfl rfl ⟨(blk_cell BK135.out 0).trans rfl, (blk_cell BK135.out 1).trans rfl⟩ (fun hHeld => ?_); refine with_tabW pianolalaw03_PunchAdded.tab33 pianolalaw03_PunchAdded.bits33 (fun HT_ HW_ => ?_)
                       generalize wr.drew = w192 at HO_12 HO_124001 HO_136001 BK117 BK118 BK123 BK135 BK153 HB HR177 hHeld ⊢
                       refine pure_ (i := 2) (N := some 187) (v := ?_) (a' := ?_) #[false, false, true, false, false, false, false, false, false, false, false, false] rfl rfl (any_of HT_.out (by kernel_rfl)) (fun _ _ _ h => h) (Or.inl ⟨by rfl, ?_⟩) ?_ ?_
                       rotate_left
                       ·
                        intro w'
                        go_simp
                        with_reducible rfl
                       rotate_left
                       · simp only [Act.put, setIfInBounds_toArray, set_cons_zero, set_cons_succ, i64_w, i32_w]; rfl
                       refine pure_ (i := 3) (N := some 188) (v := ?_) (a' := ?_) #[false, false, true, true, false, false, false, false, false, false, false, false] rfl rfl (any_of HT_.out (by kernel_rfl)) (fun _ _ _ h => h) (Or.inl ⟨by rfl, ?_⟩) ?_ ?_
                       rotate_left
                       ·
                        intro w'
                        go_simp
                        with_reducible rfl
                       rotate_left
                       · simp only [Act.put, setIfInBounds_toArray, set_cons_zero, set_cons_succ, i64_w, i32_w]; rfl
                       refine pure_ (i := 4) (N := some 189) (v := ?_) (a' := ?_) #[false, false, true, true, true, false, false, false, false, false, false, false] rfl rfl (any_of HT_.out (by kernel_rfl)) (fun _ _ _ h => h) (Or.inl ⟨by rfl, ?_⟩) ?_ ?_
                       rotate_left
                       ·
                        intro w'
                        go_simp
                        with_reducible rfl
                       rotate_left
                       · simp only [Act.put, setIfInBounds_toArray, set_cons_zero, set_cons_succ, i64_w, i32_w]; rfl
                       refine pure_ (i := 5) (N := some 190) (v := ?_) (a' := ?_) #[false, false, true, true, true, true, false, false, false, false, false, false] rfl rfl (any_of HT_.out (by kernel_rfl)) (fun _ _ _ h => h) (Or.inl ⟨by rfl, ?_⟩) ?_ ?_
                       rotate_left
                       ·
                        intro w'
                        go_simp
                        with_reducible rfl
                       rotate_left
                       · simp only [Act.put, setIfInBounds_toArray, set_cons_zero, set_cons_succ, i64_w, i32_w]; rfl
                       refine pure_ (i := 6) (N := some 191) (v := ?_) (a' := ?_) #[false, false, true, true, true, true, true, false, false, false, false, false] rfl rfl (any_of HT_.out (by kernel_rfl)) (fun _ _ _ h => h) (Or.inl ⟨by rfl, ?_⟩) ?_ ?_
                       rotate_left
                       ·
                        intro w'
                        go_simp
                        with_reducible rfl
                       rotate_left
                       · simp only [Act.put, setIfInBounds_toArray, set_cons_zero, set_cons_succ, i64_w, i32_w]; rfl
                       refine pure_ (i := 8) (N := some 193) (v := ?_) (a' := ?_) #[false, false, true, true, true, true, true, false, true, false, false, false] rfl rfl (any_of HT_.out (by kernel_rfl)) (fun _ _ _ h => h) (Or.inl ⟨by rfl, ?_⟩) ?_ ?_
                       rotate_left
                       ·
                        intro w'
                        go_simp
                        with_reducible rfl
                       rotate_left
                       · simp only [Act.put, setIfInBounds_toArray, set_cons_zero, set_cons_succ, i64_w, i32_w]; rfl
                       refine take_ (i := 0) (N := some 185) (v := ?_) (a' := ?_) #[true, false, true, true, true, true, true, false, true, false, false, false] rfl rfl (take_ofW HT_.out HW_.out (by kernel_rfl)) (fun _ _ _ h => h) (Or.inl ⟨by rfl, ?_⟩) hHeld ?_ ?_
                       rotate_left
                       ·
                        rintro w' ⟨s0, s1⟩
                        go_simp
                        with_reducible rfl
                       rotate_left
                       · simp only [Act.put, setIfInBounds_toArray, set_cons_zero, set_cons_succ, i64_w, i32_w]; rfl
                       refine join_ (σ := Value × Value × Value) 2 #[true, true, true, true, true, true, true, true, true, true, false, false] (fun s_ => [(186, s_.1), (192, s_.2.1), (194, s_.2.2)]) (fun s_ w' => (w'.cell? ⟨gb135, 0, none⟩ = some (.int .i64 t119) ∧ w'.cell? ⟨gb135, 1, none⟩ = some (.slice Ao151 y159.length co151)) ∧ (Kd.R (Kd.int .i64) 3 w' w.heap.size (fun k_ => some k_ ≠ (s_.2.2 : Value).ownBlock ∧ some k_ ≠ (.slice Ao153 y165.length co153 : Value).ownBlock) s_.2.1 y178) ∧ (Kd.R (Kd.int .i64) 3 w' w.heap.size (fun k_ => some k_ ≠ (s_.2.1 : Value).ownBlock ∧ some k_ ≠ (.slice Ao153 y165.length co153 : Value).ownBlock) s_.2.2 y181) ∧ (Kd.R (Kd.int .i64) 3 w' w.heap.size (fun k_ => some k_ ≠ (s_.2.1 : Value).ownBlock ∧ some k_ ≠ (s_.2.2 : Value).ownBlock) (.slice Ao153 y165.length co153) y165) ∧ (Kd.R k47 47 w' w.heap.size (fun k_ => some k_ ≠ (.slice Ao151 y159.length co151 : Value).ownBlock ∧ k_ ≠ gb153) (.slice Ao41 x124001_1.length co41) x124001_1) ∧ (Kd.R k47 47 w' w.heap.size (fun k_ => some k_ ≠ (.slice Ao41 x124001_1.length co41 : Value).ownBlock ∧ k_ ≠ gb153) (.slice Ao151 y159.length co151) y159) ∧ (w'.heap[gb117]? = some (.cells #[.int .u8 a0_0, .slice A0_1 l0_1.length c0_1] 74 (0, 0))) ∧ (w'.heap[gb118]? = some (.cells #[.int .u8 a1_0, .int .u8 a1_1] 82 (0, 0))) ∧ (w'.heap[gb123]? = some (.cells #[.int .i64 t119, .slice Ao41 x124001_1.length co41] 24 (0, 0))) ∧ (w'.heap[gb135]? = some (.cells #[.int .i64 t119, .slice Ao151 y159.length co151] 24 (0, 0))) ∧ (w'.heap[gb153]? = some (.cells #[.int .i64 (Int.tmod (wrap64 (a1_0)) 40), .int .i64 (wrap64 ((wrap64 ((Int.tmod (wrap64 (a1_0)) 40) + 1)) + (Int.tmod (wrap64 (a1_1)) 12)))] 47 (0, 0))) ∧ (Below w.heap.size w w')) ?_ ?_
                       rotate_left
                       ·
                        intro hCont
                        refine two_ (i := 1) (j := 9) (Ni := some 186) (Nj := some 194) #[true, true, true, true, true, true, true, false, true, false, false, false] #[true, false, true, true, true, true, true, false, true, true, false, false] rfl rfl rfl rfl (two_of HT_.out (by kernel_rfl)) (by decide) (by decide) (fun K hK => ?_) (fun K hK => ?_)
                        ·
                         refine Kd.R_lit_step (Kd.int .i64) _ 3 ?hg (N := 186) ?hd (xs := ([] : List Int)) (inner := []) (ok := fun _ => True) (okp := fun _ => True) ?hr ?hp (fun _ hk => hk) trivial (Below.refl _ _) (Nat.le_refl _) (by simp) ?_; (case hd => rfl); (case hg => rfl); (case hr => first | (go_simp; done) | (go_simp; rfl)); (case hp => exact (Reps.none _ _))
                         intro v172 w194 ho195 hb hg_ hnew_
                         clear hg_ hnew_
                         (first | rw [← Ny171.out] at ho195 | (simp only [Int.reduceToNat] at ho195; rw [← Ny171.out] at ho195))
                         have n0_ := zA (Kd.R_elder' (zqC HO_12.out) (Kd.R_base ho195) hb); have n1_ := zA (Kd.R_below (zqC HO_124001.out) hb); have n2_ := zA (Kd.R_below (zqC HO_136001.out) hb)
                         have n3_ := zA (Kd.R_lower (Kd.R_new' ho195 (Kd.R_lt (zqC HO_12.out))) (below_size (by repeat (first | (with_reducible first | exact HB.out | apply below_alloc | apply pw_below_drewN | apply below_drew1 | refine below_set ?_ GE117.out | refine below_set ?_ GE118.out | refine below_set ?_ GE123.out | refine below_set ?_ GE135.out | refine below_set ?_ GE153.out) | exact HB.out))))
                         have n4_ := zA (blk_below (g := gb117) (o := .cells #[.int .u8 a0_0, .slice A0_1 l0_1.length c0_1] 74 (0, 0)) (zqB BK117.out) hb); have n5_ := zA (blk_below (g := gb118) (o := .cells #[.int .u8 a1_0, .int .u8 a1_1] 82 (0, 0)) (zqB BK118.out) hb); have n6_ := zA (blk_below (g := gb123) (o := .cells #[.int .i64 t119, .slice Ao41 x124001_1.length co41] 24 (0, 0)) (zqB BK123.out) hb); have n7_ := zA (blk_below (g := gb135) (o := .cells #[.int .i64 t119, .slice Ao151 y159.length co151] 24 (0, 0)) (zqB BK135.out) hb); have n8_ := zA (blk_below (g := gb153) (o := .cells #[.int .i64 (Int.tmod (wrap64 (a1_0)) 40), .int .i64 (wrap64 ((wrap64 ((Int.tmod (wrap64 (a1_0)) 40) + 1)) + (Int.tmod (wrap64 (a1_1)) 12)))] 47 (0, 0)) (zqB BK153.out) hb)
                         have n9_ := zA (Kd.C_below (by repeat (first | (with_reducible exact HR177.out) | (with_reducible refine Kd.C_alloc ?_ _) | (with_reducible refine Kd.C_drewN ?_ _) | (with_reducible refine Kd.C_drew ?_) | exact HR177.out)) hb)
                         have n10_ := zA (below_step (by repeat (first | (with_reducible first | exact HB.out | apply below_alloc | apply pw_below_drewN | apply below_drew1 | refine below_set ?_ GE117.out | refine below_set ?_ GE118.out | refine below_set ?_ GE123.out | refine below_set ?_ GE135.out | refine below_set ?_ GE153.out) | exact HB.out)) hb)
                         clear HO_12 HO_124001 HO_136001 BK117 BK118 BK123 BK135 BK153 HR177 HB; have HO_12 := n0_; have HO_124001 := n1_; have HO_136001 := n2_; have HO173 := n3_; have BK117 := n4_; have BK118 := n5_; have BK123 := n6_; have BK135 := n7_; have BK153 := n8_; have HR177 := n9_; have HB := n10_; clear n0_ n1_ n2_ n3_ n4_ n5_ n6_ n7_ n8_ n9_ n10_ hb ho195
                         refine hK.out _ _ ⟨(blk_cell BK135.out 0).trans rfl, (blk_cell BK135.out 1).trans rfl⟩ (fun hHeld => ?_)
                         clear hK K; refine norm_ (a' := ?_) ?_ ?_; rotate_left
                         · show Act.put _ (some 186) _ = _; simp only [Act.put, setIfInBounds_toArray, set_cons_zero, set_cons_succ, i64_w, i32_w]; rfl
                         refine two_ (i := 7) (j := 9) (Ni := some 192) (Nj := some 194) #[true, true, true, true, true, true, true, true, true, false, false, false] #[true, true, true, true, true, true, true, false, true, true, false, false] rfl rfl rfl rfl (two_of HT_.out (by kernel_rfl)) (by decide) (by decide) (fun K hK => ?_) (fun K hK => ?_)
                         ·
                          refine Kd.R_append_rows_step (Kd.int .i64) (w0 := w) w.heap.size (by rfl) (.tmp 186) (.tmp 191) 26 3 (.int .i64 0) 8 rfl Try.underlying26 info3 rfl (by decide) (by omega) v172 y171 y174 _ _ _ (fun k_ => some k_ ≠ (.slice Ao153 y165.length co153 : Value).ownBlock) (fun _ => False) rfl rfl ?aO ?aR (fun _ _ h => h) (fun _ h => h.elim) ?aF ?aB ?aS ?aL ?_
                          (case aR => repeat (first | exact (by repeat (first | (with_reducible exact HR177.out) | (with_reducible refine Kd.C_alloc ?_ _) | (with_reducible refine Kd.C_drewN ?_ _) | (with_reducible refine Kd.C_drew ?_) | exact HR177.out)) | (with_reducible refine Kd.C_alloc ?_ _) | (with_reducible refine Kd.C_drewN ?_ _) | (with_reducible refine Kd.C_drew ?_)))
                          (case aB => exact (by repeat (first | (with_reducible first | exact HB.out | apply below_alloc | apply pw_below_drewN | apply below_drew1 | refine below_set ?_ GE117.out | refine below_set ?_ GE118.out | refine below_set ?_ GE123.out | refine below_set ?_ GE135.out | refine below_set ?_ GE153.out) | exact HB.out)))
                          (case aF => exact (fun k_ hk => Kd.fresh' (Kd.R_lt (zqC HO_12.out)) k_ hk))
                          (case aO => exact (by (with_reducible repeat (first | apply Kd.R_alloc | apply Kd.R_drewN | apply Kd.R_drew)); exact Kd.R_mono HO173.out (fun _ hk => hk.2)))
                          (case aS => exact (below_size (by repeat (first | (with_reducible first | exact HB.out | apply below_alloc | apply pw_below_drewN | apply below_drew1 | refine below_set ?_ GE117.out | refine below_set ?_ GE118.out | refine below_set ?_ GE123.out | refine below_set ?_ GE135.out | refine below_set ?_ GE153.out) | exact HB.out))))
                          (case aL => have := LMc176.out; omega)
                          intro v179 w196 ho hb hg hat
                          rw [← Ny178.out] at ho
                          have n0_ := zA (Kd.R_after (ok := (fun _ => True)) (zqC HO_12.out) hg hat); have n1_ := zA (Kd.R_over' (zqC HO_124001.out) (Kd.R_typed (zqC HO173.out)) (by decide) hg); have n2_ := zA (Kd.R_over' (zqC HO_136001.out) (Kd.R_typed (zqC HO173.out)) (by decide) hg); have n3_ := zA (blk_grown (g := gb117) (o := .cells #[.int .u8 a0_0, .slice A0_1 l0_1.length c0_1] 74 (0, 0)) (zqB BK117.out) hg (Kd.R_ne HO173.out BK117.out (by decide))); have n4_ := zA (blk_grown (g := gb118) (o := .cells #[.int .u8 a1_0, .int .u8 a1_1] 82 (0, 0)) (zqB BK118.out) hg (Kd.R_ne HO173.out BK118.out (by decide))); have n5_ := zA (blk_grown (g := gb123) (o := .cells #[.int .i64 t119, .slice Ao41 x124001_1.length co41] 24 (0, 0)) (zqB BK123.out) hg (Kd.R_ne HO173.out BK123.out (by decide))); have n6_ := zA (blk_grown (g := gb135) (o := .cells #[.int .i64 t119, .slice Ao151 y159.length co151] 24 (0, 0)) (zqB BK135.out) hg (Kd.R_ne HO173.out BK135.out (by decide))); have n7_ := zA (blk_grown (g := gb153) (o := .cells #[.int .i64 (Int.tmod (wrap64 (a1_0)) 40), .int .i64 (wrap64 ((wrap64 ((Int.tmod (wrap64 (a1_0)) 40) + 1)) + (Int.tmod (wrap64 (a1_1)) 12)))] 47 (0, 0)) (zqB BK153.out) hg (Kd.R_ne HO173.out BK153.out (by decide))); have n8_ := zA (hb)
                          have n9_ := zA ((show Kd.C (Kd.int .i64) w196 Ao153 y174.length y174 from by rw [Ny174.out]; exact Kd.C_take (m := ((ji173) : Int).toNat) ((Kd.R_reads' (Kd.R_after (ok := (fun _ => True)) (zqC HO_12.out) hg hat)).2.2) KL193.out))
                          have n10_ := zA (ho); clear HO_12 HO_124001 HO_136001 BK117 BK118 BK123 BK135 BK153 HB HR177 HO173; have HO_12 := n0_; have HO_124001 := n1_; have HO_136001 := n2_; have BK117 := n3_; have BK118 := n4_; have BK123 := n5_; have BK135 := n6_; have BK153 := n7_; have HB := n8_; have HR177 := n9_; have HO180 := n10_; clear n0_ n1_ n2_ n3_ n4_ n5_ n6_ n7_ n8_ n9_ n10_ ho hb hg hat
                          refine hK.out _ _ ⟨(blk_cell BK135.out 0).trans rfl, (blk_cell BK135.out 1).trans rfl⟩ (fun hHeld => ?_)
                          clear hK K; refine norm_ (a' := ?_) ?_ ?_; rotate_left
                          · show Act.put _ (some 192) _ = _; simp only [Act.put, setIfInBounds_toArray, set_cons_zero, set_cons_succ, i64_w, i32_w]; rfl
                          refine one_ (i := 9) (N := some 194) #[true, true, true, true, true, true, true, true, true, true, false, false] rfl rfl (one_of HT_.out (by kernel_rfl)) (by decide) (fun K hK => ?_)
                          refine Kd.R_lit_step (Kd.int .i64) _ 3 ?hg (N := 194) ?hd (xs := ([x22_5] : List Int)) (inner := [.int .i64 x22_5]) (ok := fun _ => True) (okp := fun _ => True) ?hr ?hp (fun _ hk => hk) trivial (Below.refl _ _) (Nat.le_refl _) (by simp) ?_; (case hd => rfl); (case hg => rfl); (case hr => first | (go_simp; done) | (go_simp; rfl)); (case hp => exact (Reps.one (show Kd.M (Kd.int .i64) _ _ _ x22_5 [.int .i64 x22_5] from rfl) (Reps.none _ _)))
                          intro v182 w197 ho198 hb hg_ hnew_
                          clear hg_ hnew_
                          (first | rw [← Ny181.out] at ho198 | (simp only [Int.reduceToNat] at ho198; rw [← Ny181.out] at ho198))
                          have n0_ := zA (Kd.R_elder' (zqC HO_12.out) (Kd.R_base ho198) hb); have n1_ := zA (Kd.R_below (zqC HO_124001.out) hb); have n2_ := zA (Kd.R_below (zqC HO_136001.out) hb); have n3_ := zA (Kd.R_elder' (zqC HO180.out) (Kd.R_base ho198) hb)
                          have n4_ := zA (Kd.R_lower (Kd.R_new' (Kd.R_new' ho198 (Kd.R_lt (zqC HO_12.out))) (Kd.R_lt (zqC HO180.out))) (below_size (by repeat (first | (with_reducible first | exact HB.out | apply below_alloc | apply pw_below_drewN | apply below_drew1 | refine below_set ?_ GE117.out | refine below_set ?_ GE118.out | refine below_set ?_ GE123.out | refine below_set ?_ GE135.out | refine below_set ?_ GE153.out) | exact HB.out))))
                          have n5_ := zA (blk_below (g := gb117) (o := .cells #[.int .u8 a0_0, .slice A0_1 l0_1.length c0_1] 74 (0, 0)) (zqB BK117.out) hb); have n6_ := zA (blk_below (g := gb118) (o := .cells #[.int .u8 a1_0, .int .u8 a1_1] 82 (0, 0)) (zqB BK118.out) hb); have n7_ := zA (blk_below (g := gb123) (o := .cells #[.int .i64 t119, .slice Ao41 x124001_1.length co41] 24 (0, 0)) (zqB BK123.out) hb); have n8_ := zA (blk_below (g := gb135) (o := .cells #[.int .i64 t119, .slice Ao151 y159.length co151] 24 (0, 0)) (zqB BK135.out) hb); have n9_ := zA (blk_below (g := gb153) (o := .cells #[.int .i64 (Int.tmod (wrap64 (a1_0)) 40), .int .i64 (wrap64 ((wrap64 ((Int.tmod (wrap64 (a1_0)) 40) + 1)) + (Int.tmod (wrap64 (a1_1)) 12)))] 47 (0, 0)) (zqB BK153.out) hb)
                          have n10_ := zA (Kd.C_below (by repeat (first | (with_reducible exact HR177.out) | (with_reducible refine Kd.C_alloc ?_ _) | (with_reducible refine Kd.C_drewN ?_ _) | (with_reducible refine Kd.C_drew ?_) | exact HR177.out)) hb)
                          have n11_ := zA (below_step (by repeat (first | (with_reducible first | exact HB.out | apply below_alloc | apply pw_below_drewN | apply below_drew1 | refine below_set ?_ GE117.out | refine below_set ?_ GE118.out | refine below_set ?_ GE123.out | refine below_set ?_ GE135.out | refine below_set ?_ GE153.out) | exact HB.out)) hb)
                          clear HO_12 HO_124001 HO_136001 HO180 BK117 BK118 BK123 BK135 BK153 HR177 HB; have HO_12 := n0_; have HO_124001 := n1_; have HO_136001 := n2_; have HO180 := n3_; have HO183 := n4_; have BK117 := n5_; have BK118 := n6_; have BK123 := n7_; have BK135 := n8_; have BK153 := n9_; have HR177 := n10_; have HB := n11_; clear n0_ n1_ n2_ n3_ n4_ n5_ n6_ n7_ n8_ n9_ n10_ n11_ hb ho198
                          refine hK.out _ _ ⟨(blk_cell BK135.out 0).trans rfl, (blk_cell BK135.out 1).trans rfl⟩ (fun hHeld => ?_)
                          clear hK K; refine norm_ (a' := ?_) ?_ ?_; rotate_left
                          · show Act.put _ (some 194) _ = _; simp only [Act.put, setIfInBounds_toArray, set_cons_zero, set_cons_succ, i64_w, i32_w]; rfl
                          exact norm_ (by simp only [putAll, Act.put, setIfInBounds_toArray, set_cons_zero, set_cons_succ]) (hCont (v172, v179, v182) _ ⟨hHeld, (by (with_reducible repeat (first | apply Kd.R_alloc | apply Kd.R_drewN | apply Kd.R_drew)); exact Kd.R_mono HO180.out (fun _ hk => ⟨hk.2, hk.1⟩)), (by (with_reducible repeat (first | apply Kd.R_alloc | apply Kd.R_drewN | apply Kd.R_drew)); exact Kd.R_mono HO183.out (fun _ hk => ⟨hk.2, hk.1.2⟩)), (by (with_reducible repeat (first | apply Kd.R_alloc | apply Kd.R_drewN | apply Kd.R_drew)); exact Kd.R_mono HO_12.out (fun _ hk => ⟨hk.1.2, hk.2⟩)), (zqC HO_124001.out), (zqC HO_136001.out), (zqB BK117.out), (zqB BK118.out), (zqB BK123.out), (zqB BK135.out), (zqB BK153.out), (by repeat (first | (with_reducible first | exact HB.out | apply below_alloc | apply pw_below_drewN | apply below_drew1 | refine below_set ?_ GE117.out | refine below_set ?_ GE118.out | refine below_set ?_ GE123.out | refine below_set ?_ GE135.out | refine below_set ?_ GE153.out) | exact HB.out))⟩)
                         ·
                          refine Kd.R_lit_step (Kd.int .i64) _ 3 ?hg (N := 194) ?hd (xs := ([x22_5] : List Int)) (inner := [.int .i64 x22_5]) (ok := fun _ => True) (okp := fun _ => True) ?hr ?hp (fun _ hk => hk) trivial (Below.refl _ _) (Nat.le_refl _) (by simp) ?_; (case hd => rfl); (case hg => rfl); (case hr => first | (go_simp; done) | (go_simp; rfl)); (case hp => exact (Reps.one (show Kd.M (Kd.int .i64) _ _ _ x22_5 [.int .i64 x22_5] from rfl) (Reps.none _ _)))
                          intro v182 w196 ho197 hb hg_ hnew_
                          clear hg_ hnew_
                          (first | rw [← Ny181.out] at ho197 | (simp only [Int.reduceToNat] at ho197; rw [← Ny181.out] at ho197))
                          have n0_ := zA (Kd.R_elder' (zqC HO_12.out) (Kd.R_base ho197) hb); have n1_ := zA (Kd.R_below (zqC HO_124001.out) hb); have n2_ := zA (Kd.R_below (zqC HO_136001.out) hb); have n3_ := zA (Kd.R_elder' (zqC HO173.out) (Kd.R_base ho197) hb)
                          have n4_ := zA (Kd.R_lower (Kd.R_new' (Kd.R_new' ho197 (Kd.R_lt (zqC HO_12.out))) (Kd.R_lt (zqC HO173.out))) (below_size (by repeat (first | (with_reducible first | exact HB.out | apply below_alloc | apply pw_below_drewN | apply below_drew1 | refine below_set ?_ GE117.out | refine below_set ?_ GE118.out | refine below_set ?_ GE123.out | refine below_set ?_ GE135.out | refine below_set ?_ GE153.out) | exact HB.out))))
                          have n5_ := zA (blk_below (g := gb117) (o := .cells #[.int .u8 a0_0, .slice A0_1 l0_1.length c0_1] 74 (0, 0)) (zqB BK117.out) hb); have n6_ := zA (blk_below (g := gb118) (o := .cells #[.int .u8 a1_0, .int .u8 a1_1] 82 (0, 0)) (zqB BK118.out) hb); have n7_ := zA (blk_below (g := gb123) (o := .cells #[.int .i64 t119, .slice Ao41 x124001_1.length co41] 24 (0, 0)) (zqB BK123.out) hb); have n8_ := zA (blk_below (g := gb135) (o := .cells #[.int .i64 t119, .slice Ao151 y159.length co151] 24 (0, 0)) (zqB BK135.out) hb); have n9_ := zA (blk_below (g := gb153) (o := .cells #[.int .i64 (Int.tmod (wrap64 (a1_0)) 40), .int .i64 (wrap64 ((wrap64 ((Int.tmod (wrap64 (a1_0)) 40) + 1)) + (Int.tmod (wrap64 (a1_1)) 12)))] 47 (0, 0)) (zqB BK153.out) hb)
                          have n10_ := zA (Kd.C_below (by repeat (first | (with_reducible exact HR177.out) | (with_reducible refine Kd.C_alloc ?_ _) | (with_reducible refine Kd.C_drewN ?_ _) | (with_reducible refine Kd.C_drew ?_) | exact HR177.out)) hb)
                          have n11_ := zA (below_step (by repeat (first | (with_reducible first | exact HB.out | apply below_alloc | apply pw_below_drewN | apply below_drew1 | refine below_set ?_ GE117.out | refine below_set ?_ GE118.out | refine below_set ?_ GE123.out | refine below_set ?_ GE135.out | refine below_set ?_ GE153.out) | exact HB.out)) hb)
                          clear HO_12 HO_124001 HO_136001 HO173 BK117 BK118 BK123 BK135 BK153 HR177 HB; have HO_12 := n0_; have HO_124001 := n1_; have HO_136001 := n2_; have HO173 := n3_; have HO183 := n4_; have BK117 := n5_; have BK118 := n6_; have BK123 := n7_; have BK135 := n8_; have BK153 := n9_; have HR177 := n10_; have HB := n11_; clear n0_ n1_ n2_ n3_ n4_ n5_ n6_ n7_ n8_ n9_ n10_ n11_ hb ho197
                          refine hK.out _ _ ⟨(blk_cell BK135.out 0).trans rfl, (blk_cell BK135.out 1).trans rfl⟩ (fun hHeld => ?_)
                          clear hK K; refine norm_ (a' := ?_) ?_ ?_; rotate_left
                          · show Act.put _ (some 194) _ = _; simp only [Act.put, setIfInBounds_toArray, set_cons_zero, set_cons_succ, i64_w, i32_w]; rfl
                          refine one_ (i := 7) (N := some 192) #[true, true, true, true, true, true, true, true, true, true, false, false] rfl rfl (one_of HT_.out (by kernel_rfl)) (by decide) (fun K hK => ?_)
                          refine Kd.R_append_rows_step (Kd.int .i64) (w0 := w) w.heap.size (by rfl) (.tmp 186) (.tmp 191) 26 3 (.int .i64 0) 8 rfl Try.underlying26 info3 rfl (by decide) (by omega) v172 y171 y174 _ _ _ (fun k_ => some k_ ≠ (.slice Ao153 y165.length co153 : Value).ownBlock ∧ some k_ ≠ (v182 : Value).ownBlock) (fun _ => False) rfl rfl ?aO ?aR (fun _ _ h => h) (fun _ h => h.elim) ?aF ?aB ?aS ?aL ?_
                          (case aR => repeat (first | exact (by repeat (first | (with_reducible exact HR177.out) | (with_reducible refine Kd.C_alloc ?_ _) | (with_reducible refine Kd.C_drewN ?_ _) | (with_reducible refine Kd.C_drew ?_) | exact HR177.out)) | (with_reducible refine Kd.C_alloc ?_ _) | (with_reducible refine Kd.C_drewN ?_ _) | (with_reducible refine Kd.C_drew ?_)))
                          (case aB => exact (by repeat (first | (with_reducible first | exact HB.out | apply below_alloc | apply pw_below_drewN | apply below_drew1 | refine below_set ?_ GE117.out | refine below_set ?_ GE118.out | refine below_set ?_ GE123.out | refine below_set ?_ GE135.out | refine below_set ?_ GE153.out) | exact HB.out)))
                          (case aF => exact (fun k_ hk => ⟨Kd.fresh' (Kd.R_lt (zqC HO_12.out)) k_ hk, Kd.fresh' (Kd.R_lt (zqC HO183.out)) k_ hk⟩))
                          (case aO => exact (by (with_reducible repeat (first | apply Kd.R_alloc | apply Kd.R_drewN | apply Kd.R_drew)); exact Kd.R_mono HO173.out (fun _ hk => ⟨hk.1.2, hk.2⟩)))
                          (case aS => exact (below_size (by repeat (first | (with_reducible first | exact HB.out | apply below_alloc | apply pw_below_drewN | apply below_drew1 | refine below_set ?_ GE117.out | refine below_set ?_ GE118.out | refine below_set ?_ GE123.out | refine below_set ?_ GE135.out | refine below_set ?_ GE153.out) | exact HB.out))))
                          (case aL => have := LMc176.out; omega)
                          intro v179 w198 ho hb hg hat
                          rw [← Ny178.out] at ho
                          have n0_ := zA (Kd.R_after (ok := (fun k_ => some k_ ≠ (v182 : Value).ownBlock)) (by (with_reducible repeat (first | apply Kd.R_alloc | apply Kd.R_drewN | apply Kd.R_drew)); exact Kd.R_mono HO_12.out (fun _ hk => ⟨hk.2, hk.1.2⟩)) hg hat)
                          have n1_ := zA (Kd.R_over' (zqC HO_124001.out) (Kd.R_typed (zqC HO173.out)) (by decide) hg); have n2_ := zA (Kd.R_over' (zqC HO_136001.out) (Kd.R_typed (zqC HO173.out)) (by decide) hg); have n3_ := zA (blk_grown (g := gb117) (o := .cells #[.int .u8 a0_0, .slice A0_1 l0_1.length c0_1] 74 (0, 0)) (zqB BK117.out) hg (Kd.R_ne HO173.out BK117.out (by decide))); have n4_ := zA (blk_grown (g := gb118) (o := .cells #[.int .u8 a1_0, .int .u8 a1_1] 82 (0, 0)) (zqB BK118.out) hg (Kd.R_ne HO173.out BK118.out (by decide))); have n5_ := zA (blk_grown (g := gb123) (o := .cells #[.int .i64 t119, .slice Ao41 x124001_1.length co41] 24 (0, 0)) (zqB BK123.out) hg (Kd.R_ne HO173.out BK123.out (by decide))); have n6_ := zA (blk_grown (g := gb135) (o := .cells #[.int .i64 t119, .slice Ao151 y159.length co151] 24 (0, 0)) (zqB BK135.out) hg (Kd.R_ne HO173.out BK135.out (by decide))); have n7_ := zA (blk_grown (g := gb153) (o := .cells #[.int .i64 (Int.tmod (wrap64 (a1_0)) 40), .int .i64 (wrap64 ((wrap64 ((Int.tmod (wrap64 (a1_0)) 40) + 1)) + (Int.tmod (wrap64 (a1_1)) 12)))] 47 (0, 0)) (zqB BK153.out) hg (Kd.R_ne HO173.out BK153.out (by decide)))
                          have n8_ := zA (Kd.R_after (ok := (fun k_ => some k_ ≠ (.slice Ao153 y165.length co153 : Value).ownBlock)) (by (with_reducible repeat (first | apply Kd.R_alloc | apply Kd.R_drewN | apply Kd.R_drew)); exact Kd.R_mono HO183.out (fun _ hk => ⟨hk.1.2, hk.2⟩)) hg hat)
                          have n9_ := zA (hb)
                          have n10_ := zA ((show Kd.C (Kd.int .i64) w198 Ao153 y174.length y174 from by rw [Ny174.out]; exact Kd.C_take (m := ((ji173) : Int).toNat) ((Kd.R_reads' (Kd.R_after (ok := (fun k_ => some k_ ≠ (v182 : Value).ownBlock)) (by (with_reducible repeat (first | apply Kd.R_alloc | apply Kd.R_drewN | apply Kd.R_drew)); exact Kd.R_mono HO_12.out (fun _ hk => ⟨hk.2, hk.1.2⟩)) hg hat)).2.2) KL193.out))
                          have n11_ := zA (ho); clear HO_12 HO_124001 HO_136001 BK117 BK118 BK123 BK135 BK153 HO183 HB HR177 HO173; have HO_12 := n0_; have HO_124001 := n1_; have HO_136001 := n2_; have BK117 := n3_; have BK118 := n4_; have BK123 := n5_; have BK135 := n6_; have BK153 := n7_; have HO183 := n8_; have HB := n9_; have HR177 := n10_; have HO180 := n11_; clear n0_ n1_ n2_ n3_ n4_ n5_ n6_ n7_ n8_ n9_ n10_ n11_ ho hb hg hat
                          refine hK.out _ _ ⟨(blk_cell BK135.out 0).trans rfl, (blk_cell BK135.out 1).trans rfl⟩ (fun hHeld => ?_)
                          clear hK K; refine norm_ (a' := ?_) ?_ ?_; rotate_left
                          · show Act.put _ (some 192) _ = _; simp only [Act.put, setIfInBounds_toArray, set_cons_zero, set_cons_succ, i64_w, i32_w]; rfl
                          exact norm_ (by simp only [putAll, Act.put, setIfInBounds_toArray, set_cons_zero, set_cons_succ]) (hCont (v172, v179, v182) _ ⟨hHeld, (by (with_reducible repeat (first | apply Kd.R_alloc | apply Kd.R_drewN | apply Kd.R_drew)); exact Kd.R_mono HO180.out (fun _ hk => ⟨hk.2, hk.1⟩)), (by (with_reducible repeat (first | apply Kd.R_alloc | apply Kd.R_drewN | apply Kd.R_drew)); exact Kd.R_mono HO183.out (fun _ hk => ⟨hk.2, hk.1⟩)), (by (with_reducible repeat (first | apply Kd.R_alloc | apply Kd.R_drewN | apply Kd.R_drew)); exact Kd.R_mono HO_12.out (fun _ hk => ⟨hk.2, hk.1⟩)), (zqC HO_124001.out), (zqC HO_136001.out), (zqB BK117.out), (zqB BK118.out), (zqB BK123.out), (zqB BK135.out), (zqB BK153.out), (by repeat (first | (with_reducible first | exact HB.out | apply below_alloc | apply pw_below_drewN | apply below_drew1 | refine below_set ?_ GE117.out | refine below_set ?_ GE118.out | refine below_set ?_ GE123.out | refine below_set ?_ GE135.out | refine below_set ?_ GE153.out) | exact HB.out))⟩)
                        ·
                         refine Kd.R_lit_step (Kd.int .i64) _ 3 ?hg (N := 194) ?hd (xs := ([x22_5] : List Int)) (inner := [.int .i64 x22_5]) (ok := fun _ => True) (okp := fun _ => True) ?hr ?hp (fun _ hk => hk) trivial (Below.refl _ _) (Nat.le_refl _) (by simp) ?_; (case hd => rfl); (case hg => rfl); (case hr => first | (go_simp; done) | (go_simp; rfl)); (case hp => exact (Reps.one (show Kd.M (Kd.int .i64) _ _ _ x22_5 [.int .i64 x22_5] from rfl) (Reps.none _ _)))
                         intro v182 w194 ho195 hb hg_ hnew_
                         clear hg_ hnew_
                         (first | rw [← Ny181.out] at ho195 | (simp only [Int.reduceToNat] at ho195; rw [← Ny181.out] at ho195))
                         have n0_ := zA (Kd.R_elder' (zqC HO_12.out) (Kd.R_base ho195) hb); have n1_ := zA (Kd.R_below (zqC HO_124001.out) hb); have n2_ := zA (Kd.R_below (zqC HO_136001.out) hb)
                         have n3_ := zA (Kd.R_lower (Kd.R_new' ho195 (Kd.R_lt (zqC HO_12.out))) (below_size (by repeat (first | (with_reducible first | exact HB.out | apply below_alloc | apply pw_below_drewN | apply below_drew1 | refine below_set ?_ GE117.out | refine below_set ?_ GE118.out | refine below_set ?_ GE123.out | refine below_set ?_ GE135.out | refine below_set ?_ GE153.out) | exact HB.out))))
                         have n4_ := zA (blk_below (g := gb117) (o := .cells #[.int .u8 a0_0, .slice A0_1 l0_1.length c0_1] 74 (0, 0)) (zqB BK117.out) hb); have n5_ := zA (blk_below (g := gb118) (o := .cells #[.int .u8 a1_0, .int .u8 a1_1] 82 (0, 0)) (zqB BK118.out) hb); have n6_ := zA (blk_below (g := gb123) (o := .cells #[.int .i64 t119, .slice Ao41 x124001_1.length co41] 24 (0, 0)) (zqB BK123.out) hb); have n7_ := zA (blk_below (g := gb135) (o := .cells #[.int .i64 t119, .slice Ao151 y159.length co151] 24 (0, 0)) (zqB BK135.out) hb); have n8_ := zA (blk_below (g := gb153) (o := .cells #[.int .i64 (Int.tmod (wrap64 (a1_0)) 40), .int .i64 (wrap64 ((wrap64 ((Int.tmod (wrap64 (a1_0)) 40) + 1)) + (Int.tmod (wrap64 (a1_1)) 12)))] 47 (0, 0)) (zqB BK153.out) hb)
                         have n9_ := zA (Kd.C_below (by repeat (first | (with_reducible exact HR177.out) | (with_reducible refine Kd.C_alloc ?_ _) | (with_reducible refine Kd.C_drewN ?_ _) | (with_reducible refine Kd.C_drew ?_) | exact HR177.out)) hb)
                         have n10_ := zA (below_step (by repeat (first | (with_reducible first | exact HB.out | apply below_alloc | apply pw_below_drewN | apply below_drew1 | refine below_set ?_ GE117.out | refine below_set ?_ GE118.out | refine below_set ?_ GE123.out | refine below_set ?_ GE135.out | refine below_set ?_ GE153.out) | exact HB.out)) hb)
                         clear HO_12 HO_124001 HO_136001 BK117 BK118 BK123 BK135 BK153 HR177 HB; have HO_12 := n0_; have HO_124001 := n1_; have HO_136001 := n2_; have HO183 := n3_; have BK117 := n4_; have BK118 := n5_; have BK123 := n6_; have BK135 := n7_; have BK153 := n8_; have HR177 := n9_; have HB := n10_; clear n0_ n1_ n2_ n3_ n4_ n5_ n6_ n7_ n8_ n9_ n10_ hb ho195
                         refine hK.out _ _ ⟨(blk_cell BK135.out 0).trans rfl, (blk_cell BK135.out 1).trans rfl⟩ (fun hHeld => ?_)
                         clear hK K; refine norm_ (a' := ?_) ?_ ?_; rotate_left
                         · show Act.put _ (some 194) _ = _; simp only [Act.put, setIfInBounds_toArray, set_cons_zero, set_cons_succ, i64_w, i32_w]; rfl
                         refine one_ (i := 1) (N := some 186) #[true, true, true, true, true, true, true, false, true, true, false, false] rfl rfl (one_of HT_.out (by kernel_rfl)) (by decide) (fun K hK => ?_)
                         refine Kd.R_lit_step (Kd.int .i64) _ 3 ?hg (N := 186) ?hd (xs := ([] : List Int)) (inner := []) (ok := fun _ => True) (okp := fun _ => True) ?hr ?hp (fun _ hk => hk) trivial (Below.refl _ _) (Nat.le_refl _) (by simp) ?_; (case hd => rfl); (case hg => rfl); (case hr => first | (go_simp; done) | (go_simp; rfl)); (case hp => exact (Reps.none _ _))
                         intro v172 w196 ho197 hb hg_ hnew_
                         clear hg_ hnew_
                         (first | rw [← Ny171.out] at ho197 | (simp only [Int.reduceToNat] at ho197; rw [← Ny171.out] at ho197))
                         have n0_ := zA (Kd.R_elder' (zqC HO_12.out) (Kd.R_base ho197) hb); have n1_ := zA (Kd.R_below (zqC HO_124001.out) hb); have n2_ := zA (Kd.R_below (zqC HO_136001.out) hb); have n3_ := zA (Kd.R_elder' (zqC HO183.out) (Kd.R_base ho197) hb)
                         have n4_ := zA (Kd.R_lower (Kd.R_new' (Kd.R_new' ho197 (Kd.R_lt (zqC HO_12.out))) (Kd.R_lt (zqC HO183.out))) (below_size (by repeat (first | (with_reducible first | exact HB.out | apply below_alloc | apply pw_below_drewN | apply below_drew1 | refine below_set ?_ GE117.out | refine below_set ?_ GE118.out | refine below_set ?_ GE123.out | refine below_set ?_ GE135.out | refine below_set ?_ GE153.out) | exact HB.out))))
                         have n5_ := zA (blk_below (g := gb117) (o := .cells #[.int .u8 a0_0, .slice A0_1 l0_1.length c0_1] 74 (0, 0)) (zqB BK117.out) hb); have n6_ := zA (blk_below (g := gb118) (o := .cells #[.int .u8 a1_0, .int .u8 a1_1] 82 (0, 0)) (zqB BK118.out) hb); have n7_ := zA (blk_below (g := gb123) (o := .cells #[.int .i64 t119, .slice Ao41 x124001_1.length co41] 24 (0, 0)) (zqB BK123.out) hb); have n8_ := zA (blk_below (g := gb135) (o := .cells #[.int .i64 t119, .slice Ao151 y159.length co151] 24 (0, 0)) (zqB BK135.out) hb); have n9_ := zA (blk_below (g := gb153) (o := .cells #[.int .i64 (Int.tmod (wrap64 (a1_0)) 40), .int .i64 (wrap64 ((wrap64 ((Int.tmod (wrap64 (a1_0)) 40) + 1)) + (Int.tmod (wrap64 (a1_1)) 12)))] 47 (0, 0)) (zqB BK153.out) hb)
                         have n10_ := zA (Kd.C_below (by repeat (first | (with_reducible exact HR177.out) | (with_reducible refine Kd.C_alloc ?_ _) | (with_reducible refine Kd.C_drewN ?_ _) | (with_reducible refine Kd.C_drew ?_) | exact HR177.out)) hb)
                         have n11_ := zA (below_step (by repeat (first | (with_reducible first | exact HB.out | apply below_alloc | apply pw_below_drewN | apply below_drew1 | refine below_set ?_ GE117.out | refine below_set ?_ GE118.out | refine below_set ?_ GE123.out | refine below_set ?_ GE135.out | refine below_set ?_ GE153.out) | exact HB.out)) hb)
                         clear HO_12 HO_124001 HO_136001 HO183 BK117 BK118 BK123 BK135 BK153 HR177 HB; have HO_12 := n0_; have HO_124001 := n1_; have HO_136001 := n2_; have HO183 := n3_; have HO173 := n4_; have BK117 := n5_; have BK118 := n6_; have BK123 := n7_; have BK135 := n8_; have BK153 := n9_; have HR177 := n10_; have HB := n11_; clear n0_ n1_ n2_ n3_ n4_ n5_ n6_ n7_ n8_ n9_ n10_ n11_ hb ho197
                         refine hK.out _ _ ⟨(blk_cell BK135.out 0).trans rfl, (blk_cell BK135.out 1).trans rfl⟩ (fun hHeld => ?_)
                         clear hK K; refine norm_ (a' := ?_) ?_ ?_; rotate_left
                         · show Act.put _ (some 186) _ = _; simp only [Act.put, setIfInBounds_toArray, set_cons_zero, set_cons_succ, i64_w, i32_w]; rfl
                         refine one_ (i := 7) (N := some 192) #[true, true, true, true, true, true, true, true, true, true, false, false] rfl rfl (one_of HT_.out (by kernel_rfl)) (by decide) (fun K hK => ?_)
                         refine Kd.R_append_rows_step (Kd.int .i64) (w0 := w) w.heap.size (by rfl) (.tmp 186) (.tmp 191) 26 3 (.int .i64 0) 8 rfl Try.underlying26 info3 rfl (by decide) (by omega) v172 y171 y174 _ _ _ (fun k_ => some k_ ≠ (.slice Ao153 y165.length co153 : Value).ownBlock ∧ some k_ ≠ (v182 : Value).ownBlock) (fun _ => False) rfl rfl ?aO ?aR (fun _ _ h => h) (fun _ h => h.elim) ?aF ?aB ?aS ?aL ?_
                         (case aR => repeat (first | exact (by repeat (first | (with_reducible exact HR177.out) | (with_reducible refine Kd.C_alloc ?_ _) | (with_reducible refine Kd.C_drewN ?_ _) | (with_reducible refine Kd.C_drew ?_) | exact HR177.out)) | (with_reducible refine Kd.C_alloc ?_ _) | (with_reducible refine Kd.C_drewN ?_ _) | (with_reducible refine Kd.C_drew ?_)))
                         (case aB => exact (by repeat (first | (with_reducible first | exact HB.out | apply below_alloc | apply pw_below_drewN | apply below_drew1 | refine below_set ?_ GE117.out | refine below_set ?_ GE118.out | refine below_set ?_ GE123.out | refine below_set ?_ GE135.out | refine below_set ?_ GE153.out) | exact HB.out)))
                         (case aF => exact (fun k_ hk => ⟨Kd.fresh' (Kd.R_lt (zqC HO_12.out)) k_ hk, Kd.fresh' (Kd.R_lt (zqC HO183.out)) k_ hk⟩))
                         (case aO => exact (by (with_reducible repeat (first | apply Kd.R_alloc | apply Kd.R_drewN | apply Kd.R_drew)); exact Kd.R_mono HO173.out (fun _ hk => ⟨hk.1.2, hk.2⟩)))
                         (case aS => exact (below_size (by repeat (first | (with_reducible first | exact HB.out | apply below_alloc | apply pw_below_drewN | apply below_drew1 | refine below_set ?_ GE117.out | refine below_set ?_ GE118.out | refine below_set ?_ GE123.out | refine below_set ?_ GE135.out | refine below_set ?_ GE153.out) | exact HB.out))))
                         (case aL => have := LMc176.out; omega)
                         intro v179 w198 ho hb hg hat
                         rw [← Ny178.out] at ho
                         have n0_ := zA (Kd.R_after (ok := (fun k_ => some k_ ≠ (v182 : Value).ownBlock)) (by (with_reducible repeat (first | apply Kd.R_alloc | apply Kd.R_drewN | apply Kd.R_drew)); exact Kd.R_mono HO_12.out (fun _ hk => ⟨hk.1.2, hk.2⟩)) hg hat)
                         have n1_ := zA (Kd.R_over' (zqC HO_124001.out) (Kd.R_typed (zqC HO173.out)) (by decide) hg); have n2_ := zA (Kd.R_over' (zqC HO_136001.out) (Kd.R_typed (zqC HO173.out)) (by decide) hg); have n3_ := zA (blk_grown (g := gb117) (o := .cells #[.int .u8 a0_0, .slice A0_1 l0_1.length c0_1] 74 (0, 0)) (zqB BK117.out) hg (Kd.R_ne HO173.out BK117.out (by decide))); have n4_ := zA (blk_grown (g := gb118) (o := .cells #[.int .u8 a1_0, .int .u8 a1_1] 82 (0, 0)) (zqB BK118.out) hg (Kd.R_ne HO173.out BK118.out (by decide))); have n5_ := zA (blk_grown (g := gb123) (o := .cells #[.int .i64 t119, .slice Ao41 x124001_1.length co41] 24 (0, 0)) (zqB BK123.out) hg (Kd.R_ne HO173.out BK123.out (by decide))); have n6_ := zA (blk_grown (g := gb135) (o := .cells #[.int .i64 t119, .slice Ao151 y159.length co151] 24 (0, 0)) (zqB BK135.out) hg (Kd.R_ne HO173.out BK135.out (by decide))); have n7_ := zA (blk_grown (g := gb153) (o := .cells #[.int .i64 (Int.tmod (wrap64 (a1_0)) 40), .int .i64 (wrap64 ((wrap64 ((Int.tmod (wrap64 (a1_0)) 40) + 1)) + (Int.tmod (wrap64 (a1_1)) 12)))] 47 (0, 0)) (zqB BK153.out) hg (Kd.R_ne HO173.out BK153.out (by decide)))
                         have n8_ := zA (Kd.R_after (ok := (fun k_ => some k_ ≠ (.slice Ao153 y165.length co153 : Value).ownBlock)) (by (with_reducible repeat (first | apply Kd.R_alloc | apply Kd.R_drewN | apply Kd.R_drew)); exact Kd.R_mono HO183.out (fun _ hk => ⟨hk.1.2, hk.2⟩)) hg hat)
                         have n9_ := zA (hb)
                         have n10_ := zA ((show Kd.C (Kd.int .i64) w198 Ao153 y174.length y174 from by rw [Ny174.out]; exact Kd.C_take (m := ((ji173) : Int).toNat) ((Kd.R_reads' (Kd.R_after (ok := (fun k_ => some k_ ≠ (v182 : Value).ownBlock)) (by (with_reducible repeat (first | apply Kd.R_alloc | apply Kd.R_drewN | apply Kd.R_drew)); exact Kd.R_mono HO_12.out (fun _ hk => ⟨hk.1.2, hk.2⟩)) hg hat)).2.2) KL193.out))
                         have n11_ := zA (ho); clear HO_12 HO_124001 HO_136001 BK117 BK118 BK123 BK135 BK153 HO183 HB HR177 HO173; have HO_12 := n0_; have HO_124001 := n1_; have HO_136001 := n2_; have BK117 := n3_; have BK118 := n4_; have BK123 := n5_; have BK135 := n6_; have BK153 := n7_; have HO183 := n8_; have HB := n9_; have HR177 := n10_; have HO180 := n11_; clear n0_ n1_ n2_ n3_ n4_ n5_ n6_ n7_ n8_ n9_ n10_ n11_ ho hb hg hat
                         refine hK.out _ _ ⟨(blk_cell BK135.out 0).trans rfl, (blk_cell BK135.out 1).trans rfl⟩ (fun hHeld => ?_)
                         clear hK K; refine norm_ (a' := ?_) ?_ ?_; rotate_left
                         · show Act.put _ (some 192) _ = _; simp only [Act.put, setIfInBounds_toArray, set_cons_zero, set_cons_succ, i64_w, i32_w]; rfl
                         exact norm_ (by simp only [putAll, Act.put, setIfInBounds_toArray, set_cons_zero, set_cons_succ]) (hCont (v172, v179, v182) _ ⟨hHeld, (by (with_reducible repeat (first | apply Kd.R_alloc | apply Kd.R_drewN | apply Kd.R_drew)); exact Kd.R_mono HO180.out (fun _ hk => ⟨hk.2, hk.1⟩)), (by (with_reducible repeat (first | apply Kd.R_alloc | apply Kd.R_drewN | apply Kd.R_drew)); exact Kd.R_mono HO183.out (fun _ hk => ⟨hk.2, hk.1⟩)), (by (with_reducible repeat (first | apply Kd.R_alloc | apply Kd.R_drewN | apply Kd.R_drew)); exact Kd.R_mono HO_12.out (fun _ hk => ⟨hk.2, hk.1⟩)), (zqC HO_124001.out), (zqC HO_136001.out), (zqB BK117.out), (zqB BK118.out), (zqB BK123.out), (zqB BK135.out), (zqB BK153.out), (by repeat (first | (with_reducible first | exact HB.out | apply below_alloc | apply pw_below_drewN | apply below_drew1 | refine below_set ?_ GE117.out | refine below_set ?_ GE118.out | refine below_set ?_ GE123.out | refine below_set ?_ GE135.out | refine below_set ?_ GE153.out) | exact HB.out))⟩)
                       rintro ⟨v172, v179, v182⟩ w199 ⟨hS_, h0_, h1_, h2_, h3_, h4_, h5_, h6_, h7_, h8_, h9_, h10_⟩
                       have n0_ : Aside0 (Kd.R (Kd.int .i64) 3 w199 w.heap.size (fun k_ => some k_ ≠ (v182 : Value).ownBlock ∧ some k_ ≠ (.slice Ao153 y165.length co153 : Value).ownBlock) v179 y178) := ⟨h0_⟩
                       have n1_ : Aside0 (Kd.R (Kd.int .i64) 3 w199 w.heap.size (fun k_ => some k_ ≠ (v179 : Value).ownBlock ∧ some k_ ≠ (.slice Ao153 y165.length co153 : Value).ownBlock) v182 y181) := ⟨h1_⟩
                       have n2_ : Aside0 (Kd.R (Kd.int .i64) 3 w199 w.heap.size (fun k_ => some k_ ≠ (v179 : Value).ownBlock ∧ some k_ ≠ (v182 : Value).ownBlock) (.slice Ao153 y165.length co153) y165) := ⟨h2_⟩
                       have n3_ : Aside0 (Kd.R k47 47 w199 w.heap.size (fun k_ => some k_ ≠ (.slice Ao151 y159.length co151 : Value).ownBlock ∧ k_ ≠ gb153) (.slice Ao41 x124001_1.length co41) x124001_1) := ⟨h3_⟩
                       have n4_ : Aside0 (Kd.R k47 47 w199 w.heap.size (fun k_ => some k_ ≠ (.slice Ao41 x124001_1.length co41 : Value).ownBlock ∧ k_ ≠ gb153) (.slice Ao151 y159.length co151) y159) := ⟨h4_⟩
                       have n5_ : Aside0 (w199.heap[gb117]? = some (.cells #[.int .u8 a0_0, .slice A0_1 l0_1.length c0_1] 74 (0, 0))) := ⟨h5_⟩
                       have n6_ : Aside0 (w199.heap[gb118]? = some (.cells #[.int .u8 a1_0, .int .u8 a1_1] 82 (0, 0))) := ⟨h6_⟩
                       have n7_ : Aside0 (w199.heap[gb123]? = some (.cells #[.int .i64 t119, .slice Ao41 x124001_1.length co41] 24 (0, 0))) := ⟨h7_⟩
                       have n8_ : Aside0 (w199.heap[gb135]? = some (.cells #[.int .i64 t119, .slice Ao151 y159.length co151] 24 (0, 0))) := ⟨h8_⟩
                       have n9_ : Aside0 (w199.heap[gb153]? = some (.cells #[.int .i64 (Int.tmod (wrap64 (a1_0)) 40), .int .i64 (wrap64 ((wrap64 ((Int.tmod (wrap64 (a1_0)) 40) + 1)) + (Int.tmod (wrap64 (a1_1)) 12)))] 47 (0, 0))) := ⟨h9_⟩
                       have n10_ : Aside0 (Below w.heap.size w w199) := ⟨h10_⟩
                       clear HO_12 HO_124001 HO_136001 BK117 BK118 BK123 BK135 BK153 HB h0_ h1_ h2_ h3_ h4_ h5_ h6_ h7_ h8_ h9_ h10_; have HO180 := n0_; have HO183 := n1_; have HO_12 := n2_; have HO_124001 := n3_; have HO_136001 := n4_; have BK117 := n5_; have BK118 := n6_; have BK123 := n7_; have BK135 := n8_; have BK153 := n9_; have HB := n10_; clear n0_ n1_ n2_ n3_ n4_ n5_ n6_ n7_ n8_ n9_ n10_
                       have hHeld : w199.cell? ⟨gb135, 0, none⟩ = some (.int .i64 t119) ∧ w199.cell? ⟨gb135, 1, none⟩ = some (.slice Ao151 y159.length co151) := hS_
                       obtain ⟨Ao201, co201, eo201⟩ := Kd.R_slice HO183.out
                       (first | subst eo201 | (injection eo201 with f1_ f2_ f3_; have f4_ := f1_.symm; have f5_ := f3_.symm; clear f1_ f2_ f3_; subst f4_; subst f5_))
                       refine norm_ (a' := ?_) ?_ ?_; rotate_left
                       · simp only [putAll, Act.put, setIfInBounds_toArray, set_cons_zero, set_cons_succ]; rfl
                       refine one_ (i := 10) (N := some 195) #[true, true, true, true, true, true, true, true, true, true, true, false] rfl rfl (one_of HT_.out (by kernel_rfl)) (by decide) (fun K hK => ?_)
                       refine Kd.R_append_rows_step (Kd.int .i64) (w0 := w) w.heap.size (by rfl) (.tmp 192) (.tmp 194) 26 3 (.int .i64 0) 8 rfl Try.underlying26 info3 rfl (by decide) (by omega) v179 y178 y181 _ _ _ (fun k_ => some k_ ≠ (.slice Ao153 y165.length co153 : Value).ownBlock ∧ some k_ ≠ (.slice Ao201 y181.length co201 : Value).ownBlock) (fun _ => False) rfl rfl ?aO ?aR (fun _ _ h => h) (fun _ h => h.elim) ?aF ?aB ?aS ?aL ?_
                       (case aR => repeat (first | exact (Kd.R_reads' HO183.out).2.2 | (with_reducible refine Kd.C_alloc ?_ _) | (with_reducible refine Kd.C_drewN ?_ _) | (with_reducible refine Kd.C_drew ?_)))
                       (case aB => exact (by repeat (first | (with_reducible first | exact HB.out | apply below_alloc | apply pw_below_drewN | apply below_drew1 | refine below_set ?_ GE117.out | refine below_set ?_ GE118.out | refine below_set ?_ GE123.out | refine below_set ?_ GE135.out | refine below_set ?_ GE153.out) | exact HB.out)))
                       (case aF => exact (fun k_ hk => ⟨Kd.fresh' (Kd.R_lt (zqC HO_12.out)) k_ hk, Kd.fresh' (Kd.R_lt (zqC HO183.out)) k_ hk⟩))
                       (case aO => exact (by (with_reducible repeat (first | apply Kd.R_alloc | apply Kd.R_drewN | apply Kd.R_drew)); exact Kd.R_mono HO180.out (fun _ hk => ⟨hk.2, hk.1⟩)))
                       (case aS => exact (below_size (by repeat (first | (with_reducible first | exact HB.out | apply below_alloc | apply pw_below_drewN | apply below_drew1 | refine below_set ?_ GE117.out | refine below_set ?_ GE118.out | refine below_set ?_ GE123.out | refine below_set ?_ GE135.out | refine below_set ?_ GE153.out) | exact HB.out))))
                       (case aL => have := LMc177.out; omega)
                       intro v185 w200 ho hb hg hat
                       rw [← Ny184.out] at ho
                       have n0_ := zA (Kd.R_after (ok := (fun k_ => some k_ ≠ (.slice Ao201 y181.length co201 : Value).ownBlock)) (by (with_reducible repeat (first | apply Kd.R_alloc | apply Kd.R_drewN | apply Kd.R_drew)); exact Kd.R_mono HO_12.out (fun _ hk => ⟨hk.2, hk.1⟩)) hg hat)
                       have n1_ := zA (Kd.R_over' (zqC HO_124001.out) (Kd.R_typed (zqC HO180.out)) (by decide) hg); have n2_ := zA (Kd.R_over' (zqC HO_136001.out) (Kd.R_typed (zqC HO180.out)) (by decide) hg); have n3_ := zA (blk_grown (g := gb117) (o := .cells #[.int .u8 a0_0, .slice A0_1 l0_1.length c0_1] 74 (0, 0)) (zqB BK117.out) hg (Kd.R_ne HO180.out BK117.out (by decide))); have n4_ := zA (blk_grown (g := gb118) (o := .cells #[.int .u8 a1_0, .int .u8 a1_1] 82 (0, 0)) (zqB BK118.out) hg (Kd.R_ne HO180.out BK118.out (by decide))); have n5_ := zA (blk_grown (g := gb123) (o := .cells #[.int .i64 t119, .slice Ao41 x124001_1.length co41] 24 (0, 0)) (zqB BK123.out) hg (Kd.R_ne HO180.out BK123.out (by decide))); have n6_ := zA (blk_grown (g := gb135) (o := .cells #[.int .i64 t119, .slice Ao151 y159.length co151] 24 (0, 0)) (zqB BK135.out) hg (Kd.R_ne HO180.out BK135.out (by decide))); have n7_ := zA (blk_grown (g := gb153) (o := .cells #[.int .i64 (Int.tmod (wrap64 (a1_0)) 40), .int .i64 (wrap64 ((wrap64 ((Int.tmod (wrap64 (a1_0)) 40) + 1)) + (Int.tmod (wrap64 (a1_1)) 12)))] 47 (0, 0)) (zqB BK153.out) hg (Kd.R_ne HO180.out BK153.out (by decide)))
                       have n8_ := zA (Kd.R_after (ok := (fun k_ => some k_ ≠ (.slice Ao153 y165.length co153 : Value).ownBlock)) (by (with_reducible repeat (first | apply Kd.R_alloc | apply Kd.R_drewN | apply Kd.R_drew)); exact Kd.R_mono HO183.out (fun _ hk => ⟨hk.2, hk.1⟩)) hg hat)
                       have n9_ := zA (hb); have n10_ := zA (ho); clear HO_12 HO_124001 HO_136001 BK117 BK118 BK123 BK135 BK153 HO183 HB HO180; have HO_12 := n0_; have HO_124001 := n1_; have HO_136001 := n2_; have BK117 := n3_; have BK118 := n4_; have BK123 := n5_; have BK135 := n6_; have BK153 := n7_; have HO183 := n8_; have HB := n9_; have HO186 := n10_; clear n0_ n1_ n2_ n3_ n4_ n5_ n6_ n7_ n8_ n9_ n10_ ho hb hg hat
                       obtain ⟨Ao202, co202, eo202⟩ := Kd.R_slice HO186.out
                       (first | subst eo202 | (injection eo202 with f1_ f2_ f3_; have f4_ := f1_.symm; have f5_ := f3_.symm; clear f1_ f2_ f3_; subst f4_; subst f5_))
                       refine hK.out _ _ ⟨(blk_cell BK135.out 0).trans rfl, (blk_cell BK135.out 1).trans rfl⟩ (fun hHeld => ?_)
                       clear hK K; refine norm_ (a' := ?_) ?_ ?_; rotate_left
                       · show Act.put _ (some 195) _ = _; simp only [Act.put, setIfInBounds_toArray, set_cons_zero, set_cons_succ, i64_w, i32_w]; rfl
                       refine one_ (i := 11) (N := some 196) #[true, true, true, true, true, true, true, true, true, true, true, true] rfl rfl (one_of HT_.out (by kernel_rfl)) (by decide) (fun K hK => ?_)
                       refine goes_ Try.func39 (by kernel_rfl) rfl #[.agg #[.int .i64 t119, .slice Ao151 y159.length co151], .slice Ao202 y184.length co202] (by rfl) rfl rfl zqE ?_
                       with_reducible refine (pianolalaw03_good.calls k5 t119 _ _ y159 _ _ y184 false _ ?side1 ?side2 ?side3 ?side4 A178.out).mono ?_
                       (case side1 => exact zqK (Kd.R_reads' HO_136001.out).2.2)
                       (case side2 => exact (Kd.R_reads' HO_136001.out).2.1)
                       (case side3 => exact zqK (Kd.R_reads' HO186.out).2.2)
                       (case side4 => exact (Kd.R_reads' HO186.out).2.1)
                       rintro e w203 ⟨rfl, hb⟩
                       refine ⟨_, rfl, ?_⟩
                       have n0_ := zA (Kd.R_below (zqC HO_12.out) hb); have n1_ := zA (Kd.R_below (zqC HO_124001.out) hb); have n2_ := zA (Kd.R_below (zqC HO_136001.out) hb); have n3_ := zA (Kd.R_below (zqC HO183.out) hb); have n4_ := zA (Kd.R_below (zqC HO186.out) hb); have n5_ := zA (blk_below (g := gb117) (o := .cells #[.int .u8 a0_0, .slice A0_1 l0_1.length c0_1] 74 (0, 0)) (zqB BK117.out) hb); have n6_ := zA (blk_below (g := gb118) (o := .cells #[.int .u8 a1_0, .int .u8 a1_1] 82 (0, 0)) (zqB BK118.out) hb); have n7_ := zA (blk_below (g := gb123) (o := .cells #[.int .i64 t119, .slice Ao41 x124001_1.length co41] 24 (0, 0)) (zqB BK123.out) hb); have n8_ := zA (blk_below (g := gb135) (o := .cells #[.int .i64 t119, .slice Ao151 y159.length co151] 24 (0, 0)) (zqB BK135.out) hb); have n9_ := zA (blk_below (g := gb153) (o := .cells #[.int .i64 (Int.tmod (wrap64 (a1_0)) 40), .int .i64 (wrap64 ((wrap64 ((Int.tmod (wrap64 (a1_0)) 40) + 1)) + (Int.tmod (wrap64 (a1_1)) 12)))] 47 (0, 0)) (zqB BK153.out) hb)
                       have n10_ := zA (below_step (by repeat (first | (with_reducible first | exact HB.out | apply below_alloc | apply pw_below_drewN | apply below_drew1 | refine below_set ?_ GE117.out | refine below_set ?_ GE118.out | refine below_set ?_ GE123.out | refine below_set ?_ GE135.out | refine below_set ?_ GE153.out) | exact HB.out)) hb)
                       clear HO_12 HO_124001 HO_136001 HO183 HO186 BK117 BK118 BK123 BK135 BK153 HB; have HO_12 := n0_; have HO_124001 := n1_; have HO_136001 := n2_; have HO183 := n3_; have HO186 := n4_; have BK117 := n5_; have BK118 := n6_; have BK123 := n7_; have BK135 := n8_; have BK153 := n9_; have HB := n10_; clear n0_ n1_ n2_ n3_ n4_ n5_ n6_ n7_ n8_ n9_ n10_
                       (try clear hb); (try clear hb2); (try clear hk); (try clear hi)
                       refine hK.out _ _ ⟨(blk_cell BK135.out 0).trans rfl, (blk_cell BK135.out 1).trans rfl⟩ (fun hHeld => ?_)
                       clear hK K; refine norm_ (a' := ?_) ?_ ?_; rotate_left
                       · show Act.put _ (some 196) _ = _; simp only [Act.put, setIfInBounds_toArray, set_cons_zero, set_cons_succ, i64_w, i32_w]; rfl
                       refine done_ (done_of HT_.out (by kernel_rfl)) ?_
                       try go_wp2
                       go_roundg k5
                       case measure => have := HK1.out; have := HJ36.out; have := HK3.out; have := HJ123.out; have := HK5.out; omega
                       case rel => exact ⟨(wrap64 (x22_5 + 1)), zqQ, H', ⟨by have := HK1.out; have := HJ36.out; have := HK3.out; have := HJ123.out; have := HK5.out; omega⟩, ⟨by (with_reducible repeat (first | apply Kd.R_alloc | apply Kd.R_drewN | apply Kd.R_drew)); exact Kd.R_mono HO_12.out (fun _ hk => trivial)⟩, ⟨zqC HO_124001.out⟩, ⟨zqC HO_136001.out⟩, ⟨zqB BK117.out⟩, ⟨zqB BK118.out⟩, ⟨zqB BK123.out⟩, ⟨zqB BK135.out⟩, ⟨zqB BK153.out⟩, ⟨by repeat (first | (with_reducible first | exact HB.out | apply below_alloc | apply pw_below_drewN | apply below_drew1 | refine below_set ?_ GE117.out | refine below_set ?_ GE118.out | refine below_set ?_ GE123.out | refine below_set ?_ GE135.out | refine below_set ?_ GE153.out) | exact HB.out)⟩⟩
                     ·
                      rw [if_neg c177] at H
                      exact absurd H (by simp)
                    ·
                     rw [if_neg c176] at H
                     exact absurd H (by simp)
                   ·
                    rw [if_neg c175] at H
                    exact absurd H (by simp)
                  ·
                   rw [if_neg c174] at H
                   exact absurd H (by simp)
                 ·
                  rw [if_neg c172] at H
                  have c172b0 : decide (x22_5 < t154) = false := decide_eq_false c172
                  clear c172
                  replace H := Option.bind_eq_some_iff.mp H
                  obtain ⟨t188, A2040, H⟩ := H
                  replace H : (some t188) = some r := H
                  have A204 := zA A2040
                  clear A2040
                  obtain rfl := Option.some.inj H
                  go_wp2_with (first | ((with_reducible refine gate_callee (f := 15) rfl ?_); refine goesL_ (some 197) rfl rfl Try.func15 (by kernel_rfl) rfl #[] rfl zqE ?_; (with_reducible refine (pianolalaw03_works.calls  t188 _ A204.out).mono ?_); rintro e w205 ⟨rfl, hb⟩; refine ⟨_, rfl, ?_⟩; have n0_ := zA (Kd.R_below (zqC HO_12.out) hb); have n1_ := zA (Kd.R_below (zqC HO_124001.out) hb); have n2_ := zA (Kd.R_below (zqC HO_136001.out) hb); have n3_ := zA (blk_below (g := gb117) (o := .cells #[.int .u8 a0_0, .slice A0_1 l0_1.length c0_1] 74 (0, 0)) (zqB BK117.out) hb); have n4_ := zA (blk_below (g := gb118) (o := .cells #[.int .u8 a1_0, .int .u8 a1_1] 82 (0, 0)) (zqB BK118.out) hb); have n5_ := zA (blk_below (g := gb123) (o := .cells #[.int .i64 t119, .slice Ao41 x124001_1.length co41] 24 (0, 0)) (zqB BK123.out) hb); have n6_ := zA (blk_below (g := gb135) (o := .cells #[.int .i64 t119, .slice Ao151 y159.length co151] 24 (0, 0)) (zqB BK135.out) hb); have n7_ := zA (blk_below (g := gb153) (o := .cells #[.int .i64 (Int.tmod (wrap64 (a1_0)) 40), .int .i64 (wrap64 ((wrap64 ((Int.tmod (wrap64 (a1_0)) 40) + 1)) + (Int.tmod (wrap64 (a1_1)) 12)))] 47 (0, 0)) (zqB BK153.out) hb); have n8_ := zA (below_step (by repeat (first | (with_reducible first | exact HB.out | apply below_alloc | apply pw_below_drewN | apply below_drew1 | refine below_set ?_ GE117.out | refine below_set ?_ GE118.out | refine below_set ?_ GE123.out | refine below_set ?_ GE135.out | refine below_set ?_ GE153.out) | exact HB.out)) hb); clear HO_12; clear HO_124001; clear HO_136001; clear BK117; clear BK118; clear BK123; clear BK135; clear BK153; clear HB; have HO_12 := n0_; have HO_124001 := n1_; have HO_136001 := n2_; have BK117 := n3_; have BK118 := n4_; have BK123 := n5_; have BK135 := n6_; have BK153 := n7_; have HB := n8_; clear n0_ n1_ n2_ n3_ n4_ n5_ n6_ n7_ n8_; (try clear hb); (try clear hb2); (try clear hk); (try clear hi)))
                  go_ret
                  exact ⟨zqR, by repeat (first | (with_reducible first | exact HB.out | apply below_alloc | apply pw_below_drewN | apply below_drew1 | refine below_set ?_ GE117.out | refine below_set ?_ GE118.out | refine below_set ?_ GE123.out | refine below_set ?_ GE135.out | refine below_set ?_ GE153.out) | exact HB.out)⟩
           ·
            rw [if_neg c122] at H
            exact absurd H (by simp)
          ·
           rw [if_neg c121] at H
           exact absurd H (by simp)
end Go.Proofs.Ytegffliopblajaa.P
end
end
