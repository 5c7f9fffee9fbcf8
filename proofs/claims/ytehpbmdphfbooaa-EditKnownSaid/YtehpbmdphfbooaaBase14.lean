/- Words and contracts that all claims of this seat share: the examples of the chapter hold. -/
import Derived.Test.YtehpbmdphfbooaaBase13

section
namespace Go.Proofs.Ytehpbmdphfbooaa.P
open Go.RowKit Go.Proofs.YtehpbmdphfbooaaW.PrintWords Go.Proofs.YtehpbmdphfbooaaW.PrintLast Go.Proofs.YtehpbmdphfbooaaW.PrintMore
set_option linter.unusedVariables false
set_option linter.unusedSimpArgs false
def Rl : List S61 := [⟨0, 40, 5⟩, ⟨10, 42, 5⟩, ⟨20, 44, 5⟩]
def mT : List S61 := [⟨10, 42, 5⟩, ⟨20, 44, 5⟩, ⟨30, 40, 5⟩]
def mO : List S67 := [⟨1, false⟩, ⟨2, false⟩, ⟨0, false⟩]
def fT : List S61 := [⟨0, 40, 5⟩, ⟨5, 50, 5⟩, ⟨10, 42, 5⟩]
def qT : List S61 := [⟨10, 42, 5⟩, ⟨20, 44, 5⟩, ⟨50, 1, 1⟩]
def qO : List S67 := [⟨0, false⟩, ⟨1, false⟩, ⟨0, true⟩]
def tO : List S67 := [⟨1, false⟩, ⟨2, false⟩, ⟨1, true⟩]
def xT : List S61 := [⟨0, 40, 5⟩, ⟨10, 42, 5⟩]
def xO : List S67 := [⟨0, false⟩, ⟨1, false⟩]
def yT : List S61 := [⟨10, 42, 5⟩, ⟨20, 44, 5⟩]
def yO : List S67 := [⟨1, false⟩, ⟨2, false⟩]
def zT : List S61 := [⟨10, 42, 5⟩, ⟨30, 40, 5⟩]
def zO : List S67 := [⟨1, false⟩, ⟨0, false⟩]
def s1 : List S65 := [⟨3, 0, 40, ⟨30, 40, 5⟩⟩]
def s2 : List S65 := [⟨1, 30, 40, ⟨0, 0, 0⟩⟩, ⟨4, 10, 42, ⟨50, 1, 1⟩⟩]
def s3 : List S65 := [⟨1, 20, 44, ⟨0, 0, 0⟩⟩]
def s4 : List S65 := [⟨1, 0, 40, ⟨0, 0, 0⟩⟩]
def g1 : List S67 := [⟨1, false⟩, ⟨0, false⟩, ⟨2, false⟩]
def g2 : List S67 := [⟨0, true⟩, ⟨1, false⟩, ⟨2, false⟩]
def g3 : List S67 := [⟨-1, false⟩, ⟨1, false⟩, ⟨2, false⟩]
def g4 : List S67 := [⟨0, true⟩, ⟨0, true⟩, ⟨1, false⟩]
def works13.T11 : Bool × List (List Nat × List Nat) := (true, [([], []), ([0], [0]), ([], []), ([], []), ([3], [3]), ([2, 4], [2, 4]), ([1, 5, 3], [1, 5]), ([6], [6]), ([7], [7]), ([7], [7]), ([7], [7]), ([], []), ([11, 8, 6, 0, 1, 2, 3, 4, 5, 6, 7, 8, 11], [8, 11]), ([9, 12, 0, 1, 2, 3, 4, 5, 6, 7, 8, 9, 11, 12], [9]), ([10, 13, 0, 1, 2, 3, 4, 5, 6, 7, 8, 9, 10, 11, 12, 13], [10])])
def works13.B11 : List Nat := [0, 1, 0, 0, 8, 28, 63, 127, 255, 255, 255, 0, 2559, 7167, 16383]
theorem works13.tab11 : rtab .any (opsOf Try.f13 11) = works13.T11 := by kernel_rfl
theorem works13.bits11 : waitsOk works13.T11.2 works13.B11 = true := by kernel_rfl
def works13.T13 : Bool × List (List Nat × List Nat) := (true, [([], []), ([0], [0]), ([1], [1]), ([2], [2]), ([3, 2], [2, 3]), ([2, 4], [2, 4]), ([5, 2], [5]), ([6], [6]), ([6, 6], [6]), ([8, 6], [6]), ([9, 6], [6]), ([10, 6], [6]), ([9, 10, 11, 6], [6, 9, 10, 11]), ([6], [6]), ([13, 11, 6], [6, 13]), ([8, 12, 14, 6], [6, 8, 12, 14]), ([7, 15, 14, 6], [6, 7, 15]), ([16, 6], [6, 16]), ([6, 17], [6, 17])])
def works13.B13 : List Nat := [0, 1, 3, 7, 15, 31, 63, 127, 127, 383, 895, 1919, 3967, 127, 12159, 32639, 65535, 131071, 262143]
theorem works13.tab13 : rtab .any (opsOf Try.f13 13) = works13.T13 := by kernel_rfl
theorem works13.bits13 : waitsOk works13.T13.2 works13.B13 = true := by kernel_rfl
def works13.T19 : Bool × List (List Nat × List Nat) := (true, [([], []), ([0], [0]), ([1], [1]), ([2], [2]), ([3, 2], [2, 3]), ([2, 4], [2, 4]), ([5, 2], [5]), ([6], [6]), ([7, 6], [6, 7]), ([6, 8], [6, 8]), ([9, 6], [9]), ([10], [10]), ([11, 10], [10, 11]), ([10, 12], [10, 12]), ([13, 10], [13]), ([14], [14]), ([14, 14], [14]), ([16, 14], [14]), ([17, 14], [14]), ([17, 18, 14], [14, 17, 18]), ([14], [14]), ([20, 18, 14], [14, 20]), ([16, 19, 21, 14], [14, 16, 19, 21]), ([15, 22, 21, 14], [14, 15, 22]), ([14, 23], [14, 23]), ([24, 23, 0, 1, 2, 3, 4, 5, 6, 7, 8, 9, 10, 11, 12, 13, 14, 15, 16, 17, 18, 19, 20, 21, 22, 23, 24], [24])])
def works13.B19 : List Nat := [0, 1, 3, 7, 15, 31, 63, 127, 255, 511, 1023, 2047, 4095, 8191, 16383, 32767, 32767, 98303, 229375, 491519, 32767, 1540095, 4161535, 8388607, 16777215, 33554431]
theorem works13.tab19 : rtab .any (opsOf Try.f13 19) = works13.T19 := by kernel_rfl
theorem works13.bits19 : waitsOk works13.T19.2 works13.B19 = true := by kernel_rfl
set_option maxHeartbeats 8000000 in
set_option maxRecDepth 100000 in
theorem works13 (w : World) : Calls Try.prog 13 #[] w fun e w' => e = .returned (.bool true) ∧ Below w.heap.size w w' := by
 have mixed : Try.prog.follows .mixedOrders = true := by kernel_rfl
 have hu28 := Try.underlying28
 have hu61 := Try.underlying61
 have hu65 := Try.underlying65
 have hu67 := Try.underlying67
 have hu23 := Try.underlying23
 have hu24 := Try.underlying24
 have hu26 := Try.underlying26
 have hu139 := Try.underlying139
 have HB := zA (Below.refl w.heap.size w)
 go_enter Try.func13, Try.ntmps13
 go_upto_region 2 with (first | ((with_reducible refine gate_callee (f := 26) rfl ?_); (try (refine gate_guard (by rfl) ?_; dsimp only)); refine goesL_ (some 21) rfl rfl Try.func26 (by kernel_rfl) rfl #[] rfl (by (try simp only [List.map_toArray, List.map_cons, List.map_nil]); first | done | rfl) ?_; refine (c_R Rl (by kernel_rfl) _).mono ?_; rintro e w1 ⟨A1, c1, rfl, h_, hb⟩; refine ⟨_, rfl, ?_⟩; replace HB := zA (below_step HB.out hb); have SV1 := zA h_; clear hb h_) | ((with_reducible refine gate_callee (f := 27) rfl ?_); (try (refine gate_guard (by rfl) ?_; dsimp only)); refine goesL_ (some 22) rfl rfl Try.func27 (by kernel_rfl) rfl #[.int .i64 30, .int .i64 40, .int .i64 5] rfl (by (try simp only [List.map_toArray, List.map_cons, List.map_nil]); first | done | rfl) ?_; refine (c_note 30 40 5 _).mono ?_; rintro e w2 ⟨rfl, hb⟩; refine ⟨_, rfl, ?_⟩; replace HB := zA (below_step HB.out hb); replace SV1 := zA (SV1.out.below hb); clear hb) | ((with_reducible refine gate_dst (N := 24) rfl ?_); (try (refine gate_guard (by rfl) ?_; dsimp only)); refine Kd.R_lit k65 w2.heap.size 65 ?hg (N := 24) ?hd (xs := s1) (inner := [.int .i64 3, .int .i64 0, .int .i64 40, .int .i64 30, .int .i64 40, .int .i64 5]) (ok := fun _ => True) (okp := fun _ => True) ?hr ?hp (fun _ hk => hk) trivial (Below.refl _ _) (Nat.le_refl _) (by decide) ?_; (case hd => rfl); (case hg => rfl); (case hr => first | (go_simp; done) | (go_simp; rfl)); (case hp => exact (Reps.c6 (show Kd.M k65 _ _ _ (⟨3, 0, 40, ⟨30, 40, 5⟩⟩ : S65) [.int .i64 3, .int .i64 0, .int .i64 40, .int .i64 30, .int .i64 40, .int .i64 5] from (k65_mkM _ _ _ _)) (Reps.none _ _))); intro v w3 ho hb hg_ hnew_; clear hg_ hnew_; obtain ⟨A2, c2, rfl⟩ := Kd.R_slice ho; have h_ := SV.ofR ho; replace HB := zA (below_step HB.out hb); replace SV1 := zA (SV1.out.below hb); have SV2 := zA h_; clear hb ho h_) | ((with_reducible refine gate_callee (f := 14) rfl ?_); (try (refine gate_guard (by rfl) ?_; dsimp only)); refine goesL_ (some 25) rfl rfl Try.func14 (by kernel_rfl) rfl #[.slice A1 Rl.length c1, .slice A2 s1.length c2] rfl (by (try simp only [List.map_toArray, List.map_cons, List.map_nil]); first | done | rfl) ?_; refine (c_run Rl s1 Rl mT mO 1 0 (by kernel_rfl) _ _ _ SV1.out SV2.out).mono ?_; rintro e w4 ⟨Ap0, cp0, Ap1, cp1, Ap2, cp2, rfl, h0_, h1_, h2_, hb⟩; refine ⟨_, rfl, ?_⟩; replace HB := zA (below_step HB.out hb); replace SV1 := zA (SV1.out.below hb); replace SV2 := zA (SV2.out.below hb); have SVp0 := zA h0_; have SVp1 := zA h1_; have SVp2 := zA h2_; clear hb h0_ h1_ h2_) | ((with_reducible refine gate_dst (N := 1) rfl ?_); refine box_event ?hg (N := 1) ?hd (cs := #[.slice none 0 0, .slice none 0 0, .slice none 0 0]) (t := 28) ?hr ?_; (case hd => rfl); (case hg => rfl); (case hr => first | (go_simp; done) | (go_simp; rfl)); intro b1 hg w5 hbox hb; have GE : Aside0 (w4.heap.size ≤ b1) := ⟨by rw [hg]; exact Nat.le_refl _⟩; have ac := zA hbox; have HBa := zA hb; clear hg hbox hb; have z0 : w5.cell? ⟨b1, 0, none⟩ = some (.slice none 0 0) := (blk_cell ac.out 0).trans rfl; have z1 : w5.cell? ⟨b1, 1, none⟩ = some (.slice none 0 0) := (blk_cell ac.out 1).trans rfl; have z2 : w5.cell? ⟨b1, 2, none⟩ = some (.slice none 0 0) := (blk_cell ac.out 2).trans rfl; have zf0 := blk_frozen ac.out 0; have zf1 := blk_frozen ac.out 1; have zf2 := blk_frozen ac.out 2))
 clear z0 zf0 z1 zf1 z2 zf2
 have n_ : Aside0 (((World.setCell (World.setCell (World.setCell w5 ⟨b1, 0, none⟩ (.slice Ap0 Rl.length cp0)) ⟨b1, 1, none⟩ (.slice Ap1 mT.length cp1)) ⟨b1, 2, none⟩ (.slice Ap2 mO.length cp2))).heap[b1]? = some (.cells #[.slice Ap0 Rl.length cp0, .slice Ap1 mT.length cp1, .slice Ap2 mO.length cp2] 28 (0, 0))) := ⟨(blk_put (cs := #[.slice Ap0 Rl.length cp0, .slice Ap1 mT.length cp1, .slice none 0 0]) (blk_put (cs := #[.slice Ap0 Rl.length cp0, .slice none 0 0, .slice none 0 0]) (blk_put (cs := #[.slice none 0 0, .slice none 0 0, .slice none 0 0]) ac.out 0 (.slice Ap0 Rl.length cp0) rfl) 1 (.slice Ap1 mT.length cp1) rfl) 2 (.slice Ap2 mO.length cp2) rfl)⟩
 have hb : Below w4.heap.size w4 (World.setCell (World.setCell (World.setCell w5 ⟨b1, 0, none⟩ (.slice Ap0 Rl.length cp0)) ⟨b1, 1, none⟩ (.slice Ap1 mT.length cp1)) ⟨b1, 2, none⟩ (.slice Ap2 mO.length cp2)) := (below_set (below_set (below_set HBa.out GE.out) GE.out) GE.out)
 clear ac HBa GE; generalize (World.setCell (World.setCell (World.setCell w5 ⟨b1, 0, none⟩ (.slice Ap0 Rl.length cp0)) ⟨b1, 1, none⟩ (.slice Ap1 mT.length cp1)) ⟨b1, 2, none⟩ (.slice Ap2 mO.length cp2)) = w6 at n_ hb ⊢; have ac := n_; clear n_
 replace HB := zA (below_step HB.out hb)
 replace SV1 := zA (SV1.out.below hb)
 replace SV2 := zA (SV2.out.below hb)
 replace SVp0 := zA (SVp0.out.below hb)
 replace SVp1 := zA (SVp1.out.below hb)
 replace SVp2 := zA (SVp2.out.below hb)
 clear hb SV1 SV2
 go_upto_region 3 with (first | ((with_reducible refine gate_callee (f := 26) rfl ?_); (try (refine gate_guard (by rfl) ?_; dsimp only)); refine goesL_ (some 29) rfl rfl Try.func26 (by kernel_rfl) rfl #[] rfl (by (try simp only [List.map_toArray, List.map_cons, List.map_nil]); first | done | rfl) ?_; refine (c_R Rl (by kernel_rfl) _).mono ?_; rintro e w7 ⟨A1, c1, rfl, h_, hb⟩; refine ⟨_, rfl, ?_⟩; replace HB := zA (below_step HB.out hb); replace SVp0 := zA (SVp0.out.below hb); replace SVp1 := zA (SVp1.out.below hb); replace SVp2 := zA (SVp2.out.below hb); replace ac := zA (blk_keep ac.out hb); have SV1 := zA h_; clear hb h_) | ((with_reducible refine gate_callee (f := 27) rfl ?_); (try (refine gate_guard (by rfl) ?_; dsimp only)); refine goesL_ (some 30) rfl rfl Try.func27 (by kernel_rfl) rfl #[.int .i64 10, .int .i64 42, .int .i64 5] rfl (by (try simp only [List.map_toArray, List.map_cons, List.map_nil]); first | done | rfl) ?_; refine (c_note 10 42 5 _).mono ?_; rintro e w8 ⟨rfl, hb⟩; refine ⟨_, rfl, ?_⟩; replace HB := zA (below_step HB.out hb); replace SVp0 := zA (SVp0.out.below hb); replace SVp1 := zA (SVp1.out.below hb); replace SVp2 := zA (SVp2.out.below hb); replace ac := zA (blk_keep ac.out hb); replace SV1 := zA (SV1.out.below hb); clear hb) | ((with_reducible refine gate_callee (f := 27) rfl ?_); (try (refine gate_guard (by rfl) ?_; dsimp only)); refine goesL_ (some 31) rfl rfl Try.func27 (by kernel_rfl) rfl #[.int .i64 20, .int .i64 44, .int .i64 5] rfl (by (try simp only [List.map_toArray, List.map_cons, List.map_nil]); first | done | rfl) ?_; refine (c_note 20 44 5 _).mono ?_; rintro e w9 ⟨rfl, hb⟩; refine ⟨_, rfl, ?_⟩; replace HB := zA (below_step HB.out hb); replace SVp0 := zA (SVp0.out.below hb); replace SVp1 := zA (SVp1.out.below hb); replace SVp2 := zA (SVp2.out.below hb); replace ac := zA (blk_keep ac.out hb); replace SV1 := zA (SV1.out.below hb); clear hb) | ((with_reducible refine gate_callee (f := 27) rfl ?_); (try (refine gate_guard (by rfl) ?_; dsimp only)); refine goesL_ (some 32) rfl rfl Try.func27 (by kernel_rfl) rfl #[.int .i64 30, .int .i64 40, .int .i64 5] rfl (by (try simp only [List.map_toArray, List.map_cons, List.map_nil]); first | done | rfl) ?_; refine (c_note 30 40 5 _).mono ?_; rintro e w10 ⟨rfl, hb⟩; refine ⟨_, rfl, ?_⟩; replace HB := zA (below_step HB.out hb); replace SVp0 := zA (SVp0.out.below hb); replace SVp1 := zA (SVp1.out.below hb); replace SVp2 := zA (SVp2.out.below hb); replace ac := zA (blk_keep ac.out hb); replace SV1 := zA (SV1.out.below hb); clear hb) | ((with_reducible refine gate_dst (N := 33) rfl ?_); (try (refine gate_guard (by rfl) ?_; dsimp only)); refine Kd.R_lit k61 w10.heap.size 61 ?hg (N := 33) ?hd (xs := mT) (inner := [.int .i64 10, .int .i64 42, .int .i64 5, .int .i64 20, .int .i64 44, .int .i64 5, .int .i64 30, .int .i64 40, .int .i64 5]) (ok := fun _ => True) (okp := fun _ => True) ?hr ?hp (fun _ hk => hk) trivial (Below.refl _ _) (Nat.le_refl _) (by decide) ?_; (case hd => rfl); (case hg => rfl); (case hr => first | (go_simp; done) | (go_simp; rfl)); (case hp => exact (Reps.c3 (show Kd.M k61 _ _ _ (⟨10, 42, 5⟩ : S61) [.int .i64 10, .int .i64 42, .int .i64 5] from (k61_mkM _ _ _ _)) (Reps.c3 (show Kd.M k61 _ _ _ (⟨20, 44, 5⟩ : S61) [.int .i64 20, .int .i64 44, .int .i64 5] from (k61_mkM _ _ _ _)) (Reps.c3 (show Kd.M k61 _ _ _ (⟨30, 40, 5⟩ : S61) [.int .i64 30, .int .i64 40, .int .i64 5] from (k61_mkM _ _ _ _)) (Reps.none _ _))))); intro v w11 ho hb hg_ hnew_; clear hg_ hnew_; obtain ⟨A2, c2, rfl⟩ := Kd.R_slice ho; have h_ := SV.ofR ho; replace HB := zA (below_step HB.out hb); replace SVp0 := zA (SVp0.out.below hb); replace SVp1 := zA (SVp1.out.below hb); replace SVp2 := zA (SVp2.out.below hb); replace ac := zA (blk_keep ac.out hb); replace SV1 := zA (SV1.out.below hb); have SV2 := zA h_; clear hb ho h_) | ((with_reducible refine gate_dst (N := 34) rfl ?_); (try (refine gate_guard (by rfl) ?_; dsimp only)); refine Kd.R_lit (Kd.int .i64) w11.heap.size 3 ?hg (N := 34) ?hd (xs := ([1, 2, 0] : List Int)) (inner := [.int .i64 (1), .int .i64 (2), .int .i64 (0)]) (ok := fun _ => True) (okp := fun _ => True) ?hr ?hp (fun _ hk => hk) trivial (Below.refl _ _) (Nat.le_refl _) (by decide) ?_; (case hd => rfl); (case hg => rfl); (case hr => first | (go_simp; done) | (go_simp; rfl)); (case hp => exact (Reps.one (show Kd.M (Kd.int .i64) _ _ _ (1 : Int) [.int .i64 (1)] from rfl) (Reps.one (show Kd.M (Kd.int .i64) _ _ _ (2 : Int) [.int .i64 (2)] from rfl) (Reps.one (show Kd.M (Kd.int .i64) _ _ _ (0 : Int) [.int .i64 (0)] from rfl) (Reps.none _ _))))); intro v w12 ho hb hg_ hnew_; clear hg_ hnew_; obtain ⟨A3, c3, rfl⟩ := Kd.R_slice ho; have h_ := SV.ofR ho; replace HB := zA (below_step HB.out hb); replace SVp0 := zA (SVp0.out.below hb); replace SVp1 := zA (SVp1.out.below hb); replace SVp2 := zA (SVp2.out.below hb); replace ac := zA (blk_keep ac.out hb); replace SV1 := zA (SV1.out.below hb); replace SV2 := zA (SV2.out.below hb); have SV3 := zA h_; clear hb ho h_) | ((with_reducible refine gate_callee (f := 44) rfl ?_); (try (refine gate_guard (by rfl) ?_; dsimp only)); refine goesL_ (some 35) rfl rfl Try.func44 (by kernel_rfl) rfl #[.slice A3 (List.length ([1, 2, 0] : List Int)) c3] rfl (by (try simp only [List.map_toArray, List.map_cons, List.map_nil]); first | done | rfl) ?_; refine (c_org [1, 2, 0] mO (by kernel_rfl) _ _ SV3.out).mono ?_; rintro e w13 ⟨A4, c4, rfl, h_, hb⟩; refine ⟨_, rfl, ?_⟩; replace HB := zA (below_step HB.out hb); replace SVp0 := zA (SVp0.out.below hb); replace SVp1 := zA (SVp1.out.below hb); replace SVp2 := zA (SVp2.out.below hb); replace ac := zA (blk_keep ac.out hb); replace SV1 := zA (SV1.out.below hb); replace SV2 := zA (SV2.out.below hb); replace SV3 := zA (SV3.out.below hb); have SV4 := zA h_; clear hb h_) | ((with_reducible refine gate_dst (N := 4) rfl ?_); refine box_event ?hg (N := 4) ?hd (cs := #[.slice none 0 0, .slice none 0 0, .slice none 0 0]) (t := 28) ?hr ?_; (case hd => rfl); (case hg => rfl); (case hr => first | (go_simp; done) | (go_simp; rfl)); intro b4 hg w14 hbox hb; have GE : Aside0 (w13.heap.size ≤ b4) := ⟨by rw [hg]; exact Nat.le_refl _⟩; have aa := zA hbox; have HBa := zA hb; clear hg hbox hb; have z0 : w14.cell? ⟨b4, 0, none⟩ = some (.slice none 0 0) := (blk_cell aa.out 0).trans rfl; have z1 : w14.cell? ⟨b4, 1, none⟩ = some (.slice none 0 0) := (blk_cell aa.out 1).trans rfl; have z2 : w14.cell? ⟨b4, 2, none⟩ = some (.slice none 0 0) := (blk_cell aa.out 2).trans rfl; have zf0 := blk_frozen aa.out 0; have zf1 := blk_frozen aa.out 1; have zf2 := blk_frozen aa.out 2))
 clear z0 zf0 z1 zf1 z2 zf2
 have n_ : Aside0 (((World.setCell (World.setCell (World.setCell w14 ⟨b4, 0, none⟩ (.slice A1 Rl.length c1)) ⟨b4, 1, none⟩ (.slice A2 mT.length c2)) ⟨b4, 2, none⟩ (.slice A4 mO.length c4))).heap[b4]? = some (.cells #[.slice A1 Rl.length c1, .slice A2 mT.length c2, .slice A4 mO.length c4] 28 (0, 0))) := ⟨(blk_put (cs := #[.slice A1 Rl.length c1, .slice A2 mT.length c2, .slice none 0 0]) (blk_put (cs := #[.slice A1 Rl.length c1, .slice none 0 0, .slice none 0 0]) (blk_put (cs := #[.slice none 0 0, .slice none 0 0, .slice none 0 0]) aa.out 0 (.slice A1 Rl.length c1) rfl) 1 (.slice A2 mT.length c2) rfl) 2 (.slice A4 mO.length c4) rfl)⟩
 have hb : Below w13.heap.size w13 (World.setCell (World.setCell (World.setCell w14 ⟨b4, 0, none⟩ (.slice A1 Rl.length c1)) ⟨b4, 1, none⟩ (.slice A2 mT.length c2)) ⟨b4, 2, none⟩ (.slice A4 mO.length c4)) := (below_set (below_set (below_set HBa.out GE.out) GE.out) GE.out)
 clear aa HBa GE; generalize (World.setCell (World.setCell (World.setCell w14 ⟨b4, 0, none⟩ (.slice A1 Rl.length c1)) ⟨b4, 1, none⟩ (.slice A2 mT.length c2)) ⟨b4, 2, none⟩ (.slice A4 mO.length c4)) = w15 at n_ hb ⊢; have aa := n_; clear n_
 replace HB := zA (below_step HB.out hb)
 replace SVp0 := zA (SVp0.out.below hb)
 replace SVp1 := zA (SVp1.out.below hb)
 replace SVp2 := zA (SVp2.out.below hb)
 replace ac := zA (blk_keep ac.out hb)
 replace SV1 := zA (SV1.out.below hb)
 replace SV2 := zA (SV2.out.below hb)
 replace SV3 := zA (SV3.out.below hb)
 replace SV4 := zA (SV4.out.below hb)
 clear hb SV3
 have x0 : w15.cell? ⟨b1, 0, none⟩ = some (.slice Ap0 Rl.length cp0) := (blk_cell ac.out 0).trans rfl
 have x1 : w15.cell? ⟨b1, 1, none⟩ = some (.slice Ap1 mT.length cp1) := (blk_cell ac.out 1).trans rfl
 have x2 : w15.cell? ⟨b1, 2, none⟩ = some (.slice Ap2 mO.length cp2) := (blk_cell ac.out 2).trans rfl
 have y0 : w15.cell? ⟨b4, 0, none⟩ = some (.slice A1 Rl.length c1) := (blk_cell aa.out 0).trans rfl
 have y1 : w15.cell? ⟨b4, 1, none⟩ = some (.slice A2 mT.length c2) := (blk_cell aa.out 1).trans rfl
 have y2 : w15.cell? ⟨b4, 2, none⟩ = some (.slice A4 mO.length c4) := (blk_cell aa.out 2).trans rfl
 go_upto_region 5 with (first | ((with_reducible refine gate_callee (f := 25) rfl ?_); (try (refine gate_guard (by rfl) ?_; dsimp only)); refine goesL_ (some 46) rfl rfl Try.func25 (by kernel_rfl) rfl #[.agg #[.slice Ap0 Rl.length cp0, .slice Ap1 mT.length cp1, .slice Ap2 mO.length cp2], .agg #[.slice A1 Rl.length c1, .slice A2 mT.length c2, .slice A4 mO.length c4]] rfl (by (try simp only [List.map_toArray, List.map_cons, List.map_nil]); first | done | rfl) ?_; refine (c_same Rl mT mO Rl mT mO true (by kernel_rfl) _ _ _ _ _ _ _ SVp0.out SVp1.out SVp2.out SV1.out SV2.out SV4.out).mono ?_; rintro e w16 ⟨rfl, hb⟩; refine ⟨_, rfl, ?_⟩; replace HB := zA (below_step HB.out hb); replace SVp0 := zA (SVp0.out.below hb); replace SVp1 := zA (SVp1.out.below hb); replace SVp2 := zA (SVp2.out.below hb); replace ac := zA (blk_keep ac.out hb); replace SV1 := zA (SV1.out.below hb); replace SV2 := zA (SV2.out.below hb); replace SV4 := zA (SV4.out.below hb); replace aa := zA (blk_keep aa.out hb); clear hb; clear x0 x1 x2 y0 y1 y2))
 clear SVp0 SVp1 SVp2 ac
 go_upto_region 6 with (first | ((with_reducible refine gate_callee (f := 26) rfl ?_); (try (refine gate_guard (by rfl) ?_; dsimp only)); refine goesL_ (some 50) rfl rfl Try.func26 (by kernel_rfl) rfl #[] rfl (by (try simp only [List.map_toArray, List.map_cons, List.map_nil]); first | done | rfl) ?_; refine (c_R Rl (by kernel_rfl) _).mono ?_; rintro e w17 ⟨A5, c5, rfl, h_, hb⟩; refine ⟨_, rfl, ?_⟩; replace HB := zA (below_step HB.out hb); replace SV1 := zA (SV1.out.below hb); replace SV2 := zA (SV2.out.below hb); replace SV4 := zA (SV4.out.below hb); replace aa := zA (blk_keep aa.out hb); have SV5 := zA h_; clear hb h_) | ((with_reducible refine gate_callee (f := 26) rfl ?_); (try (refine gate_guard (by rfl) ?_; dsimp only)); refine goesL_ (some 51) rfl rfl Try.func26 (by kernel_rfl) rfl #[] rfl (by (try simp only [List.map_toArray, List.map_cons, List.map_nil]); first | done | rfl) ?_; refine (c_R Rl (by kernel_rfl) _).mono ?_; rintro e w18 ⟨A6, c6, rfl, h_, hb⟩; refine ⟨_, rfl, ?_⟩; replace HB := zA (below_step HB.out hb); replace SV1 := zA (SV1.out.below hb); replace SV2 := zA (SV2.out.below hb); replace SV4 := zA (SV4.out.below hb); replace aa := zA (blk_keep aa.out hb); replace SV5 := zA (SV5.out.below hb); have SV6 := zA h_; clear hb h_) | ((with_reducible refine gate_dst (N := 52) rfl ?_); (try (refine gate_guard (by rfl) ?_; dsimp only)); refine Kd.R_lit (Kd.int .i64) w18.heap.size 3 ?hg (N := 52) ?hd (xs := ([1, 0, 2] : List Int)) (inner := [.int .i64 (1), .int .i64 (0), .int .i64 (2)]) (ok := fun _ => True) (okp := fun _ => True) ?hr ?hp (fun _ hk => hk) trivial (Below.refl _ _) (Nat.le_refl _) (by decide) ?_; (case hd => rfl); (case hg => rfl); (case hr => first | (go_simp; done) | (go_simp; rfl)); (case hp => exact (Reps.one (show Kd.M (Kd.int .i64) _ _ _ (1 : Int) [.int .i64 (1)] from rfl) (Reps.one (show Kd.M (Kd.int .i64) _ _ _ (0 : Int) [.int .i64 (0)] from rfl) (Reps.one (show Kd.M (Kd.int .i64) _ _ _ (2 : Int) [.int .i64 (2)] from rfl) (Reps.none _ _))))); intro v w19 ho hb hg_ hnew_; clear hg_ hnew_; obtain ⟨A7, c7, rfl⟩ := Kd.R_slice ho; have h_ := SV.ofR ho; replace HB := zA (below_step HB.out hb); replace SV1 := zA (SV1.out.below hb); replace SV2 := zA (SV2.out.below hb); replace SV4 := zA (SV4.out.below hb); replace aa := zA (blk_keep aa.out hb); replace SV5 := zA (SV5.out.below hb); replace SV6 := zA (SV6.out.below hb); have SV7 := zA h_; clear hb ho h_) | ((with_reducible refine gate_callee (f := 44) rfl ?_); (try (refine gate_guard (by rfl) ?_; dsimp only)); refine goesL_ (some 53) rfl rfl Try.func44 (by kernel_rfl) rfl #[.slice A7 (List.length ([1, 0, 2] : List Int)) c7] rfl (by (try simp only [List.map_toArray, List.map_cons, List.map_nil]); first | done | rfl) ?_; refine (c_org [1, 0, 2] g1 (by kernel_rfl) _ _ SV7.out).mono ?_; rintro e w20 ⟨A8, c8, rfl, h_, hb⟩; refine ⟨_, rfl, ?_⟩; replace HB := zA (below_step HB.out hb); replace SV1 := zA (SV1.out.below hb); replace SV2 := zA (SV2.out.below hb); replace SV4 := zA (SV4.out.below hb); replace aa := zA (blk_keep aa.out hb); replace SV5 := zA (SV5.out.below hb); replace SV6 := zA (SV6.out.below hb); replace SV7 := zA (SV7.out.below hb); have SV8 := zA h_; clear hb h_) | ((with_reducible refine gate_callee (f := 41) rfl ?_); (try (refine gate_guard (by rfl) ?_; dsimp only)); refine goesL_ (some 55) rfl rfl Try.func41 (by kernel_rfl) rfl #[.agg #[.slice A5 Rl.length c5, .slice A6 Rl.length c6, .slice A8 g1.length c8]] rfl (by (try simp only [List.map_toArray, List.map_cons, List.map_nil]); first | done | rfl) ?_; refine (c_few Rl Rl g1 3 0 (by kernel_rfl) _ _ _ _ SV5.out SV6.out SV8.out).mono ?_; rintro e w21 ⟨rfl, hb⟩; refine ⟨_, rfl, ?_⟩; replace HB := zA (below_step HB.out hb); replace SV1 := zA (SV1.out.below hb); replace SV2 := zA (SV2.out.below hb); replace SV4 := zA (SV4.out.below hb); replace aa := zA (blk_keep aa.out hb); replace SV5 := zA (SV5.out.below hb); replace SV6 := zA (SV6.out.below hb); replace SV7 := zA (SV7.out.below hb); replace SV8 := zA (SV8.out.below hb); clear hb))
 clear SV5 SV6 SV7 SV8
 go_upto_region 7 with (first | ((with_reducible refine gate_callee (f := 26) rfl ?_); (try (refine gate_guard (by rfl) ?_; dsimp only)); refine goesL_ (some 59) rfl rfl Try.func26 (by kernel_rfl) rfl #[] rfl (by (try simp only [List.map_toArray, List.map_cons, List.map_nil]); first | done | rfl) ?_; refine (c_R Rl (by kernel_rfl) _).mono ?_; rintro e w22 ⟨A5, c5, rfl, h_, hb⟩; refine ⟨_, rfl, ?_⟩; replace HB := zA (below_step HB.out hb); replace SV1 := zA (SV1.out.below hb); replace SV2 := zA (SV2.out.below hb); replace SV4 := zA (SV4.out.below hb); replace aa := zA (blk_keep aa.out hb); have SV5 := zA h_; clear hb h_) | ((with_reducible refine gate_callee (f := 26) rfl ?_); (try (refine gate_guard (by rfl) ?_; dsimp only)); refine goesL_ (some 60) rfl rfl Try.func26 (by kernel_rfl) rfl #[] rfl (by (try simp only [List.map_toArray, List.map_cons, List.map_nil]); first | done | rfl) ?_; refine (c_R Rl (by kernel_rfl) _).mono ?_; rintro e w23 ⟨A6, c6, rfl, h_, hb⟩; refine ⟨_, rfl, ?_⟩; replace HB := zA (below_step HB.out hb); replace SV1 := zA (SV1.out.below hb); replace SV2 := zA (SV2.out.below hb); replace SV4 := zA (SV4.out.below hb); replace aa := zA (blk_keep aa.out hb); replace SV5 := zA (SV5.out.below hb); have SV6 := zA h_; clear hb h_) | ((with_reducible refine gate_dst (N := 61) rfl ?_); (try (refine gate_guard (by rfl) ?_; dsimp only)); refine Kd.R_lit (Kd.int .i64) w23.heap.size 3 ?hg (N := 61) ?hd (xs := ([100, 1, 2] : List Int)) (inner := [.int .i64 (100), .int .i64 (1), .int .i64 (2)]) (ok := fun _ => True) (okp := fun _ => True) ?hr ?hp (fun _ hk => hk) trivial (Below.refl _ _) (Nat.le_refl _) (by decide) ?_; (case hd => rfl); (case hg => rfl); (case hr => first | (go_simp; done) | (go_simp; rfl)); (case hp => exact (Reps.one (show Kd.M (Kd.int .i64) _ _ _ (100 : Int) [.int .i64 (100)] from rfl) (Reps.one (show Kd.M (Kd.int .i64) _ _ _ (1 : Int) [.int .i64 (1)] from rfl) (Reps.one (show Kd.M (Kd.int .i64) _ _ _ (2 : Int) [.int .i64 (2)] from rfl) (Reps.none _ _))))); intro v w24 ho hb hg_ hnew_; clear hg_ hnew_; obtain ⟨A7, c7, rfl⟩ := Kd.R_slice ho; have h_ := SV.ofR ho; replace HB := zA (below_step HB.out hb); replace SV1 := zA (SV1.out.below hb); replace SV2 := zA (SV2.out.below hb); replace SV4 := zA (SV4.out.below hb); replace aa := zA (blk_keep aa.out hb); replace SV5 := zA (SV5.out.below hb); replace SV6 := zA (SV6.out.below hb); have SV7 := zA h_; clear hb ho h_) | ((with_reducible refine gate_callee (f := 44) rfl ?_); (try (refine gate_guard (by rfl) ?_; dsimp only)); refine goesL_ (some 62) rfl rfl Try.func44 (by kernel_rfl) rfl #[.slice A7 (List.length ([100, 1, 2] : List Int)) c7] rfl (by (try simp only [List.map_toArray, List.map_cons, List.map_nil]); first | done | rfl) ?_; refine (c_org [100, 1, 2] g2 (by kernel_rfl) _ _ SV7.out).mono ?_; rintro e w25 ⟨A8, c8, rfl, h_, hb⟩; refine ⟨_, rfl, ?_⟩; replace HB := zA (below_step HB.out hb); replace SV1 := zA (SV1.out.below hb); replace SV2 := zA (SV2.out.below hb); replace SV4 := zA (SV4.out.below hb); replace aa := zA (blk_keep aa.out hb); replace SV5 := zA (SV5.out.below hb); replace SV6 := zA (SV6.out.below hb); replace SV7 := zA (SV7.out.below hb); have SV8 := zA h_; clear hb h_) | ((with_reducible refine gate_callee (f := 41) rfl ?_); (try (refine gate_guard (by rfl) ?_; dsimp only)); refine goesL_ (some 64) rfl rfl Try.func41 (by kernel_rfl) rfl #[.agg #[.slice A5 Rl.length c5, .slice A6 Rl.length c6, .slice A8 g2.length c8]] rfl (by (try simp only [List.map_toArray, List.map_cons, List.map_nil]); first | done | rfl) ?_; refine (c_few Rl Rl g2 3 0 (by kernel_rfl) _ _ _ _ SV5.out SV6.out SV8.out).mono ?_; rintro e w26 ⟨rfl, hb⟩; refine ⟨_, rfl, ?_⟩; replace HB := zA (below_step HB.out hb); replace SV1 := zA (SV1.out.below hb); replace SV2 := zA (SV2.out.below hb); replace SV4 := zA (SV4.out.below hb); replace aa := zA (blk_keep aa.out hb); replace SV5 := zA (SV5.out.below hb); replace SV6 := zA (SV6.out.below hb); replace SV7 := zA (SV7.out.below hb); replace SV8 := zA (SV8.out.below hb); clear hb))
 clear SV5 SV6 SV7 SV8
 go_upto_region 8 with (first | ((with_reducible refine gate_callee (f := 26) rfl ?_); (try (refine gate_guard (by rfl) ?_; dsimp only)); refine goesL_ (some 68) rfl rfl Try.func26 (by kernel_rfl) rfl #[] rfl (by (try simp only [List.map_toArray, List.map_cons, List.map_nil]); first | done | rfl) ?_; refine (c_R Rl (by kernel_rfl) _).mono ?_; rintro e w27 ⟨A5, c5, rfl, h_, hb⟩; refine ⟨_, rfl, ?_⟩; replace HB := zA (below_step HB.out hb); replace SV1 := zA (SV1.out.below hb); replace SV2 := zA (SV2.out.below hb); replace SV4 := zA (SV4.out.below hb); replace aa := zA (blk_keep aa.out hb); have SV5 := zA h_; clear hb h_) | ((with_reducible refine gate_callee (f := 26) rfl ?_); (try (refine gate_guard (by rfl) ?_; dsimp only)); refine goesL_ (some 69) rfl rfl Try.func26 (by kernel_rfl) rfl #[] rfl (by (try simp only [List.map_toArray, List.map_cons, List.map_nil]); first | done | rfl) ?_; refine (c_R Rl (by kernel_rfl) _).mono ?_; rintro e w28 ⟨A6, c6, rfl, h_, hb⟩; refine ⟨_, rfl, ?_⟩; replace HB := zA (below_step HB.out hb); replace SV1 := zA (SV1.out.below hb); replace SV2 := zA (SV2.out.below hb); replace SV4 := zA (SV4.out.below hb); replace aa := zA (blk_keep aa.out hb); replace SV5 := zA (SV5.out.below hb); have SV6 := zA h_; clear hb h_) | ((with_reducible refine gate_dst (N := 70) rfl ?_); (try (refine gate_guard (by rfl) ?_; dsimp only)); refine Kd.R_lit (Kd.int .i64) w28.heap.size 3 ?hg (N := 70) ?hd (xs := ([-1, 1, 2] : List Int)) (inner := [.int .i64 (-1), .int .i64 (1), .int .i64 (2)]) (ok := fun _ => True) (okp := fun _ => True) ?hr ?hp (fun _ hk => hk) trivial (Below.refl _ _) (Nat.le_refl _) (by decide) ?_; (case hd => rfl); (case hg => rfl); (case hr => first | (go_simp; done) | (go_simp; rfl)); (case hp => exact (Reps.one (show Kd.M (Kd.int .i64) _ _ _ (-1 : Int) [.int .i64 (-1)] from rfl) (Reps.one (show Kd.M (Kd.int .i64) _ _ _ (1 : Int) [.int .i64 (1)] from rfl) (Reps.one (show Kd.M (Kd.int .i64) _ _ _ (2 : Int) [.int .i64 (2)] from rfl) (Reps.none _ _))))); intro v w29 ho hb hg_ hnew_; clear hg_ hnew_; obtain ⟨A7, c7, rfl⟩ := Kd.R_slice ho; have h_ := SV.ofR ho; replace HB := zA (below_step HB.out hb); replace SV1 := zA (SV1.out.below hb); replace SV2 := zA (SV2.out.below hb); replace SV4 := zA (SV4.out.below hb); replace aa := zA (blk_keep aa.out hb); replace SV5 := zA (SV5.out.below hb); replace SV6 := zA (SV6.out.below hb); have SV7 := zA h_; clear hb ho h_) | ((with_reducible refine gate_callee (f := 44) rfl ?_); (try (refine gate_guard (by rfl) ?_; dsimp only)); refine goesL_ (some 71) rfl rfl Try.func44 (by kernel_rfl) rfl #[.slice A7 (List.length ([-1, 1, 2] : List Int)) c7] rfl (by (try simp only [List.map_toArray, List.map_cons, List.map_nil]); first | done | rfl) ?_; refine (c_org [-1, 1, 2] g3 (by kernel_rfl) _ _ SV7.out).mono ?_; rintro e w30 ⟨A8, c8, rfl, h_, hb⟩; refine ⟨_, rfl, ?_⟩; replace HB := zA (below_step HB.out hb); replace SV1 := zA (SV1.out.below hb); replace SV2 := zA (SV2.out.below hb); replace SV4 := zA (SV4.out.below hb); replace aa := zA (blk_keep aa.out hb); replace SV5 := zA (SV5.out.below hb); replace SV6 := zA (SV6.out.below hb); replace SV7 := zA (SV7.out.below hb); have SV8 := zA h_; clear hb h_) | ((with_reducible refine gate_callee (f := 41) rfl ?_); (try (refine gate_guard (by rfl) ?_; dsimp only)); refine goesL_ (some 73) rfl rfl Try.func41 (by kernel_rfl) rfl #[.agg #[.slice A5 Rl.length c5, .slice A6 Rl.length c6, .slice A8 g3.length c8]] rfl (by (try simp only [List.map_toArray, List.map_cons, List.map_nil]); first | done | rfl) ?_; refine (c_few Rl Rl g3 2 0 (by kernel_rfl) _ _ _ _ SV5.out SV6.out SV8.out).mono ?_; rintro e w31 ⟨rfl, hb⟩; refine ⟨_, rfl, ?_⟩; replace HB := zA (below_step HB.out hb); replace SV1 := zA (SV1.out.below hb); replace SV2 := zA (SV2.out.below hb); replace SV4 := zA (SV4.out.below hb); replace aa := zA (blk_keep aa.out hb); replace SV5 := zA (SV5.out.below hb); replace SV6 := zA (SV6.out.below hb); replace SV7 := zA (SV7.out.below hb); replace SV8 := zA (SV8.out.below hb); clear hb))
 clear SV5 SV6 SV7 SV8
 go_upto_region 9 with (first | ((with_reducible refine gate_callee (f := 26) rfl ?_); (try (refine gate_guard (by rfl) ?_; dsimp only)); refine goesL_ (some 77) rfl rfl Try.func26 (by kernel_rfl) rfl #[] rfl (by (try simp only [List.map_toArray, List.map_cons, List.map_nil]); first | done | rfl) ?_; refine (c_R Rl (by kernel_rfl) _).mono ?_; rintro e w32 ⟨A5, c5, rfl, h_, hb⟩; refine ⟨_, rfl, ?_⟩; replace HB := zA (below_step HB.out hb); replace SV1 := zA (SV1.out.below hb); replace SV2 := zA (SV2.out.below hb); replace SV4 := zA (SV4.out.below hb); replace aa := zA (blk_keep aa.out hb); have SV5 := zA h_; clear hb h_) | ((with_reducible refine gate_callee (f := 27) rfl ?_); (try (refine gate_guard (by rfl) ?_; dsimp only)); refine goesL_ (some 78) rfl rfl Try.func27 (by kernel_rfl) rfl #[.int .i64 0, .int .i64 40, .int .i64 5] rfl (by (try simp only [List.map_toArray, List.map_cons, List.map_nil]); first | done | rfl) ?_; refine (c_note 0 40 5 _).mono ?_; rintro e w33 ⟨rfl, hb⟩; refine ⟨_, rfl, ?_⟩; replace HB := zA (below_step HB.out hb); replace SV1 := zA (SV1.out.below hb); replace SV2 := zA (SV2.out.below hb); replace SV4 := zA (SV4.out.below hb); replace aa := zA (blk_keep aa.out hb); replace SV5 := zA (SV5.out.below hb); clear hb) | ((with_reducible refine gate_callee (f := 27) rfl ?_); (try (refine gate_guard (by rfl) ?_; dsimp only)); refine goesL_ (some 79) rfl rfl Try.func27 (by kernel_rfl) rfl #[.int .i64 5, .int .i64 50, .int .i64 5] rfl (by (try simp only [List.map_toArray, List.map_cons, List.map_nil]); first | done | rfl) ?_; refine (c_note 5 50 5 _).mono ?_; rintro e w34 ⟨rfl, hb⟩; refine ⟨_, rfl, ?_⟩; replace HB := zA (below_step HB.out hb); replace SV1 := zA (SV1.out.below hb); replace SV2 := zA (SV2.out.below hb); replace SV4 := zA (SV4.out.below hb); replace aa := zA (blk_keep aa.out hb); replace SV5 := zA (SV5.out.below hb); clear hb) | ((with_reducible refine gate_callee (f := 27) rfl ?_); (try (refine gate_guard (by rfl) ?_; dsimp only)); refine goesL_ (some 80) rfl rfl Try.func27 (by kernel_rfl) rfl #[.int .i64 10, .int .i64 42, .int .i64 5] rfl (by (try simp only [List.map_toArray, List.map_cons, List.map_nil]); first | done | rfl) ?_; refine (c_note 10 42 5 _).mono ?_; rintro e w35 ⟨rfl, hb⟩; refine ⟨_, rfl, ?_⟩; replace HB := zA (below_step HB.out hb); replace SV1 := zA (SV1.out.below hb); replace SV2 := zA (SV2.out.below hb); replace SV4 := zA (SV4.out.below hb); replace aa := zA (blk_keep aa.out hb); replace SV5 := zA (SV5.out.below hb); clear hb) | ((with_reducible refine gate_dst (N := 81) rfl ?_); (try (refine gate_guard (by rfl) ?_; dsimp only)); refine Kd.R_lit k61 w35.heap.size 61 ?hg (N := 81) ?hd (xs := fT) (inner := [.int .i64 0, .int .i64 40, .int .i64 5, .int .i64 5, .int .i64 50, .int .i64 5, .int .i64 10, .int .i64 42, .int .i64 5]) (ok := fun _ => True) (okp := fun _ => True) ?hr ?hp (fun _ hk => hk) trivial (Below.refl _ _) (Nat.le_refl _) (by decide) ?_; (case hd => rfl); (case hg => rfl); (case hr => first | (go_simp; done) | (go_simp; rfl)); (case hp => exact (Reps.c3 (show Kd.M k61 _ _ _ (⟨0, 40, 5⟩ : S61) [.int .i64 0, .int .i64 40, .int .i64 5] from (k61_mkM _ _ _ _)) (Reps.c3 (show Kd.M k61 _ _ _ (⟨5, 50, 5⟩ : S61) [.int .i64 5, .int .i64 50, .int .i64 5] from (k61_mkM _ _ _ _)) (Reps.c3 (show Kd.M k61 _ _ _ (⟨10, 42, 5⟩ : S61) [.int .i64 10, .int .i64 42, .int .i64 5] from (k61_mkM _ _ _ _)) (Reps.none _ _))))); intro v w36 ho hb hg_ hnew_; clear hg_ hnew_; obtain ⟨A6, c6, rfl⟩ := Kd.R_slice ho; have h_ := SV.ofR ho; replace HB := zA (below_step HB.out hb); replace SV1 := zA (SV1.out.below hb); replace SV2 := zA (SV2.out.below hb); replace SV4 := zA (SV4.out.below hb); replace aa := zA (blk_keep aa.out hb); replace SV5 := zA (SV5.out.below hb); have SV6 := zA h_; clear hb ho h_) | ((with_reducible refine gate_dst (N := 82) rfl ?_); (try (refine gate_guard (by rfl) ?_; dsimp only)); refine Kd.R_lit (Kd.int .i64) w36.heap.size 3 ?hg (N := 82) ?hd (xs := ([100, 100, 1] : List Int)) (inner := [.int .i64 (100), .int .i64 (100), .int .i64 (1)]) (ok := fun _ => True) (okp := fun _ => True) ?hr ?hp (fun _ hk => hk) trivial (Below.refl _ _) (Nat.le_refl _) (by decide) ?_; (case hd => rfl); (case hg => rfl); (case hr => first | (go_simp; done) | (go_simp; rfl)); (case hp => exact (Reps.one (show Kd.M (Kd.int .i64) _ _ _ (100 : Int) [.int .i64 (100)] from rfl) (Reps.one (show Kd.M (Kd.int .i64) _ _ _ (100 : Int) [.int .i64 (100)] from rfl) (Reps.one (show Kd.M (Kd.int .i64) _ _ _ (1 : Int) [.int .i64 (1)] from rfl) (Reps.none _ _))))); intro v w37 ho hb hg_ hnew_; clear hg_ hnew_; obtain ⟨A7, c7, rfl⟩ := Kd.R_slice ho; have h_ := SV.ofR ho; replace HB := zA (below_step HB.out hb); replace SV1 := zA (SV1.out.below hb); replace SV2 := zA (SV2.out.below hb); replace SV4 := zA (SV4.out.below hb); replace aa := zA (blk_keep aa.out hb); replace SV5 := zA (SV5.out.below hb); replace SV6 := zA (SV6.out.below hb); have SV7 := zA h_; clear hb ho h_) | ((with_reducible refine gate_callee (f := 44) rfl ?_); (try (refine gate_guard (by rfl) ?_; dsimp only)); refine goesL_ (some 83) rfl rfl Try.func44 (by kernel_rfl) rfl #[.slice A7 (List.length ([100, 100, 1] : List Int)) c7] rfl (by (try simp only [List.map_toArray, List.map_cons, List.map_nil]); first | done | rfl) ?_; refine (c_org [100, 100, 1] g4 (by kernel_rfl) _ _ SV7.out).mono ?_; rintro e w38 ⟨A8, c8, rfl, h_, hb⟩; refine ⟨_, rfl, ?_⟩; replace HB := zA (below_step HB.out hb); replace SV1 := zA (SV1.out.below hb); replace SV2 := zA (SV2.out.below hb); replace SV4 := zA (SV4.out.below hb); replace aa := zA (blk_keep aa.out hb); replace SV5 := zA (SV5.out.below hb); replace SV6 := zA (SV6.out.below hb); replace SV7 := zA (SV7.out.below hb); have SV8 := zA h_; clear hb h_) | ((with_reducible refine gate_callee (f := 41) rfl ?_); (try (refine gate_guard (by rfl) ?_; dsimp only)); refine goesL_ (some 85) rfl rfl Try.func41 (by kernel_rfl) rfl #[.agg #[.slice A5 Rl.length c5, .slice A6 fT.length c6, .slice A8 g4.length c8]] rfl (by (try simp only [List.map_toArray, List.map_cons, List.map_nil]); first | done | rfl) ?_; refine (c_few Rl fT g4 4 0 (by kernel_rfl) _ _ _ _ SV5.out SV6.out SV8.out).mono ?_; rintro e w39 ⟨rfl, hb⟩; refine ⟨_, rfl, ?_⟩; replace HB := zA (below_step HB.out hb); replace SV1 := zA (SV1.out.below hb); replace SV2 := zA (SV2.out.below hb); replace SV4 := zA (SV4.out.below hb); replace aa := zA (blk_keep aa.out hb); replace SV5 := zA (SV5.out.below hb); replace SV6 := zA (SV6.out.below hb); replace SV7 := zA (SV7.out.below hb); replace SV8 := zA (SV8.out.below hb); clear hb))
 clear SV5 SV6 SV7 SV8
 go_upto_region 11 with (fail)
 have hb : Below w39.heap.size w39 w39.drew := below_drew1 (Below.refl _ _)
 replace HB := zA (below_step HB.out hb)
 replace SV1 := zA (SV1.out.below hb)
 replace SV2 := zA (SV2.out.below hb)
 replace SV4 := zA (SV4.out.below hb)
 replace aa := zA (blk_keep aa.out hb)
 clear hb
 refine start_ (n := 15) (S := fun w' => w'.heap[b4]? = some (.cells #[.slice A1 Rl.length c1, .slice A2 mT.length c2, .slice A4 mO.length c4] 28 (0, 0))) (ds := []) #[false, false, false, false, false, false, false, false, false, false, false, false, false, false, false] (by kernel_rfl) rfl rfl aa.out (fun hHeld => ?_); refine with_tabW works13.tab11 works13.bits11 (fun HT_ HW_ => ?_)
 generalize w39.drew = w40 at HB SV1 SV2 SV4 aa hHeld ⊢
 refine pureQ 0 (some 119) HT_ ?_
 refine takeQ (v := ?_) (a' := ?_) 1 (some 120) HT_ HW_ hHeld ?_ ?_ ?_
 rotate_left
 ·
  rintro w' s0
  have y0 : w'.cell? ⟨b4, 0, none⟩ = some (.slice A1 Rl.length c1) := (blk_cell s0 0).trans rfl
  have y1 : w'.cell? ⟨b4, 1, none⟩ = some (.slice A2 mT.length c2) := (blk_cell s0 1).trans rfl
  have y2 : w'.cell? ⟨b4, 2, none⟩ = some (.slice A4 mO.length c4) := (blk_cell s0 2).trans rfl
  go_simp
  with_reducible rfl
 rotate_left
 ·
  exact putQ
 refine pureQ 2 (some 121) HT_ ?_
 have HW : Aside0 (Below w40.heap.size w40 w40) := ⟨Below.refl _ _⟩
 refine join_ (σ := Option Addr × Nat × Option Addr × Nat × Option Addr × Nat × Option Addr × Nat × Nat) 3 #[true, true, true, true, true, true, true, true, true, true, true, true, false, false, false] (fun s => [(122, .agg #[.int .i64 50, .int .i64 1, .int .i64 1]), (123, .agg #[.int .i64 4, .int .i64 10, .int .i64 42, .int .i64 50, .int .i64 1, .int .i64 1]), (124, .slice (s.2.2.2.2.2.2.1) s2.length (s.2.2.2.2.2.2.2.1)), (125, .tuple #[.agg #[.slice (s.1) mT.length (s.2.1), .slice (s.2.2.1) qT.length (s.2.2.2.1), .slice (s.2.2.2.2.1) qO.length (s.2.2.2.2.2.1)], .int .i64 2, .int .i64 0]), (118, .tuple #[.agg #[.slice (s.1) mT.length (s.2.1), .slice (s.2.2.1) qT.length (s.2.2.2.1), .slice (s.2.2.2.2.1) qO.length (s.2.2.2.2.2.1)], .int .i64 2, .int .i64 0]), (126, .agg #[.slice (s.1) mT.length (s.2.1), .slice (s.2.2.1) qT.length (s.2.2.2.1), .slice (s.2.2.2.2.1) qO.length (s.2.2.2.2.2.1)]), (127, .int .i64 2), (128, .int .i64 0), (12, .pointer (some ⟨(s.2.2.2.2.2.2.2.2), 0, none⟩))]) (fun s w' => Below w40.heap.size w40 w' ∧ w40.heap.size ≤ (s.2.2.2.2.2.2.2.2) ∧ w'.heap[(s.2.2.2.2.2.2.2.2)]? = some (.cells #[.slice none 0 0, .slice none 0 0, .slice none 0 0] 28 (0, 0)) ∧ w'.heap[b4]? = some (.cells #[.slice A1 Rl.length c1, .slice A2 mT.length c2, .slice A4 mO.length c4] 28 (0, 0)) ∧ Kd.R k61 61 w' w.heap.size (fun _ => True) (.slice (s.1) mT.length (s.2.1)) mT ∧ Kd.R k61 61 w' w.heap.size (fun _ => True) (.slice (s.2.2.1) qT.length (s.2.2.2.1)) qT ∧ Kd.R k67 67 w' w.heap.size (fun _ => True) (.slice (s.2.2.2.2.1) qO.length (s.2.2.2.2.2.1)) qO) ?_ ?_
 rotate_left
 ·
  intro hCont
  refine two_ (i := 3) (j := 11) (Ni := some 122) (Nj := some 12) #[true, true, true, true, false, false, false, false, false, false, false, false, false, false, false] #[true, true, true, false, false, false, false, false, false, false, false, true, false, false, false] rfl rfl rfl rfl (two_of HT_.out (by kernel_rfl)) (by decide) (by decide) (fun K hK => ?_) (fun K hK => ?_)
  ·
   skip
   refine goes_ Try.func27 (by kernel_rfl) rfl #[.int .i64 50, .int .i64 1, .int .i64 1] (by rfl) rfl rfl (by (try simp only [List.map_toArray, List.map_cons, List.map_nil]); first | done | rfl) ?_
   refine (c_note 50 1 1 _).mono ?_
   rintro e w41 ⟨rfl, hb⟩
   replace HW := zA (below_step HW.out hb)
   clear hb
   refine ⟨_, rfl, ?_⟩
   clear hHeld
   refine hK.out _ _ (blk_keep aa.out HW.out) (fun hHeld => ?_)
   clear hK K
   refine normQ ?_
   refine pureQ 4 (some 123) HT_ ?_
   refine two_ (i := 5) (j := 11) (Ni := some 124) (Nj := some 12) #[true, true, true, true, true, true, false, false, false, false, false, false, false, false, false] #[true, true, true, true, true, false, false, false, false, false, false, true, false, false, false] rfl rfl rfl rfl (two_of HT_.out (by kernel_rfl)) (by decide) (by decide) (fun K hK => ?_) (fun K hK => ?_)
   ·
    skip
    refine value_ (v := .slice (some ⟨w41.heap.size, 0, none⟩) s2.length s2.length) (w1 := w41.alloc (.cells #[.int .i64 1, .int .i64 30, .int .i64 40, .int .i64 0, .int .i64 0, .int .i64 0, .int .i64 4, .int .i64 10, .int .i64 42, .int .i64 50, .int .i64 1, .int .i64 1] 65)) (by rfl) rfl (by go_simp; rfl) ?_
    have h_ := SV.lit (k := k65) (l := s2) (cs := [.int .i64 1, .int .i64 30, .int .i64 40, .int .i64 0, .int .i64 0, .int .i64 0, .int .i64 4, .int .i64 10, .int .i64 42, .int .i64 50, .int .i64 1, .int .i64 1]) (heap_alloc_new w41 (.cells #[.int .i64 1, .int .i64 30, .int .i64 40, .int .i64 0, .int .i64 0, .int .i64 0, .int .i64 4, .int .i64 10, .int .i64 42, .int .i64 50, .int .i64 1, .int .i64 1] 65)) (Reps.c6 (show Kd.K k65 _ (⟨1, 30, 40, ⟨0, 0, 0⟩⟩ : S65) [.int .i64 1, .int .i64 30, .int .i64 40, .int .i64 0, .int .i64 0, .int .i64 0] from (k65_mk _ _)) (Reps.c6 (show Kd.K k65 _ (⟨4, 10, 42, ⟨50, 1, 1⟩⟩ : S65) [.int .i64 4, .int .i64 10, .int .i64 42, .int .i64 50, .int .i64 1, .int .i64 1] from (k65_mk _ _)) (Reps.none _ _))) (by decide)
    obtain ⟨A3, hA3⟩ : ∃ a_ : Option Addr, a_ = some ⟨w41.heap.size, 0, none⟩ := ⟨_, rfl⟩
    obtain ⟨c3, hc3⟩ : ∃ c_ : Nat, c_ = s2.length := ⟨_, rfl⟩
    have h2_ : SV k65 (.slice A3 s2.length c3) s2 (w41.alloc (.cells #[.int .i64 1, .int .i64 30, .int .i64 40, .int .i64 0, .int .i64 0, .int .i64 0, .int .i64 4, .int .i64 10, .int .i64 42, .int .i64 50, .int .i64 1, .int .i64 1] 65)) := by rw [hA3, hc3]; exact h_
    have hv_ : (Value.slice (some ⟨w41.heap.size, 0, none⟩) s2.length s2.length) = .slice A3 s2.length c3 := by rw [hA3, hc3]
    rw [hv_]
    have hb := below_alloc (Below.refl w41.heap.size w41) (.cells #[.int .i64 1, .int .i64 30, .int .i64 40, .int .i64 0, .int .i64 0, .int .i64 0, .int .i64 4, .int .i64 10, .int .i64 42, .int .i64 50, .int .i64 1, .int .i64 1] 65)
    have SV3 := zA h2_
    clear h_ h2_ hv_ hA3 hc3 hHeld; generalize w41.alloc (.cells #[.int .i64 1, .int .i64 30, .int .i64 40, .int .i64 0, .int .i64 0, .int .i64 0, .int .i64 4, .int .i64 10, .int .i64 42, .int .i64 50, .int .i64 1, .int .i64 1] 65) = w42 at hb SV3 ⊢
    replace HW := zA (below_step HW.out hb)
    clear hb
    refine hK.out _ _ (blk_keep aa.out HW.out) (fun hHeld => ?_)
    clear hK K
    refine normQ ?_
    refine two_ (i := 6) (j := 11) (Ni := some 125) (Nj := some 12) #[true, true, true, true, true, true, true, false, false, false, false, false, false, false, false] #[true, true, true, true, true, true, false, false, false, false, false, true, false, false, false] rfl rfl rfl rfl (two_of HT_.out (by kernel_rfl)) (by decide) (by decide) (fun K hK => ?_) (fun K hK => ?_)
    ·
     skip
     refine goes_ Try.func14 (by kernel_rfl) rfl #[.slice A2 mT.length c2, .slice A3 s2.length c3] (by rfl) rfl rfl (by (try simp only [List.map_toArray, List.map_cons, List.map_nil]); first | done | rfl) ?_
     refine (c_runR mT s2 mT qT qO 2 0 (by kernel_rfl) _ _ _ (SV2.out.below HW.out) SV3.out).mono ?_
     rintro e w43 ⟨Aq0, cq0, Aq1, cq1, Aq2, cq2, rfl, h0_, h1_, h2_, hb⟩
     have hlo_ := Nat.le_trans HB.out.size HW.out.size
     replace HW := zA (below_step HW.out hb)
     replace SV3 := zA (SV3.out.below hb)
     have RVq0 := zA (Kd.R_lower h0_ hlo_)
     have RVq1 := zA (Kd.R_lower h1_ hlo_)
     have RVq2 := zA (Kd.R_lower h2_ hlo_)
     clear hb h0_ h1_ h2_ hlo_
     refine ⟨_, rfl, ?_⟩
     clear hHeld
     refine hK.out _ _ (blk_keep aa.out HW.out) (fun hHeld => ?_)
     clear hK K
     refine normQ ?_
     refine pureQ 7 (some 118) HT_ ?_
     refine pureQ 8 (some 126) HT_ ?_
     refine pureQ 9 (some 127) HT_ ?_
     refine pureQ 10 (some 128) HT_ ?_
     refine one_ (i := 11) (N := (some 12)) #[true, true, true, true, true, true, true, true, true, true, true, true, false, false, false] rfl rfl (one_of HT_.out (by kernel_rfl)) (by decide) (fun K hK => ?_)
     refine value_ (v := .pointer (some ⟨w43.heap.size, 0, none⟩)) (w1 := w43.alloc (.cells #[.slice none 0 0, .slice none 0 0, .slice none 0 0] 28)) (by rfl) rfl (by go_simp) ?_
     have ab := zA (heap_alloc_new w43 (.cells #[.slice none 0 0, .slice none 0 0, .slice none 0 0] 28))
     have hb := below_alloc (Below.refl w43.heap.size w43) (.cells #[.slice none 0 0, .slice none 0 0, .slice none 0 0] 28)
     obtain ⟨b12, hg_⟩ : ∃ g_ : Nat, g_ = w43.heap.size := ⟨_, rfl⟩
     have GB : Aside0 (w40.heap.size ≤ b12) := ⟨by rw [hg_]; exact HW.out.size⟩
     rw [← hg_] at ab ⊢
     replace HW := zA (below_step HW.out hb)
     replace SV3 := zA (SV3.out.below hb)
     replace RVq0 := zA (Kd.R_below RVq0.out hb)
     replace RVq1 := zA (Kd.R_below RVq1.out hb)
     replace RVq2 := zA (Kd.R_below RVq2.out hb)
     clear hb hg_ hHeld; generalize w43.alloc (.cells #[.slice none 0 0, .slice none 0 0, .slice none 0 0] 28) = w44 at ab HW SV3 RVq0 RVq1 RVq2 ⊢
     refine hK.out _ _ (blk_keep aa.out HW.out) (fun hHeld => ?_)
     clear hK K
     refine normQ ?_
     exact norm_ (by simp only [putAll, Act.put, List.setIfInBounds_toArray, List.set_cons_zero, List.set_cons_succ]) (hCont (Aq0, cq0, Aq1, cq1, Aq2, cq2, A3, c3, b12) _ ⟨HW.out, GB.out, ab.out, blk_keep aa.out HW.out, RVq0.out, RVq1.out, RVq2.out⟩)
    ·
     skip
     refine value_ (v := .pointer (some ⟨w42.heap.size, 0, none⟩)) (w1 := w42.alloc (.cells #[.slice none 0 0, .slice none 0 0, .slice none 0 0] 28)) (by rfl) rfl (by go_simp) ?_
     have ab := zA (heap_alloc_new w42 (.cells #[.slice none 0 0, .slice none 0 0, .slice none 0 0] 28))
     have hb := below_alloc (Below.refl w42.heap.size w42) (.cells #[.slice none 0 0, .slice none 0 0, .slice none 0 0] 28)
     obtain ⟨b12, hg_⟩ : ∃ g_ : Nat, g_ = w42.heap.size := ⟨_, rfl⟩
     have GB : Aside0 (w40.heap.size ≤ b12) := ⟨by rw [hg_]; exact HW.out.size⟩
     rw [← hg_] at ab ⊢
     replace HW := zA (below_step HW.out hb)
     replace SV3 := zA (SV3.out.below hb)
     clear hb hg_ hHeld; generalize w42.alloc (.cells #[.slice none 0 0, .slice none 0 0, .slice none 0 0] 28) = w45 at ab HW SV3 ⊢
     refine hK.out _ _ (blk_keep aa.out HW.out) (fun hHeld => ?_)
     clear hK K
     refine normQ ?_
     refine one_ (i := 6) (N := (some 125)) #[true, true, true, true, true, true, true, false, false, false, false, true, false, false, false] rfl rfl (one_of HT_.out (by kernel_rfl)) (by decide) (fun K hK => ?_)
     refine goes_ Try.func14 (by kernel_rfl) rfl #[.slice A2 mT.length c2, .slice A3 s2.length c3] (by rfl) rfl rfl (by (try simp only [List.map_toArray, List.map_cons, List.map_nil]); first | done | rfl) ?_
     refine (c_runR mT s2 mT qT qO 2 0 (by kernel_rfl) _ _ _ (SV2.out.below HW.out) SV3.out).mono ?_
     rintro e w46 ⟨Aq0, cq0, Aq1, cq1, Aq2, cq2, rfl, h0_, h1_, h2_, hb⟩
     have hlo_ := Nat.le_trans HB.out.size HW.out.size
     replace HW := zA (below_step HW.out hb)
     replace SV3 := zA (SV3.out.below hb)
     replace ab := zA (blk_keep ab.out hb)
     have RVq0 := zA (Kd.R_lower h0_ hlo_)
     have RVq1 := zA (Kd.R_lower h1_ hlo_)
     have RVq2 := zA (Kd.R_lower h2_ hlo_)
     clear hb h0_ h1_ h2_ hlo_
     refine ⟨_, rfl, ?_⟩
     clear hHeld
     refine hK.out _ _ (blk_keep aa.out HW.out) (fun hHeld => ?_)
     clear hK K
     refine normQ ?_
     refine pureQ 7 (some 118) HT_ ?_
     refine pureQ 8 (some 126) HT_ ?_
     refine pureQ 9 (some 127) HT_ ?_
     refine pureQ 10 (some 128) HT_ ?_
     exact norm_ (by simp only [putAll, Act.put, List.setIfInBounds_toArray, List.set_cons_zero, List.set_cons_succ]) (hCont (Aq0, cq0, Aq1, cq1, Aq2, cq2, A3, c3, b12) _ ⟨HW.out, GB.out, ab.out, blk_keep aa.out HW.out, RVq0.out, RVq1.out, RVq2.out⟩)
   ·
    skip
    refine value_ (v := .pointer (some ⟨w41.heap.size, 0, none⟩)) (w1 := w41.alloc (.cells #[.slice none 0 0, .slice none 0 0, .slice none 0 0] 28)) (by rfl) rfl (by go_simp) ?_
    have ab := zA (heap_alloc_new w41 (.cells #[.slice none 0 0, .slice none 0 0, .slice none 0 0] 28))
    have hb := below_alloc (Below.refl w41.heap.size w41) (.cells #[.slice none 0 0, .slice none 0 0, .slice none 0 0] 28)
    obtain ⟨b12, hg_⟩ : ∃ g_ : Nat, g_ = w41.heap.size := ⟨_, rfl⟩
    have GB : Aside0 (w40.heap.size ≤ b12) := ⟨by rw [hg_]; exact HW.out.size⟩
    rw [← hg_] at ab ⊢
    replace HW := zA (below_step HW.out hb)
    clear hb hg_ hHeld; generalize w41.alloc (.cells #[.slice none 0 0, .slice none 0 0, .slice none 0 0] 28) = w47 at ab HW ⊢
    refine hK.out _ _ (blk_keep aa.out HW.out) (fun hHeld => ?_)
    clear hK K
    refine normQ ?_
    refine one_ (i := 5) (N := (some 124)) #[true, true, true, true, true, true, false, false, false, false, false, true, false, false, false] rfl rfl (one_of HT_.out (by kernel_rfl)) (by decide) (fun K hK => ?_)
    refine value_ (v := .slice (some ⟨w47.heap.size, 0, none⟩) s2.length s2.length) (w1 := w47.alloc (.cells #[.int .i64 1, .int .i64 30, .int .i64 40, .int .i64 0, .int .i64 0, .int .i64 0, .int .i64 4, .int .i64 10, .int .i64 42, .int .i64 50, .int .i64 1, .int .i64 1] 65)) (by rfl) rfl (by go_simp; rfl) ?_
    have h_ := SV.lit (k := k65) (l := s2) (cs := [.int .i64 1, .int .i64 30, .int .i64 40, .int .i64 0, .int .i64 0, .int .i64 0, .int .i64 4, .int .i64 10, .int .i64 42, .int .i64 50, .int .i64 1, .int .i64 1]) (heap_alloc_new w47 (.cells #[.int .i64 1, .int .i64 30, .int .i64 40, .int .i64 0, .int .i64 0, .int .i64 0, .int .i64 4, .int .i64 10, .int .i64 42, .int .i64 50, .int .i64 1, .int .i64 1] 65)) (Reps.c6 (show Kd.K k65 _ (⟨1, 30, 40, ⟨0, 0, 0⟩⟩ : S65) [.int .i64 1, .int .i64 30, .int .i64 40, .int .i64 0, .int .i64 0, .int .i64 0] from (k65_mk _ _)) (Reps.c6 (show Kd.K k65 _ (⟨4, 10, 42, ⟨50, 1, 1⟩⟩ : S65) [.int .i64 4, .int .i64 10, .int .i64 42, .int .i64 50, .int .i64 1, .int .i64 1] from (k65_mk _ _)) (Reps.none _ _))) (by decide)
    obtain ⟨A3, hA3⟩ : ∃ a_ : Option Addr, a_ = some ⟨w47.heap.size, 0, none⟩ := ⟨_, rfl⟩
    obtain ⟨c3, hc3⟩ : ∃ c_ : Nat, c_ = s2.length := ⟨_, rfl⟩
    have h2_ : SV k65 (.slice A3 s2.length c3) s2 (w47.alloc (.cells #[.int .i64 1, .int .i64 30, .int .i64 40, .int .i64 0, .int .i64 0, .int .i64 0, .int .i64 4, .int .i64 10, .int .i64 42, .int .i64 50, .int .i64 1, .int .i64 1] 65)) := by rw [hA3, hc3]; exact h_
    have hv_ : (Value.slice (some ⟨w47.heap.size, 0, none⟩) s2.length s2.length) = .slice A3 s2.length c3 := by rw [hA3, hc3]
    rw [hv_]
    have hb := below_alloc (Below.refl w47.heap.size w47) (.cells #[.int .i64 1, .int .i64 30, .int .i64 40, .int .i64 0, .int .i64 0, .int .i64 0, .int .i64 4, .int .i64 10, .int .i64 42, .int .i64 50, .int .i64 1, .int .i64 1] 65)
    have SV3 := zA h2_
    clear h_ h2_ hv_ hA3 hc3 hHeld; generalize w47.alloc (.cells #[.int .i64 1, .int .i64 30, .int .i64 40, .int .i64 0, .int .i64 0, .int .i64 0, .int .i64 4, .int .i64 10, .int .i64 42, .int .i64 50, .int .i64 1, .int .i64 1] 65) = w48 at hb SV3 ⊢
    replace HW := zA (below_step HW.out hb)
    replace ab := zA (blk_keep ab.out hb)
    clear hb
    refine hK.out _ _ (blk_keep aa.out HW.out) (fun hHeld => ?_)
    clear hK K
    refine normQ ?_
    refine one_ (i := 6) (N := (some 125)) #[true, true, true, true, true, true, true, false, false, false, false, true, false, false, false] rfl rfl (one_of HT_.out (by kernel_rfl)) (by decide) (fun K hK => ?_)
    refine goes_ Try.func14 (by kernel_rfl) rfl #[.slice A2 mT.length c2, .slice A3 s2.length c3] (by rfl) rfl rfl (by (try simp only [List.map_toArray, List.map_cons, List.map_nil]); first | done | rfl) ?_
    refine (c_runR mT s2 mT qT qO 2 0 (by kernel_rfl) _ _ _ (SV2.out.below HW.out) SV3.out).mono ?_
    rintro e w49 ⟨Aq0, cq0, Aq1, cq1, Aq2, cq2, rfl, h0_, h1_, h2_, hb⟩
    have hlo_ := Nat.le_trans HB.out.size HW.out.size
    replace HW := zA (below_step HW.out hb)
    replace ab := zA (blk_keep ab.out hb)
    replace SV3 := zA (SV3.out.below hb)
    have RVq0 := zA (Kd.R_lower h0_ hlo_)
    have RVq1 := zA (Kd.R_lower h1_ hlo_)
    have RVq2 := zA (Kd.R_lower h2_ hlo_)
    clear hb h0_ h1_ h2_ hlo_
    refine ⟨_, rfl, ?_⟩
    clear hHeld
    refine hK.out _ _ (blk_keep aa.out HW.out) (fun hHeld => ?_)
    clear hK K
    refine normQ ?_
    refine pureQ 7 (some 118) HT_ ?_
    refine pureQ 8 (some 126) HT_ ?_
    refine pureQ 9 (some 127) HT_ ?_
    refine pureQ 10 (some 128) HT_ ?_
    exact norm_ (by simp only [putAll, Act.put, List.setIfInBounds_toArray, List.set_cons_zero, List.set_cons_succ]) (hCont (Aq0, cq0, Aq1, cq1, Aq2, cq2, A3, c3, b12) _ ⟨HW.out, GB.out, ab.out, blk_keep aa.out HW.out, RVq0.out, RVq1.out, RVq2.out⟩)
  ·
   skip
   refine value_ (v := .pointer (some ⟨w40.heap.size, 0, none⟩)) (w1 := w40.alloc (.cells #[.slice none 0 0, .slice none 0 0, .slice none 0 0] 28)) (by rfl) rfl (by go_simp) ?_
   have ab := zA (heap_alloc_new w40 (.cells #[.slice none 0 0, .slice none 0 0, .slice none 0 0] 28))
   have hb := below_alloc (Below.refl w40.heap.size w40) (.cells #[.slice none 0 0, .slice none 0 0, .slice none 0 0] 28)
   obtain ⟨b12, hg_⟩ : ∃ g_ : Nat, g_ = w40.heap.size := ⟨_, rfl⟩
   have GB : Aside0 (w40.heap.size ≤ b12) := ⟨by rw [hg_]; exact HW.out.size⟩
   rw [← hg_] at ab ⊢
   replace HW := zA (below_step HW.out hb)
   clear hb hg_ hHeld; generalize w40.alloc (.cells #[.slice none 0 0, .slice none 0 0, .slice none 0 0] 28) = w50 at ab HW ⊢
   refine hK.out _ _ (blk_keep aa.out HW.out) (fun hHeld => ?_)
   clear hK K
   refine normQ ?_
   refine one_ (i := 3) (N := (some 122)) #[true, true, true, true, false, false, false, false, false, false, false, true, false, false, false] rfl rfl (one_of HT_.out (by kernel_rfl)) (by decide) (fun K hK => ?_)
   refine goes_ Try.func27 (by kernel_rfl) rfl #[.int .i64 50, .int .i64 1, .int .i64 1] (by rfl) rfl rfl (by (try simp only [List.map_toArray, List.map_cons, List.map_nil]); first | done | rfl) ?_
   refine (c_note 50 1 1 _).mono ?_
   rintro e w51 ⟨rfl, hb⟩
   replace HW := zA (below_step HW.out hb)
   replace ab := zA (blk_keep ab.out hb)
   clear hb
   refine ⟨_, rfl, ?_⟩
   clear hHeld
   refine hK.out _ _ (blk_keep aa.out HW.out) (fun hHeld => ?_)
   clear hK K
   refine normQ ?_
   refine pureQ 4 (some 123) HT_ ?_
   refine one_ (i := 5) (N := (some 124)) #[true, true, true, true, true, true, false, false, false, false, false, true, false, false, false] rfl rfl (one_of HT_.out (by kernel_rfl)) (by decide) (fun K hK => ?_)
   refine value_ (v := .slice (some ⟨w51.heap.size, 0, none⟩) s2.length s2.length) (w1 := w51.alloc (.cells #[.int .i64 1, .int .i64 30, .int .i64 40, .int .i64 0, .int .i64 0, .int .i64 0, .int .i64 4, .int .i64 10, .int .i64 42, .int .i64 50, .int .i64 1, .int .i64 1] 65)) (by rfl) rfl (by go_simp; rfl) ?_
   have h_ := SV.lit (k := k65) (l := s2) (cs := [.int .i64 1, .int .i64 30, .int .i64 40, .int .i64 0, .int .i64 0, .int .i64 0, .int .i64 4, .int .i64 10, .int .i64 42, .int .i64 50, .int .i64 1, .int .i64 1]) (heap_alloc_new w51 (.cells #[.int .i64 1, .int .i64 30, .int .i64 40, .int .i64 0, .int .i64 0, .int .i64 0, .int .i64 4, .int .i64 10, .int .i64 42, .int .i64 50, .int .i64 1, .int .i64 1] 65)) (Reps.c6 (show Kd.K k65 _ (⟨1, 30, 40, ⟨0, 0, 0⟩⟩ : S65) [.int .i64 1, .int .i64 30, .int .i64 40, .int .i64 0, .int .i64 0, .int .i64 0] from (k65_mk _ _)) (Reps.c6 (show Kd.K k65 _ (⟨4, 10, 42, ⟨50, 1, 1⟩⟩ : S65) [.int .i64 4, .int .i64 10, .int .i64 42, .int .i64 50, .int .i64 1, .int .i64 1] from (k65_mk _ _)) (Reps.none _ _))) (by decide)
   obtain ⟨A3, hA3⟩ : ∃ a_ : Option Addr, a_ = some ⟨w51.heap.size, 0, none⟩ := ⟨_, rfl⟩
   obtain ⟨c3, hc3⟩ : ∃ c_ : Nat, c_ = s2.length := ⟨_, rfl⟩
   have h2_ : SV k65 (.slice A3 s2.length c3) s2 (w51.alloc (.cells #[.int .i64 1, .int .i64 30, .int .i64 40, .int .i64 0, .int .i64 0, .int .i64 0, .int .i64 4, .int .i64 10, .int .i64 42, .int .i64 50, .int .i64 1, .int .i64 1] 65)) := by rw [hA3, hc3]; exact h_
   have hv_ : (Value.slice (some ⟨w51.heap.size, 0, none⟩) s2.length s2.length) = .slice A3 s2.length c3 := by rw [hA3, hc3]
   rw [hv_]
   have hb := below_alloc (Below.refl w51.heap.size w51) (.cells #[.int .i64 1, .int .i64 30, .int .i64 40, .int .i64 0, .int .i64 0, .int .i64 0, .int .i64 4, .int .i64 10, .int .i64 42, .int .i64 50, .int .i64 1, .int .i64 1] 65)
   have SV3 := zA h2_
   clear h_ h2_ hv_ hA3 hc3 hHeld; generalize w51.alloc (.cells #[.int .i64 1, .int .i64 30, .int .i64 40, .int .i64 0, .int .i64 0, .int .i64 0, .int .i64 4, .int .i64 10, .int .i64 42, .int .i64 50, .int .i64 1, .int .i64 1] 65) = w52 at hb SV3 ⊢
   replace HW := zA (below_step HW.out hb)
   replace ab := zA (blk_keep ab.out hb)
   clear hb
   refine hK.out _ _ (blk_keep aa.out HW.out) (fun hHeld => ?_)
   clear hK K
   refine normQ ?_
   refine one_ (i := 6) (N := (some 125)) #[true, true, true, true, true, true, true, false, false, false, false, true, false, false, false] rfl rfl (one_of HT_.out (by kernel_rfl)) (by decide) (fun K hK => ?_)
   refine goes_ Try.func14 (by kernel_rfl) rfl #[.slice A2 mT.length c2, .slice A3 s2.length c3] (by rfl) rfl rfl (by (try simp only [List.map_toArray, List.map_cons, List.map_nil]); first | done | rfl) ?_
   refine (c_runR mT s2 mT qT qO 2 0 (by kernel_rfl) _ _ _ (SV2.out.below HW.out) SV3.out).mono ?_
   rintro e w53 ⟨Aq0, cq0, Aq1, cq1, Aq2, cq2, rfl, h0_, h1_, h2_, hb⟩
   have hlo_ := Nat.le_trans HB.out.size HW.out.size
   replace HW := zA (below_step HW.out hb)
   replace ab := zA (blk_keep ab.out hb)
   replace SV3 := zA (SV3.out.below hb)
   have RVq0 := zA (Kd.R_lower h0_ hlo_)
   have RVq1 := zA (Kd.R_lower h1_ hlo_)
   have RVq2 := zA (Kd.R_lower h2_ hlo_)
   clear hb h0_ h1_ h2_ hlo_
   refine ⟨_, rfl, ?_⟩
   clear hHeld
   refine hK.out _ _ (blk_keep aa.out HW.out) (fun hHeld => ?_)
   clear hK K
   refine normQ ?_
   refine pureQ 7 (some 118) HT_ ?_
   refine pureQ 8 (some 126) HT_ ?_
   refine pureQ 9 (some 127) HT_ ?_
   refine pureQ 10 (some 128) HT_ ?_
   exact norm_ (by simp only [putAll, Act.put, List.setIfInBounds_toArray, List.set_cons_zero, List.set_cons_succ]) (hCont (Aq0, cq0, Aq1, cq1, Aq2, cq2, A3, c3, b12) _ ⟨HW.out, GB.out, ab.out, blk_keep aa.out HW.out, RVq0.out, RVq1.out, RVq2.out⟩)
 rintro ⟨Aq0, cq0, Aq1, cq1, Aq2, cq2, A3, c3, b12⟩ w54 ⟨h0_, h1_, h2_, h3_, h4_, h5_, h6_⟩
 clear HW hHeld
 have HW := zA h0_
 have GB := zA h1_
 have ab := zA h2_
 have RVq0 := zA h4_
 have RVq1 := zA h5_
 have RVq2 := zA h6_
 have hHeld := h3_; clear h0_ h1_ h2_ h3_ h4_ h5_ h6_
 refine norm_ (a' := ?_) ?_ ?_
 rotate_left
 ·
  simp only [putAll, Act.put, List.setIfInBounds_toArray, List.set_cons_zero, List.set_cons_succ]
  rfl
 refine one_ (i := 12) (N := none) #[true, true, true, true, true, true, true, true, true, true, true, true, true, false, false] rfl rfl (one_of HT_.out (by kernel_rfl)) (by decide) (fun K hK => ?_)
 have z0 : w54.cell? ⟨b12, 0, none⟩ = some (.slice none 0 0) := (blk_cell ab.out 0).trans rfl
 have z1 : w54.cell? ⟨b12, 1, none⟩ = some (.slice none 0 0) := (blk_cell ab.out 1).trans rfl
 have z2 : w54.cell? ⟨b12, 2, none⟩ = some (.slice none 0 0) := (blk_cell ab.out 2).trans rfl
 have zf0 := blk_frozen ab.out 0
 have zf1 := blk_frozen ab.out 1
 have zf2 := blk_frozen ab.out 2
 refine skip_ (w1 := (World.setCell (World.setCell (World.setCell w54 ⟨b12, 0, none⟩ (.slice Aq0 mT.length cq0)) ⟨b12, 1, none⟩ (.slice Aq1 qT.length cq1)) ⟨b12, 2, none⟩ (.slice Aq2 qO.length cq2))) (by rfl) rfl (by go_simp) ?_
 clear z0 zf0 z1 zf1 z2 zf2
 have n_ : Aside0 (((World.setCell (World.setCell (World.setCell w54 ⟨b12, 0, none⟩ (.slice Aq0 mT.length cq0)) ⟨b12, 1, none⟩ (.slice Aq1 qT.length cq1)) ⟨b12, 2, none⟩ (.slice Aq2 qO.length cq2))).heap[b12]? = some (.cells #[.slice Aq0 mT.length cq0, .slice Aq1 qT.length cq1, .slice Aq2 qO.length cq2] 28 (0, 0))) := ⟨(blk_put (cs := #[.slice Aq0 mT.length cq0, .slice Aq1 qT.length cq1, .slice none 0 0]) (blk_put (cs := #[.slice Aq0 mT.length cq0, .slice none 0 0, .slice none 0 0]) (blk_put (cs := #[.slice none 0 0, .slice none 0 0, .slice none 0 0]) ab.out 0 (.slice Aq0 mT.length cq0) rfl) 1 (.slice Aq1 qT.length cq1) rfl) 2 (.slice Aq2 qO.length cq2) rfl)⟩
 have hb : Below w40.heap.size w40 (World.setCell (World.setCell (World.setCell w54 ⟨b12, 0, none⟩ (.slice Aq0 mT.length cq0)) ⟨b12, 1, none⟩ (.slice Aq1 qT.length cq1)) ⟨b12, 2, none⟩ (.slice Aq2 qO.length cq2)) := (below_set (below_set (below_set HW.out GB.out) GB.out) GB.out)
 have m0_ : Aside0 (Kd.R k61 61 (World.setCell (World.setCell (World.setCell w54 ⟨b12, 0, none⟩ (.slice Aq0 mT.length cq0)) ⟨b12, 1, none⟩ (.slice Aq1 qT.length cq1)) ⟨b12, 2, none⟩ (.slice Aq2 qO.length cq2)) w.heap.size (fun _ => True) (.slice Aq0 mT.length cq0) mT) := ⟨(Kd.R_mono (Kd.R_far (p := ⟨b12, 2, none⟩) (Kd.R_far (p := ⟨b12, 1, none⟩) (Kd.R_far (p := ⟨b12, 0, none⟩) (Kd.R_types RVq0.out ab.out (by decide)) (fun _ hk => hk.2) (.slice Aq0 mT.length cq0)) (fun _ hk => hk.2) (.slice Aq1 qT.length cq1)) (fun _ hk => hk.2) (.slice Aq2 qO.length cq2)) (fun _ _ => trivial))⟩
 have m1_ : Aside0 (Kd.R k61 61 (World.setCell (World.setCell (World.setCell w54 ⟨b12, 0, none⟩ (.slice Aq0 mT.length cq0)) ⟨b12, 1, none⟩ (.slice Aq1 qT.length cq1)) ⟨b12, 2, none⟩ (.slice Aq2 qO.length cq2)) w.heap.size (fun _ => True) (.slice Aq1 qT.length cq1) qT) := ⟨(Kd.R_mono (Kd.R_far (p := ⟨b12, 2, none⟩) (Kd.R_far (p := ⟨b12, 1, none⟩) (Kd.R_far (p := ⟨b12, 0, none⟩) (Kd.R_types RVq1.out ab.out (by decide)) (fun _ hk => hk.2) (.slice Aq0 mT.length cq0)) (fun _ hk => hk.2) (.slice Aq1 qT.length cq1)) (fun _ hk => hk.2) (.slice Aq2 qO.length cq2)) (fun _ _ => trivial))⟩
 have m2_ : Aside0 (Kd.R k67 67 (World.setCell (World.setCell (World.setCell w54 ⟨b12, 0, none⟩ (.slice Aq0 mT.length cq0)) ⟨b12, 1, none⟩ (.slice Aq1 qT.length cq1)) ⟨b12, 2, none⟩ (.slice Aq2 qO.length cq2)) w.heap.size (fun _ => True) (.slice Aq2 qO.length cq2) qO) := ⟨(Kd.R_mono (Kd.R_far (p := ⟨b12, 2, none⟩) (Kd.R_far (p := ⟨b12, 1, none⟩) (Kd.R_far (p := ⟨b12, 0, none⟩) (Kd.R_types RVq2.out ab.out (by decide)) (fun _ hk => hk.2) (.slice Aq0 mT.length cq0)) (fun _ hk => hk.2) (.slice Aq1 qT.length cq1)) (fun _ hk => hk.2) (.slice Aq2 qO.length cq2)) (fun _ _ => trivial))⟩
 clear ab HW GB RVq0 RVq1 RVq2 hHeld; generalize (World.setCell (World.setCell (World.setCell w54 ⟨b12, 0, none⟩ (.slice Aq0 mT.length cq0)) ⟨b12, 1, none⟩ (.slice Aq1 qT.length cq1)) ⟨b12, 2, none⟩ (.slice Aq2 qO.length cq2)) = w55 at n_ hb m0_ m1_ m2_ ⊢; have ab := n_
 have SVq0 := zA (SV.ofR m0_.out)
 have SVq1 := zA (SV.ofR m1_.out)
 have SVq2 := zA (SV.ofR m2_.out)
 clear n_ m0_ m1_ m2_
 replace HB := zA (below_step HB.out hb)
 replace SV1 := zA (SV1.out.below hb)
 replace SV2 := zA (SV2.out.below hb)
 replace SV4 := zA (SV4.out.below hb)
 replace aa := zA (blk_keep aa.out hb)
 clear hb
 refine hK.out _ _ aa.out (fun hHeld => ?_)
 clear hK K
 refine pureQ 13 (some 13) HT_ ?_
 refine pureQ 14 (some 3) HT_ ?_
 refine done_ (done_of HT_.out (by kernel_rfl)) ?_
 clear hHeld
 have x0 : w55.cell? ⟨b4, 0, none⟩ = some (.slice A1 Rl.length c1) := (blk_cell aa.out 0).trans rfl
 have x1 : w55.cell? ⟨b4, 1, none⟩ = some (.slice A2 mT.length c2) := (blk_cell aa.out 1).trans rfl
 have x2 : w55.cell? ⟨b4, 2, none⟩ = some (.slice A4 mO.length c4) := (blk_cell aa.out 2).trans rfl
 have y0 : w55.cell? ⟨b12, 0, none⟩ = some (.slice Aq0 mT.length cq0) := (blk_cell ab.out 0).trans rfl
 have y1 : w55.cell? ⟨b12, 1, none⟩ = some (.slice Aq1 qT.length cq1) := (blk_cell ab.out 1).trans rfl
 have y2 : w55.cell? ⟨b12, 2, none⟩ = some (.slice Aq2 qO.length cq2) := (blk_cell ab.out 2).trans rfl
 go_upto_region 13 with (first | ((with_reducible refine gate_callee (f := 24) rfl ?_); (try (refine gate_guard (by rfl) ?_; dsimp only)); refine goesL_ (some 132) rfl rfl Try.func24 (by kernel_rfl) rfl #[.agg #[.slice A1 Rl.length c1, .slice A2 mT.length c2, .slice A4 mO.length c4], .agg #[.slice Aq0 mT.length cq0, .slice Aq1 qT.length cq1, .slice Aq2 qO.length cq2]] rfl (by (try simp only [List.map_toArray, List.map_cons, List.map_nil]); first | done | rfl) ?_; refine (c_then Rl mT mO mT qT qO Rl qT tO 0 (by kernel_rfl) _ _ _ _ _ _ _ SV1.out SV2.out SV4.out SVq0.out SVq1.out SVq2.out).mono ?_; rintro e w56 ⟨At0, ct0, At1, ct1, At2, ct2, rfl, h0_, h1_, h2_, hb⟩; refine ⟨_, rfl, ?_⟩; replace HB := zA (below_step HB.out hb); replace SV1 := zA (SV1.out.below hb); replace SV2 := zA (SV2.out.below hb); replace SV4 := zA (SV4.out.below hb); replace aa := zA (blk_keep aa.out hb); replace ab := zA (blk_keep ab.out hb); replace SVq0 := zA (SVq0.out.below hb); replace SVq1 := zA (SVq1.out.below hb); replace SVq2 := zA (SVq2.out.below hb); have SVt0 := zA h0_; have SVt1 := zA h1_; have SVt2 := zA h2_; clear hb h0_ h1_ h2_; clear x0 x1 x2 y0 y1 y2) | ((with_reducible refine gate_dst (N := 14) rfl ?_); refine box_event ?hg (N := 14) ?hd (cs := #[.slice none 0 0, .slice none 0 0, .slice none 0 0]) (t := 28) ?hr ?_; (case hd => rfl); (case hg => rfl); (case hr => first | (go_simp; done) | (go_simp; rfl)); intro b14 hg w57 hbox hb; have GE : Aside0 (w56.heap.size ≤ b14) := ⟨by rw [hg]; exact Nat.le_refl _⟩; have ag := zA hbox; have HBa := zA hb; clear hg hbox hb; have z0 : w57.cell? ⟨b14, 0, none⟩ = some (.slice none 0 0) := (blk_cell ag.out 0).trans rfl; have z1 : w57.cell? ⟨b14, 1, none⟩ = some (.slice none 0 0) := (blk_cell ag.out 1).trans rfl; have z2 : w57.cell? ⟨b14, 2, none⟩ = some (.slice none 0 0) := (blk_cell ag.out 2).trans rfl; have zf0 := blk_frozen ag.out 0; have zf1 := blk_frozen ag.out 1; have zf2 := blk_frozen ag.out 2))
 clear z0 zf0 z1 zf1 z2 zf2
 have n_ : Aside0 (((World.setCell (World.setCell (World.setCell w57 ⟨b14, 0, none⟩ (.slice At0 Rl.length ct0)) ⟨b14, 1, none⟩ (.slice At1 qT.length ct1)) ⟨b14, 2, none⟩ (.slice At2 tO.length ct2))).heap[b14]? = some (.cells #[.slice At0 Rl.length ct0, .slice At1 qT.length ct1, .slice At2 tO.length ct2] 28 (0, 0))) := ⟨(blk_put (cs := #[.slice At0 Rl.length ct0, .slice At1 qT.length ct1, .slice none 0 0]) (blk_put (cs := #[.slice At0 Rl.length ct0, .slice none 0 0, .slice none 0 0]) (blk_put (cs := #[.slice none 0 0, .slice none 0 0, .slice none 0 0]) ag.out 0 (.slice At0 Rl.length ct0) rfl) 1 (.slice At1 qT.length ct1) rfl) 2 (.slice At2 tO.length ct2) rfl)⟩
 have hb : Below w56.heap.size w56 (World.setCell (World.setCell (World.setCell w57 ⟨b14, 0, none⟩ (.slice At0 Rl.length ct0)) ⟨b14, 1, none⟩ (.slice At1 qT.length ct1)) ⟨b14, 2, none⟩ (.slice At2 tO.length ct2)) := (below_set (below_set (below_set HBa.out GE.out) GE.out) GE.out)
 clear ag HBa GE; generalize (World.setCell (World.setCell (World.setCell w57 ⟨b14, 0, none⟩ (.slice At0 Rl.length ct0)) ⟨b14, 1, none⟩ (.slice At1 qT.length ct1)) ⟨b14, 2, none⟩ (.slice At2 tO.length ct2)) = w58 at n_ hb ⊢; have ag := n_; clear n_
 replace HB := zA (below_step HB.out hb)
 replace SV1 := zA (SV1.out.below hb)
 replace SV2 := zA (SV2.out.below hb)
 replace SV4 := zA (SV4.out.below hb)
 replace aa := zA (blk_keep aa.out hb)
 replace ab := zA (blk_keep ab.out hb)
 replace SVq0 := zA (SVq0.out.below hb)
 replace SVq1 := zA (SVq1.out.below hb)
 replace SVq2 := zA (SVq2.out.below hb)
 replace SVt0 := zA (SVt0.out.below hb)
 replace SVt1 := zA (SVt1.out.below hb)
 replace SVt2 := zA (SVt2.out.below hb)
 clear hb ab SVq0 SVq1 SVq2
 go_upto_region 13 with (fail)
 have hb : Below w58.heap.size w58 w58.drew := below_drew1 (Below.refl _ _)
 replace HB := zA (below_step HB.out hb)
 replace SV1 := zA (SV1.out.below hb)
 replace SV2 := zA (SV2.out.below hb)
 replace SV4 := zA (SV4.out.below hb)
 replace aa := zA (blk_keep aa.out hb)
 replace SVt0 := zA (SVt0.out.below hb)
 replace SVt1 := zA (SVt1.out.below hb)
 replace SVt2 := zA (SVt2.out.below hb)
 replace ag := zA (blk_keep ag.out hb)
 clear hb
 refine start_ (n := 19) (S := fun w' => True) (ds := []) #[false, false, false, false, false, false, false, false, false, false, false, false, false, false, false, false, false, false, false] (by kernel_rfl) rfl rfl trivial (fun hHeld => ?_); refine with_tabW works13.tab13 works13.bits13 (fun HT_ HW_ => ?_)
 generalize w58.drew = w59 at HB SV1 SV2 SV4 aa SVt0 SVt1 SVt2 ag hHeld ⊢
 refine pureQ 0 (some 135) HT_ ?_
 refine pureQ 1 (some 136) HT_ ?_
 refine pureQ 2 (some 137) HT_ ?_
 refine pureQ 3 (some 138) HT_ ?_
 refine pureQ 4 (some 139) HT_ ?_
 refine pureQ 5 (some 140) HT_ ?_
 refine pureQ 6 (some 141) HT_ ?_
 have HW0 : Below w59.heap.size w59 w59 := Below.refl _ _
 have HST : Stab ([(7, 142, IsV (.agg #[.slice At0 Rl.length ct0, .slice At1 qT.length ct1, .slice At2 tO.length ct2])), (8, 143, (fun v w => SV k61 v Rl w)), (9, 144, IsV (.agg #[.int .i64 10, .int .i64 42, .int .i64 5])), (10, 145, IsV (.agg #[.int .i64 20, .int .i64 44, .int .i64 5])), (11, 146, IsV (.agg #[.int .i64 50, .int .i64 1, .int .i64 1])), (12, 147, (fun v w => SV k61 v qT w)), (13, 148, (fun v w => SV (Kd.int .i64) v ([1, 2, 101] : List Int) w)), (14, 149, (fun v w => SV k67 v tO w)), (15, 150, (fun v w => ∃ x0 x1 x2, v = .agg #[x0, x1, x2] ∧ SV k61 x0 Rl w ∧ SV k61 x1 qT w ∧ SV k67 x2 tO w)), (16, 151, IsV (.bool true)), (17, 152, IsV (.bool false)), (18, 153, IsV (.bool false))] : EL) := stab_cons (stab_is (.agg #[.slice At0 Rl.length ct0, .slice At1 qT.length ct1, .slice At2 tO.length ct2])) (stab_cons (stab_sv k61 Rl) (stab_cons (stab_is (.agg #[.int .i64 10, .int .i64 42, .int .i64 5])) (stab_cons (stab_is (.agg #[.int .i64 20, .int .i64 44, .int .i64 5])) (stab_cons (stab_is (.agg #[.int .i64 50, .int .i64 1, .int .i64 1])) (stab_cons (stab_sv k61 qT) (stab_cons (stab_sv (Kd.int .i64) ([1, 2, 101] : List Int)) (stab_cons (stab_sv k67 tO) (stab_cons (fun v w w' hb h => by obtain ⟨x0, x1, x2, e, h0, h1, h2⟩ := h; exact ⟨x0, x1, x2, e, h0.below hb, h1.below hb, h2.below hb⟩) (stab_cons (stab_is (.bool true)) (stab_cons (stab_is (.bool false)) (stab_cons (stab_is (.bool false)) (stab_nil))))))))))))
 have HSA := zA HST
 clear HST
 refine inv_at [7, 8, 9, 10, 11, 12, 13, 14, 15, 16, 17, 18] (fun a0_ => RI (fun w' => Below w59.heap.size w59 w') [(7, 142, IsV (.agg #[.slice At0 Rl.length ct0, .slice At1 qT.length ct1, .slice At2 tO.length ct2])), (8, 143, (fun v w => SV k61 v Rl w)), (9, 144, IsV (.agg #[.int .i64 10, .int .i64 42, .int .i64 5])), (10, 145, IsV (.agg #[.int .i64 20, .int .i64 44, .int .i64 5])), (11, 146, IsV (.agg #[.int .i64 50, .int .i64 1, .int .i64 1])), (12, 147, (fun v w => SV k61 v qT w)), (13, 148, (fun v w => SV (Kd.int .i64) v ([1, 2, 101] : List Int) w)), (14, 149, (fun v w => SV k67 v tO w)), (15, 150, (fun v w => ∃ x0 x1 x2, v = .agg #[x0, x1, x2] ∧ SV k61 x0 Rl w ∧ SV k61 x1 qT w ∧ SV k67 x2 tO w)), (16, 151, IsV (.bool true)), (17, 152, IsV (.bool false)), (18, 153, IsV (.bool false))] a0_) HT_.out HW_.out (by kernel_rfl) (by kernel_rfl) ?_ ?_ ?_
 ·
  exact RI.start _ _ HW0
 ·
  skip
  refine steps_cons ?_ ?_
  ·
   intro b a w' hI hb_ hon hoff
   refine ⟨_, rfl, fun K hK => ?_⟩
   have HW := zA hI.phi
   have eg : a.tmps[141]? = some (.bool false) := (hI.off rfl).trans rfl
   have hk_ := blk_keep ag.out HW.out
   have x0 : w'.cell? ⟨b14, 0, none⟩ = some (.slice At0 Rl.length ct0) := (blk_cell hk_ 0).trans rfl
   have x1 : w'.cell? ⟨b14, 1, none⟩ = some (.slice At1 qT.length ct1) := (blk_cell hk_ 1).trans rfl
   have x2 : w'.cell? ⟨b14, 2, none⟩ = some (.slice At2 tO.length ct2) := (blk_cell hk_ 2).trans rfl
   have ep : a.tmps[14]? = some (.pointer (some ⟨b14, 0, none⟩)) := (hI.off rfl).trans rfl
   refine value_ (w1 := w') (v := .agg #[.slice At0 Rl.length ct0, .slice At1 qT.length ct1, .slice At2 tO.length ct2]) (wanted_on rfl rfl rfl eg) rfl ?_ ?_
   ·
    go_simp
    try rfl
   refine hK.out _ _ (hI.pure 0 rfl hb_ rfl HSA.out rfl)
  refine steps_cons ?_ ?_
  ·
   intro b a w' hI hb_ hon hoff
   refine ⟨_, rfl, fun K hK => ?_⟩
   have HW := zA hI.phi
   have eg : a.tmps[141]? = some (.bool false) := (hI.off rfl).trans rfl
   refine goes_ Try.func26 (by kernel_rfl) rfl #[] (wanted_on rfl rfl rfl eg) rfl rfl (by first | (simp only [List.map_toArray, List.map_cons, List.map_nil, Act.eval, Array.getD_eq_getD_getElem?, Option.getD_some]; done) | (simp only [List.map_toArray, List.map_cons, List.map_nil, Act.eval, Array.getD_eq_getD_getElem?, Option.getD_some]; rfl)) ?_
   refine (c_R Rl (by kernel_rfl) _).mono ?_
   rintro e w2 ⟨A, c, rfl, h_, hb⟩
   exact ⟨_, rfl, hK.out _ _ (hI.put 1 rfl hb_ rfl (below_step HW.out hb) HSA.out hb h_)⟩
  refine steps_cons ?_ ?_
  ·
   intro b a w' hI hb_ hon hoff
   refine ⟨_, rfl, fun K hK => ?_⟩
   have HW := zA hI.phi
   have eg : a.tmps[141]? = some (.bool false) := (hI.off rfl).trans rfl
   refine goes_ Try.func27 (by kernel_rfl) rfl #[.int .i64 10, .int .i64 42, .int .i64 5] (wanted_on rfl rfl rfl eg) rfl rfl (by first | (simp only [List.map_toArray, List.map_cons, List.map_nil, Act.eval, Array.getD_eq_getD_getElem?, Option.getD_some]; done) | (simp only [List.map_toArray, List.map_cons, List.map_nil, Act.eval, Array.getD_eq_getD_getElem?, Option.getD_some]; rfl)) ?_
   refine (c_note 10 42 5 _).mono ?_
   rintro e w2 ⟨rfl, hb⟩
   exact ⟨_, rfl, hK.out _ _ (hI.put 2 rfl hb_ rfl (below_step HW.out hb) HSA.out hb rfl)⟩
  refine steps_cons ?_ ?_
  ·
   intro b a w' hI hb_ hon hoff
   refine ⟨_, rfl, fun K hK => ?_⟩
   have HW := zA hI.phi
   have eg : a.tmps[141]? = some (.bool false) := (hI.off rfl).trans rfl
   refine goes_ Try.func27 (by kernel_rfl) rfl #[.int .i64 20, .int .i64 44, .int .i64 5] (wanted_on rfl rfl rfl eg) rfl rfl (by first | (simp only [List.map_toArray, List.map_cons, List.map_nil, Act.eval, Array.getD_eq_getD_getElem?, Option.getD_some]; done) | (simp only [List.map_toArray, List.map_cons, List.map_nil, Act.eval, Array.getD_eq_getD_getElem?, Option.getD_some]; rfl)) ?_
   refine (c_note 20 44 5 _).mono ?_
   rintro e w2 ⟨rfl, hb⟩
   exact ⟨_, rfl, hK.out _ _ (hI.put 3 rfl hb_ rfl (below_step HW.out hb) HSA.out hb rfl)⟩
  refine steps_cons ?_ ?_
  ·
   intro b a w' hI hb_ hon hoff
   refine ⟨_, rfl, fun K hK => ?_⟩
   have HW := zA hI.phi
   have eg : a.tmps[141]? = some (.bool false) := (hI.off rfl).trans rfl
   refine goes_ Try.func27 (by kernel_rfl) rfl #[.int .i64 50, .int .i64 1, .int .i64 1] (wanted_on rfl rfl rfl eg) rfl rfl (by first | (simp only [List.map_toArray, List.map_cons, List.map_nil, Act.eval, Array.getD_eq_getD_getElem?, Option.getD_some]; done) | (simp only [List.map_toArray, List.map_cons, List.map_nil, Act.eval, Array.getD_eq_getD_getElem?, Option.getD_some]; rfl)) ?_
   refine (c_note 50 1 1 _).mono ?_
   rintro e w2 ⟨rfl, hb⟩
   exact ⟨_, rfl, hK.out _ _ (hI.put 4 rfl hb_ rfl (below_step HW.out hb) HSA.out hb rfl)⟩
  refine steps_cons ?_ ?_
  ·
   intro b a w' hI hb_ hon hoff
   refine ⟨_, rfl, fun K hK => ?_⟩
   have HW := zA hI.phi
   have eg : a.tmps[141]? = some (.bool false) := (hI.off rfl).trans rfl
   obtain ⟨v9, e9, p9⟩ := hI.get 2 rfl rfl (hon 9 (by kernel_rfl)) rfl
   cases p9
   obtain ⟨v10, e10, p10⟩ := hI.get 3 rfl rfl (hon 10 (by kernel_rfl)) rfl
   cases p10
   obtain ⟨v11, e11, p11⟩ := hI.get 4 rfl rfl (hon 11 (by kernel_rfl)) rfl
   cases p11
   refine value_ (v := .slice (some ⟨w'.heap.size, 0, none⟩) (List.length qT) (List.length qT)) (w1 := w'.alloc (.cells #[.int .i64 10, .int .i64 42, .int .i64 5, .int .i64 20, .int .i64 44, .int .i64 5, .int .i64 50, .int .i64 1, .int .i64 1] 61)) (wanted_on rfl rfl rfl eg) rfl (by go_simp; try rfl) ?_
   have hb := below_alloc (Below.refl w'.heap.size w') (.cells #[.int .i64 10, .int .i64 42, .int .i64 5, .int .i64 20, .int .i64 44, .int .i64 5, .int .i64 50, .int .i64 1, .int .i64 1] 61)
   exact hK.out _ _ (hI.put 5 rfl hb_ rfl (below_step HW.out hb) HSA.out hb (SV.lit (k := k61) (l := qT) (cs := [.int .i64 10, .int .i64 42, .int .i64 5, .int .i64 20, .int .i64 44, .int .i64 5, .int .i64 50, .int .i64 1, .int .i64 1]) (heap_alloc_new w' (.cells #[.int .i64 10, .int .i64 42, .int .i64 5, .int .i64 20, .int .i64 44, .int .i64 5, .int .i64 50, .int .i64 1, .int .i64 1] 61)) (Reps.c3 (show Kd.K k61 _ (⟨10, 42, 5⟩ : S61) [.int .i64 10, .int .i64 42, .int .i64 5] from (k61_mk _ _)) (Reps.c3 (show Kd.K k61 _ (⟨20, 44, 5⟩ : S61) [.int .i64 20, .int .i64 44, .int .i64 5] from (k61_mk _ _)) (Reps.c3 (show Kd.K k61 _ (⟨50, 1, 1⟩ : S61) [.int .i64 50, .int .i64 1, .int .i64 1] from (k61_mk _ _)) (Reps.none _ _)))) (by decide)))
  refine steps_cons ?_ ?_
  ·
   intro b a w' hI hb_ hon hoff
   refine ⟨_, rfl, fun K hK => ?_⟩
   have HW := zA hI.phi
   have eg : a.tmps[141]? = some (.bool false) := (hI.off rfl).trans rfl
   refine value_ (v := .slice (some ⟨w'.heap.size, 0, none⟩) (List.length ([1, 2, 101] : List Int)) (List.length ([1, 2, 101] : List Int))) (w1 := w'.alloc (.cells #[.int .i64 (1), .int .i64 (2), .int .i64 (101)] 3)) (wanted_on rfl rfl rfl eg) rfl (by go_simp; try rfl) ?_
   have hb := below_alloc (Below.refl w'.heap.size w') (.cells #[.int .i64 (1), .int .i64 (2), .int .i64 (101)] 3)
   exact hK.out _ _ (hI.put 6 rfl hb_ rfl (below_step HW.out hb) HSA.out hb (SV.lit (k := (Kd.int .i64)) (l := ([1, 2, 101] : List Int)) (cs := [.int .i64 (1), .int .i64 (2), .int .i64 (101)]) (heap_alloc_new w' (.cells #[.int .i64 (1), .int .i64 (2), .int .i64 (101)] 3)) (Reps.one (show Kd.K (Kd.int .i64) _ (1 : Int) [.int .i64 (1)] from rfl) (Reps.one (show Kd.K (Kd.int .i64) _ (2 : Int) [.int .i64 (2)] from rfl) (Reps.one (show Kd.K (Kd.int .i64) _ (101 : Int) [.int .i64 (101)] from rfl) (Reps.none _ _)))) (by decide)))
  refine steps_cons ?_ ?_
  ·
   intro b a w' hI hb_ hon hoff
   refine ⟨_, rfl, fun K hK => ?_⟩
   have HW := zA hI.phi
   have eg : a.tmps[141]? = some (.bool false) := (hI.off rfl).trans rfl
   obtain ⟨v13, e13, p13⟩ := hI.get 6 rfl rfl (hon 13 (by kernel_rfl)) rfl
   refine goes_ Try.func44 (by kernel_rfl) rfl #[v13] (wanted_on rfl rfl rfl eg) rfl rfl (by first | (simp only [List.map_toArray, List.map_cons, List.map_nil, Act.eval, Array.getD_eq_getD_getElem?, Option.getD_some, e13]; done) | (simp only [List.map_toArray, List.map_cons, List.map_nil, Act.eval, Array.getD_eq_getD_getElem?, Option.getD_some, e13]; rfl)) ?_
   refine (c_org ([1, 2, 101] : List Int) tO (by kernel_rfl) _ _ p13).mono ?_
   rintro e w2 ⟨A, c, rfl, h_, hb⟩
   exact ⟨_, rfl, hK.out _ _ (hI.put 7 rfl hb_ rfl (below_step HW.out hb) HSA.out hb h_)⟩
  refine steps_cons ?_ ?_
  ·
   intro b a w' hI hb_ hon hoff
   refine ⟨_, rfl, fun K hK => ?_⟩
   have HW := zA hI.phi
   have eg : a.tmps[141]? = some (.bool false) := (hI.off rfl).trans rfl
   obtain ⟨v8, e8, p8⟩ := hI.get 1 rfl rfl (hon 8 (by kernel_rfl)) rfl
   obtain ⟨A0, c0, rfl, hx0⟩ := p8
   obtain ⟨v12, e12, p12⟩ := hI.get 5 rfl rfl (hon 12 (by kernel_rfl)) rfl
   obtain ⟨A1_, c1_, rfl, hx1⟩ := p12
   obtain ⟨v14, e14, p14⟩ := hI.get 7 rfl rfl (hon 14 (by kernel_rfl)) rfl
   obtain ⟨A2_, c2_, rfl, hx2⟩ := p14
   refine value_ (w1 := w') (v := .agg #[.slice A0 Rl.length c0, .slice A1_ qT.length c1_, .slice A2_ tO.length c2_]) (wanted_on rfl rfl rfl eg) rfl ?_ ?_
   ·
    go_simp
    try rfl
   exact hK.out _ _ (hI.pure 8 rfl hb_ rfl HSA.out ⟨_, _, _, rfl, ⟨_, _, rfl, hx0⟩, ⟨_, _, rfl, hx1⟩, ⟨_, _, rfl, hx2⟩⟩)
  refine steps_cons ?_ ?_
  ·
   intro b a w' hI hb_ hon hoff
   refine ⟨_, rfl, fun K hK => ?_⟩
   have HW := zA hI.phi
   have eg : a.tmps[141]? = some (.bool false) := (hI.off rfl).trans rfl
   obtain ⟨v7, e7, p7⟩ := hI.get 0 rfl rfl (hon 7 (by kernel_rfl)) rfl
   cases p7
   obtain ⟨v15, e15, p15⟩ := hI.get 8 rfl rfl (hon 15 (by kernel_rfl)) rfl
   obtain ⟨x0, x1, x2, rfl, hx0, hx1, hx2⟩ := p15
   refine goes_ Try.func25 (by kernel_rfl) rfl #[.agg #[.slice At0 Rl.length ct0, .slice At1 qT.length ct1, .slice At2 tO.length ct2], .agg #[x0, x1, x2]] (wanted_on rfl rfl rfl eg) rfl rfl (by first | (simp only [List.map_toArray, List.map_cons, List.map_nil, Act.eval, Array.getD_eq_getD_getElem?, Option.getD_some, e7, e15]; done) | (simp only [List.map_toArray, List.map_cons, List.map_nil, Act.eval, Array.getD_eq_getD_getElem?, Option.getD_some, e7, e15]; rfl)) ?_
   refine (c_same Rl qT tO Rl qT tO true (by kernel_rfl) _ _ _ _ _ _ _ (SVt0.out.below HW.out) (SVt1.out.below HW.out) (SVt2.out.below HW.out) hx0 hx1 hx2).mono ?_
   rintro e w2 ⟨rfl, hb⟩
   exact ⟨_, rfl, hK.out _ _ (hI.put 9 rfl hb_ rfl (below_step HW.out hb) HSA.out hb rfl)⟩
  refine steps_cons ?_ ?_
  ·
   intro b a w' hI hb_ hon hoff
   refine ⟨_, rfl, fun K hK => ?_⟩
   have HW := zA hI.phi
   have eg : a.tmps[141]? = some (.bool false) := (hI.off rfl).trans rfl
   obtain ⟨v16, e16, p16⟩ := hI.get 9 rfl rfl (hon 16 (by kernel_rfl)) rfl
   cases p16
   refine value_ (w1 := w') (v := .bool false) (wanted_on rfl rfl rfl eg) rfl ?_ ?_
   ·
    go_simp
    try rfl
   refine hK.out _ _ (hI.pure 10 rfl hb_ rfl HSA.out rfl)
  refine steps_cons ?_ ?_
  ·
   intro b a w' hI hb_ hon hoff
   refine ⟨_, rfl, fun K hK => ?_⟩
   have HW := zA hI.phi
   have eg : a.tmps[141]? = some (.bool false) := (hI.off rfl).trans rfl
   obtain ⟨v17, e17, p17⟩ := hI.get 10 rfl rfl (hon 17 (by kernel_rfl)) rfl
   cases p17
   have e141 : a.tmps[141]? = some (.bool false) := eg
   refine value_ (w1 := w') (v := .bool false) (by rfl) rfl ?_ ?_
   ·
    go_simp
    try rfl
   refine hK.out _ _ (hI.pure 11 rfl hb_ rfl HSA.out rfl)
  exact steps_nil
 ·
  intro b a w60 hall hI
  obtain ⟨val, rfl, hW_, hp⟩ := hI
  have hb := hW_
  have k18 := hp _ (List.mem_of_getElem? (i := 11) rfl) (hall 18 rfl)
  clear hW_
  replace k18 : val 18 = .bool false := k18
  have HP := zA hp
  clear hp
  simp only [EL.sel, List.map_cons, List.map_nil, putSel, hall 7 rfl, hall 8 rfl, hall 9 rfl, hall 10 rfl, hall 11 rfl, hall 12 rfl, hall 13 rfl, hall 14 rfl, hall 15 rfl, hall 16 rfl, hall 17 rfl, hall 18 rfl, if_true, Act.put, List.setIfInBounds_toArray, List.set_cons_zero, List.set_cons_succ, k18]
  replace HB := zA (below_step HB.out hb)
  replace SV1 := zA (SV1.out.below hb)
  replace SV2 := zA (SV2.out.below hb)
  replace SV4 := zA (SV4.out.below hb)
  replace aa := zA (blk_keep aa.out hb)
  replace SVt0 := zA (SVt0.out.below hb)
  replace SVt1 := zA (SVt1.out.below hb)
  replace SVt2 := zA (SVt2.out.below hb)
  replace ag := zA (blk_keep ag.out hb)
  clear hb HP hall HSA HW0
  (try simp only [Exit.then])
  clear ag SVt0 SVt1 SVt2
  go_upto_region 15 with (fail)
  go_upto_region 16 with (first | ((with_reducible refine gate_callee (f := 26) rfl ?_); (try (refine gate_guard (by rfl) ?_; dsimp only)); refine goesL_ (some 155) rfl rfl Try.func26 (by kernel_rfl) rfl #[] rfl (by (try simp only [List.map_toArray, List.map_cons, List.map_nil]); first | done | rfl) ?_; refine (c_R Rl (by kernel_rfl) _).mono ?_; rintro e w61 ⟨A5, c5, rfl, h_, hb⟩; refine ⟨_, rfl, ?_⟩; replace HB := zA (below_step HB.out hb); replace SV1 := zA (SV1.out.below hb); replace SV2 := zA (SV2.out.below hb); replace SV4 := zA (SV4.out.below hb); replace aa := zA (blk_keep aa.out hb); have SV5 := zA h_; clear hb h_) | ((with_reducible refine gate_dst (N := 157) rfl ?_); (try (refine gate_guard (by rfl) ?_; dsimp only)); refine Kd.R_lit k65 w61.heap.size 65 ?hg (N := 157) ?hd (xs := s3) (inner := [.int .i64 1, .int .i64 20, .int .i64 44, .int .i64 0, .int .i64 0, .int .i64 0]) (ok := fun _ => True) (okp := fun _ => True) ?hr ?hp (fun _ hk => hk) trivial (Below.refl _ _) (Nat.le_refl _) (by decide) ?_; (case hd => rfl); (case hg => rfl); (case hr => first | (go_simp; done) | (go_simp; rfl)); (case hp => exact (Reps.c6 (show Kd.M k65 _ _ _ (⟨1, 20, 44, ⟨0, 0, 0⟩⟩ : S65) [.int .i64 1, .int .i64 20, .int .i64 44, .int .i64 0, .int .i64 0, .int .i64 0] from (k65_mkM _ _ _ _)) (Reps.none _ _))); intro v w62 ho hb hg_ hnew_; clear hg_ hnew_; obtain ⟨A6, c6, rfl⟩ := Kd.R_slice ho; have h_ := SV.ofR ho; replace HB := zA (below_step HB.out hb); replace SV1 := zA (SV1.out.below hb); replace SV2 := zA (SV2.out.below hb); replace SV4 := zA (SV4.out.below hb); replace aa := zA (blk_keep aa.out hb); replace SV5 := zA (SV5.out.below hb); have SV6 := zA h_; clear hb ho h_) | ((with_reducible refine gate_callee (f := 14) rfl ?_); (try (refine gate_guard (by rfl) ?_; dsimp only)); refine goesL_ (some 158) rfl rfl Try.func14 (by kernel_rfl) rfl #[.slice A5 Rl.length c5, .slice A6 s3.length c6] rfl (by (try simp only [List.map_toArray, List.map_cons, List.map_nil]); first | done | rfl) ?_; refine (c_run Rl s3 Rl xT xO 1 0 (by kernel_rfl) _ _ _ SV5.out SV6.out).mono ?_; rintro e w63 ⟨Ax0, cx0, Ax1, cx1, Ax2, cx2, rfl, h0_, h1_, h2_, hb⟩; refine ⟨_, rfl, ?_⟩; replace HB := zA (below_step HB.out hb); replace SV1 := zA (SV1.out.below hb); replace SV2 := zA (SV2.out.below hb); replace SV4 := zA (SV4.out.below hb); replace aa := zA (blk_keep aa.out hb); replace SV5 := zA (SV5.out.below hb); replace SV6 := zA (SV6.out.below hb); have SVx0 := zA h0_; have SVx1 := zA h1_; have SVx2 := zA h2_; clear hb h0_ h1_ h2_) | ((with_reducible refine gate_dst (N := 15) rfl ?_); refine box_event ?hg (N := 15) ?hd (cs := #[.slice none 0 0, .slice none 0 0, .slice none 0 0]) (t := 28) ?hr ?_; (case hd => rfl); (case hg => rfl); (case hr => first | (go_simp; done) | (go_simp; rfl)); intro b15 hg w64 hbox hb; have GE : Aside0 (w63.heap.size ≤ b15) := ⟨by rw [hg]; exact Nat.le_refl _⟩; have ad := zA hbox; have HBa := zA hb; clear hg hbox hb; have z0 : w64.cell? ⟨b15, 0, none⟩ = some (.slice none 0 0) := (blk_cell ad.out 0).trans rfl; have z1 : w64.cell? ⟨b15, 1, none⟩ = some (.slice none 0 0) := (blk_cell ad.out 1).trans rfl; have z2 : w64.cell? ⟨b15, 2, none⟩ = some (.slice none 0 0) := (blk_cell ad.out 2).trans rfl; have zf0 := blk_frozen ad.out 0; have zf1 := blk_frozen ad.out 1; have zf2 := blk_frozen ad.out 2))
  clear z0 zf0 z1 zf1 z2 zf2
  have n_ : Aside0 (((World.setCell (World.setCell (World.setCell w64 ⟨b15, 0, none⟩ (.slice Ax0 Rl.length cx0)) ⟨b15, 1, none⟩ (.slice Ax1 xT.length cx1)) ⟨b15, 2, none⟩ (.slice Ax2 xO.length cx2))).heap[b15]? = some (.cells #[.slice Ax0 Rl.length cx0, .slice Ax1 xT.length cx1, .slice Ax2 xO.length cx2] 28 (0, 0))) := ⟨(blk_put (cs := #[.slice Ax0 Rl.length cx0, .slice Ax1 xT.length cx1, .slice none 0 0]) (blk_put (cs := #[.slice Ax0 Rl.length cx0, .slice none 0 0, .slice none 0 0]) (blk_put (cs := #[.slice none 0 0, .slice none 0 0, .slice none 0 0]) ad.out 0 (.slice Ax0 Rl.length cx0) rfl) 1 (.slice Ax1 xT.length cx1) rfl) 2 (.slice Ax2 xO.length cx2) rfl)⟩
  have hb : Below w63.heap.size w63 (World.setCell (World.setCell (World.setCell w64 ⟨b15, 0, none⟩ (.slice Ax0 Rl.length cx0)) ⟨b15, 1, none⟩ (.slice Ax1 xT.length cx1)) ⟨b15, 2, none⟩ (.slice Ax2 xO.length cx2)) := (below_set (below_set (below_set HBa.out GE.out) GE.out) GE.out)
  clear ad HBa GE; generalize (World.setCell (World.setCell (World.setCell w64 ⟨b15, 0, none⟩ (.slice Ax0 Rl.length cx0)) ⟨b15, 1, none⟩ (.slice Ax1 xT.length cx1)) ⟨b15, 2, none⟩ (.slice Ax2 xO.length cx2)) = w65 at n_ hb ⊢; have ad := n_; clear n_
  replace HB := zA (below_step HB.out hb)
  replace SV1 := zA (SV1.out.below hb)
  replace SV2 := zA (SV2.out.below hb)
  replace SV4 := zA (SV4.out.below hb)
  replace aa := zA (blk_keep aa.out hb)
  replace SV5 := zA (SV5.out.below hb)
  replace SV6 := zA (SV6.out.below hb)
  replace SVx0 := zA (SVx0.out.below hb)
  replace SVx1 := zA (SVx1.out.below hb)
  replace SVx2 := zA (SVx2.out.below hb)
  clear hb SV5 SV6
  go_upto_region 17 with (first | ((with_reducible refine gate_callee (f := 26) rfl ?_); (try (refine gate_guard (by rfl) ?_; dsimp only)); refine goesL_ (some 163) rfl rfl Try.func26 (by kernel_rfl) rfl #[] rfl (by (try simp only [List.map_toArray, List.map_cons, List.map_nil]); first | done | rfl) ?_; refine (c_R Rl (by kernel_rfl) _).mono ?_; rintro e w66 ⟨A5, c5, rfl, h_, hb⟩; refine ⟨_, rfl, ?_⟩; replace HB := zA (below_step HB.out hb); replace SV1 := zA (SV1.out.below hb); replace SV2 := zA (SV2.out.below hb); replace SV4 := zA (SV4.out.below hb); replace aa := zA (blk_keep aa.out hb); replace SVx0 := zA (SVx0.out.below hb); replace SVx1 := zA (SVx1.out.below hb); replace SVx2 := zA (SVx2.out.below hb); replace ad := zA (blk_keep ad.out hb); have SV5 := zA h_; clear hb h_) | ((with_reducible refine gate_dst (N := 165) rfl ?_); (try (refine gate_guard (by rfl) ?_; dsimp only)); refine Kd.R_lit k65 w66.heap.size 65 ?hg (N := 165) ?hd (xs := s4) (inner := [.int .i64 1, .int .i64 0, .int .i64 40, .int .i64 0, .int .i64 0, .int .i64 0]) (ok := fun _ => True) (okp := fun _ => True) ?hr ?hp (fun _ hk => hk) trivial (Below.refl _ _) (Nat.le_refl _) (by decide) ?_; (case hd => rfl); (case hg => rfl); (case hr => first | (go_simp; done) | (go_simp; rfl)); (case hp => exact (Reps.c6 (show Kd.M k65 _ _ _ (⟨1, 0, 40, ⟨0, 0, 0⟩⟩ : S65) [.int .i64 1, .int .i64 0, .int .i64 40, .int .i64 0, .int .i64 0, .int .i64 0] from (k65_mkM _ _ _ _)) (Reps.none _ _))); intro v w67 ho hb hg_ hnew_; clear hg_ hnew_; obtain ⟨A6, c6, rfl⟩ := Kd.R_slice ho; have h_ := SV.ofR ho; replace HB := zA (below_step HB.out hb); replace SV1 := zA (SV1.out.below hb); replace SV2 := zA (SV2.out.below hb); replace SV4 := zA (SV4.out.below hb); replace aa := zA (blk_keep aa.out hb); replace SVx0 := zA (SVx0.out.below hb); replace SVx1 := zA (SVx1.out.below hb); replace SVx2 := zA (SVx2.out.below hb); replace ad := zA (blk_keep ad.out hb); replace SV5 := zA (SV5.out.below hb); have SV6 := zA h_; clear hb ho h_) | ((with_reducible refine gate_callee (f := 14) rfl ?_); (try (refine gate_guard (by rfl) ?_; dsimp only)); refine goesL_ (some 166) rfl rfl Try.func14 (by kernel_rfl) rfl #[.slice A5 Rl.length c5, .slice A6 s4.length c6] rfl (by (try simp only [List.map_toArray, List.map_cons, List.map_nil]); first | done | rfl) ?_; refine (c_run Rl s4 Rl yT yO 1 0 (by kernel_rfl) _ _ _ SV5.out SV6.out).mono ?_; rintro e w68 ⟨Ay0, cy0, Ay1, cy1, Ay2, cy2, rfl, h0_, h1_, h2_, hb⟩; refine ⟨_, rfl, ?_⟩; replace HB := zA (below_step HB.out hb); replace SV1 := zA (SV1.out.below hb); replace SV2 := zA (SV2.out.below hb); replace SV4 := zA (SV4.out.below hb); replace aa := zA (blk_keep aa.out hb); replace SVx0 := zA (SVx0.out.below hb); replace SVx1 := zA (SVx1.out.below hb); replace SVx2 := zA (SVx2.out.below hb); replace ad := zA (blk_keep ad.out hb); replace SV5 := zA (SV5.out.below hb); replace SV6 := zA (SV6.out.below hb); have SVy0 := zA h0_; have SVy1 := zA h1_; have SVy2 := zA h2_; clear hb h0_ h1_ h2_) | ((with_reducible refine gate_dst (N := 17) rfl ?_); refine box_event ?hg (N := 17) ?hd (cs := #[.slice none 0 0, .slice none 0 0, .slice none 0 0]) (t := 28) ?hr ?_; (case hd => rfl); (case hg => rfl); (case hr => first | (go_simp; done) | (go_simp; rfl)); intro b17 hg w69 hbox hb; have GE : Aside0 (w68.heap.size ≤ b17) := ⟨by rw [hg]; exact Nat.le_refl _⟩; have ae := zA hbox; have HBa := zA hb; clear hg hbox hb; have z0 : w69.cell? ⟨b17, 0, none⟩ = some (.slice none 0 0) := (blk_cell ae.out 0).trans rfl; have z1 : w69.cell? ⟨b17, 1, none⟩ = some (.slice none 0 0) := (blk_cell ae.out 1).trans rfl; have z2 : w69.cell? ⟨b17, 2, none⟩ = some (.slice none 0 0) := (blk_cell ae.out 2).trans rfl; have zf0 := blk_frozen ae.out 0; have zf1 := blk_frozen ae.out 1; have zf2 := blk_frozen ae.out 2))
  clear z0 zf0 z1 zf1 z2 zf2
  have n_ : Aside0 (((World.setCell (World.setCell (World.setCell w69 ⟨b17, 0, none⟩ (.slice Ay0 Rl.length cy0)) ⟨b17, 1, none⟩ (.slice Ay1 yT.length cy1)) ⟨b17, 2, none⟩ (.slice Ay2 yO.length cy2))).heap[b17]? = some (.cells #[.slice Ay0 Rl.length cy0, .slice Ay1 yT.length cy1, .slice Ay2 yO.length cy2] 28 (0, 0))) := ⟨(blk_put (cs := #[.slice Ay0 Rl.length cy0, .slice Ay1 yT.length cy1, .slice none 0 0]) (blk_put (cs := #[.slice Ay0 Rl.length cy0, .slice none 0 0, .slice none 0 0]) (blk_put (cs := #[.slice none 0 0, .slice none 0 0, .slice none 0 0]) ae.out 0 (.slice Ay0 Rl.length cy0) rfl) 1 (.slice Ay1 yT.length cy1) rfl) 2 (.slice Ay2 yO.length cy2) rfl)⟩
  have hb : Below w68.heap.size w68 (World.setCell (World.setCell (World.setCell w69 ⟨b17, 0, none⟩ (.slice Ay0 Rl.length cy0)) ⟨b17, 1, none⟩ (.slice Ay1 yT.length cy1)) ⟨b17, 2, none⟩ (.slice Ay2 yO.length cy2)) := (below_set (below_set (below_set HBa.out GE.out) GE.out) GE.out)
  clear ae HBa GE; generalize (World.setCell (World.setCell (World.setCell w69 ⟨b17, 0, none⟩ (.slice Ay0 Rl.length cy0)) ⟨b17, 1, none⟩ (.slice Ay1 yT.length cy1)) ⟨b17, 2, none⟩ (.slice Ay2 yO.length cy2)) = w70 at n_ hb ⊢; have ae := n_; clear n_
  replace HB := zA (below_step HB.out hb)
  replace SV1 := zA (SV1.out.below hb)
  replace SV2 := zA (SV2.out.below hb)
  replace SV4 := zA (SV4.out.below hb)
  replace aa := zA (blk_keep aa.out hb)
  replace SVx0 := zA (SVx0.out.below hb)
  replace SVx1 := zA (SVx1.out.below hb)
  replace SVx2 := zA (SVx2.out.below hb)
  replace ad := zA (blk_keep ad.out hb)
  replace SV5 := zA (SV5.out.below hb)
  replace SV6 := zA (SV6.out.below hb)
  replace SVy0 := zA (SVy0.out.below hb)
  replace SVy1 := zA (SVy1.out.below hb)
  replace SVy2 := zA (SVy2.out.below hb)
  clear hb SV5 SV6
  have x0 : w70.cell? ⟨b4, 0, none⟩ = some (.slice A1 Rl.length c1) := (blk_cell aa.out 0).trans rfl
  have x1 : w70.cell? ⟨b4, 1, none⟩ = some (.slice A2 mT.length c2) := (blk_cell aa.out 1).trans rfl
  have x2 : w70.cell? ⟨b4, 2, none⟩ = some (.slice A4 mO.length c4) := (blk_cell aa.out 2).trans rfl
  have y0 : w70.cell? ⟨b15, 0, none⟩ = some (.slice Ax0 Rl.length cx0) := (blk_cell ad.out 0).trans rfl
  have y1 : w70.cell? ⟨b15, 1, none⟩ = some (.slice Ax1 xT.length cx1) := (blk_cell ad.out 1).trans rfl
  have y2 : w70.cell? ⟨b15, 2, none⟩ = some (.slice Ax2 xO.length cx2) := (blk_cell ad.out 2).trans rfl
  go_upto_region 18 with (first | ((with_reducible refine gate_callee (f := 28) rfl ?_); (try (refine gate_guard (by rfl) ?_; dsimp only)); refine goesL_ (some 173) rfl rfl Try.func28 (by kernel_rfl) rfl #[.agg #[.slice A1 Rl.length c1, .slice A2 mT.length c2, .slice A4 mO.length c4], .agg #[.slice Ax0 Rl.length cx0, .slice Ax1 xT.length cx1, .slice Ax2 xO.length cx2]] rfl (by (try simp only [List.map_toArray, List.map_cons, List.map_nil]); first | done | rfl) ?_; refine (c_mer Rl mT mO Rl xT xO Rl zT zO 0 (by kernel_rfl) _ _ _ _ _ _ _ SV1.out SV2.out SV4.out SVx0.out SVx1.out SVx2.out).mono ?_; rintro e w71 ⟨Az0, cz0, Az1, cz1, Az2, cz2, rfl, h0_, h1_, h2_, hb⟩; refine ⟨_, rfl, ?_⟩; replace HB := zA (below_step HB.out hb); replace SV1 := zA (SV1.out.below hb); replace SV2 := zA (SV2.out.below hb); replace SV4 := zA (SV4.out.below hb); replace aa := zA (blk_keep aa.out hb); replace SVx0 := zA (SVx0.out.below hb); replace SVx1 := zA (SVx1.out.below hb); replace SVx2 := zA (SVx2.out.below hb); replace ad := zA (blk_keep ad.out hb); replace SVy0 := zA (SVy0.out.below hb); replace SVy1 := zA (SVy1.out.below hb); replace SVy2 := zA (SVy2.out.below hb); replace ae := zA (blk_keep ae.out hb); have SVz0 := zA h0_; have SVz1 := zA h1_; have SVz2 := zA h2_; clear hb h0_ h1_ h2_; clear x0 x1 x2 y0 y1 y2) | ((with_reducible refine gate_dst (N := 19) rfl ?_); refine box_event ?hg (N := 19) ?hd (cs := #[.slice none 0 0, .slice none 0 0, .slice none 0 0]) (t := 28) ?hr ?_; (case hd => rfl); (case hg => rfl); (case hr => first | (go_simp; done) | (go_simp; rfl)); intro b19 hg w72 hbox hb; have GE : Aside0 (w71.heap.size ≤ b19) := ⟨by rw [hg]; exact Nat.le_refl _⟩; have af := zA hbox; have HBa := zA hb; clear hg hbox hb; have z0 : w72.cell? ⟨b19, 0, none⟩ = some (.slice none 0 0) := (blk_cell af.out 0).trans rfl; have z1 : w72.cell? ⟨b19, 1, none⟩ = some (.slice none 0 0) := (blk_cell af.out 1).trans rfl; have z2 : w72.cell? ⟨b19, 2, none⟩ = some (.slice none 0 0) := (blk_cell af.out 2).trans rfl; have zf0 := blk_frozen af.out 0; have zf1 := blk_frozen af.out 1; have zf2 := blk_frozen af.out 2))
  clear z0 zf0 z1 zf1 z2 zf2
  have n_ : Aside0 (((World.setCell (World.setCell (World.setCell w72 ⟨b19, 0, none⟩ (.slice Az0 Rl.length cz0)) ⟨b19, 1, none⟩ (.slice Az1 zT.length cz1)) ⟨b19, 2, none⟩ (.slice Az2 zO.length cz2))).heap[b19]? = some (.cells #[.slice Az0 Rl.length cz0, .slice Az1 zT.length cz1, .slice Az2 zO.length cz2] 28 (0, 0))) := ⟨(blk_put (cs := #[.slice Az0 Rl.length cz0, .slice Az1 zT.length cz1, .slice none 0 0]) (blk_put (cs := #[.slice Az0 Rl.length cz0, .slice none 0 0, .slice none 0 0]) (blk_put (cs := #[.slice none 0 0, .slice none 0 0, .slice none 0 0]) af.out 0 (.slice Az0 Rl.length cz0) rfl) 1 (.slice Az1 zT.length cz1) rfl) 2 (.slice Az2 zO.length cz2) rfl)⟩
  have hb : Below w71.heap.size w71 (World.setCell (World.setCell (World.setCell w72 ⟨b19, 0, none⟩ (.slice Az0 Rl.length cz0)) ⟨b19, 1, none⟩ (.slice Az1 zT.length cz1)) ⟨b19, 2, none⟩ (.slice Az2 zO.length cz2)) := (below_set (below_set (below_set HBa.out GE.out) GE.out) GE.out)
  clear af HBa GE; generalize (World.setCell (World.setCell (World.setCell w72 ⟨b19, 0, none⟩ (.slice Az0 Rl.length cz0)) ⟨b19, 1, none⟩ (.slice Az1 zT.length cz1)) ⟨b19, 2, none⟩ (.slice Az2 zO.length cz2)) = w73 at n_ hb ⊢; have af := n_; clear n_
  replace HB := zA (below_step HB.out hb)
  replace SV1 := zA (SV1.out.below hb)
  replace SV2 := zA (SV2.out.below hb)
  replace SV4 := zA (SV4.out.below hb)
  replace aa := zA (blk_keep aa.out hb)
  replace SVx0 := zA (SVx0.out.below hb)
  replace SVx1 := zA (SVx1.out.below hb)
  replace SVx2 := zA (SVx2.out.below hb)
  replace ad := zA (blk_keep ad.out hb)
  replace SVy0 := zA (SVy0.out.below hb)
  replace SVy1 := zA (SVy1.out.below hb)
  replace SVy2 := zA (SVy2.out.below hb)
  replace ae := zA (blk_keep ae.out hb)
  replace SVz0 := zA (SVz0.out.below hb)
  replace SVz1 := zA (SVz1.out.below hb)
  replace SVz2 := zA (SVz2.out.below hb)
  clear hb ad SVx0 SVx1 SVx2
  have x0 : w73.cell? ⟨b4, 0, none⟩ = some (.slice A1 Rl.length c1) := (blk_cell aa.out 0).trans rfl
  have x1 : w73.cell? ⟨b4, 1, none⟩ = some (.slice A2 mT.length c2) := (blk_cell aa.out 1).trans rfl
  have x2 : w73.cell? ⟨b4, 2, none⟩ = some (.slice A4 mO.length c4) := (blk_cell aa.out 2).trans rfl
  have y0 : w73.cell? ⟨b17, 0, none⟩ = some (.slice Ay0 Rl.length cy0) := (blk_cell ae.out 0).trans rfl
  have y1 : w73.cell? ⟨b17, 1, none⟩ = some (.slice Ay1 yT.length cy1) := (blk_cell ae.out 1).trans rfl
  have y2 : w73.cell? ⟨b17, 2, none⟩ = some (.slice Ay2 yO.length cy2) := (blk_cell ae.out 2).trans rfl
  go_upto_region 19 with (first | ((with_reducible refine gate_callee (f := 28) rfl ?_); (try (refine gate_guard (by rfl) ?_; dsimp only)); refine goesL_ (some 179) rfl rfl Try.func28 (by kernel_rfl) rfl #[.agg #[.slice A1 Rl.length c1, .slice A2 mT.length c2, .slice A4 mO.length c4], .agg #[.slice Ay0 Rl.length cy0, .slice Ay1 yT.length cy1, .slice Ay2 yO.length cy2]] rfl (by (try simp only [List.map_toArray, List.map_cons, List.map_nil]); first | done | rfl) ?_; refine (c_mer Rl mT mO Rl yT yO [] [] [] 15 (by kernel_rfl) _ _ _ _ _ _ _ SV1.out SV2.out SV4.out SVy0.out SVy1.out SVy2.out).mono ?_; rintro e w74 ⟨An0, cn0, An1, cn1, An2, cn2, rfl, h0_, h1_, h2_, hb⟩; refine ⟨_, rfl, ?_⟩; replace HB := zA (below_step HB.out hb); replace SV1 := zA (SV1.out.below hb); replace SV2 := zA (SV2.out.below hb); replace SV4 := zA (SV4.out.below hb); replace aa := zA (blk_keep aa.out hb); replace SVy0 := zA (SVy0.out.below hb); replace SVy1 := zA (SVy1.out.below hb); replace SVy2 := zA (SVy2.out.below hb); replace ae := zA (blk_keep ae.out hb); replace SVz0 := zA (SVz0.out.below hb); replace SVz1 := zA (SVz1.out.below hb); replace SVz2 := zA (SVz2.out.below hb); replace af := zA (blk_keep af.out hb); have SVn0 := zA h0_; have SVn1 := zA h1_; have SVn2 := zA h2_; clear hb h0_ h1_ h2_; clear x0 x1 x2 y0 y1 y2))
  clear aa SV1 SV2 SV4 ae SVy0 SVy1 SVy2 SVn0 SVn1 SVn2
  have hb : Below w74.heap.size w74 w74.drew := below_drew1 (Below.refl _ _)
  replace HB := zA (below_step HB.out hb)
  replace SVz0 := zA (SVz0.out.below hb)
  replace SVz1 := zA (SVz1.out.below hb)
  replace SVz2 := zA (SVz2.out.below hb)
  replace af := zA (blk_keep af.out hb)
  clear hb
  refine start_ (n := 26) (S := fun w' => True) (ds := []) #[false, false, false, false, false, false, false, false, false, false, false, false, false, false, false, false, false, false, false, false, false, false, false, false, false, false] (by kernel_rfl) rfl rfl trivial (fun hHeld => ?_); refine with_tabW works13.tab19 works13.bits19 (fun HT_ HW_ => ?_)
  generalize w74.drew = w75 at HB SVz0 SVz1 SVz2 af hHeld ⊢
  refine pureQ 0 (some 182) HT_ ?_
  refine pureQ 1 (some 183) HT_ ?_
  refine pureQ 2 (some 184) HT_ ?_
  refine pureQ 3 (some 185) HT_ ?_
  refine pureQ 4 (some 186) HT_ ?_
  refine pureQ 5 (some 187) HT_ ?_
  refine pureQ 6 (some 188) HT_ ?_
  refine pureQ 7 (some 189) HT_ ?_
  refine pureQ 8 (some 190) HT_ ?_
  refine pureQ 9 (some 191) HT_ ?_
  refine pureQ 10 (some 192) HT_ ?_
  refine pureQ 11 (some 193) HT_ ?_
  refine pureQ 12 (some 194) HT_ ?_
  refine pureQ 13 (some 195) HT_ ?_
  refine pureQ 14 (some 196) HT_ ?_
  have HW0 : Below w75.heap.size w75 w75 := Below.refl _ _
  have HST : Stab ([(15, 197, IsV (.agg #[.slice Az0 Rl.length cz0, .slice Az1 zT.length cz1, .slice Az2 zO.length cz2])), (16, 198, (fun v w => SV k61 v Rl w)), (17, 199, IsV (.agg #[.int .i64 10, .int .i64 42, .int .i64 5])), (18, 200, IsV (.agg #[.int .i64 30, .int .i64 40, .int .i64 5])), (19, 201, (fun v w => SV k61 v zT w)), (20, 202, (fun v w => SV (Kd.int .i64) v ([1, 0] : List Int) w)), (21, 203, (fun v w => SV k67 v zO w)), (22, 204, (fun v w => ∃ x0 x1 x2, v = .agg #[x0, x1, x2] ∧ SV k61 x0 Rl w ∧ SV k61 x1 zT w ∧ SV k67 x2 zO w)), (23, 205, IsV (.bool true)), (24, 206, IsV (.bool true)), (25, 0, IsV (.bool true))] : EL) := stab_cons (stab_is (.agg #[.slice Az0 Rl.length cz0, .slice Az1 zT.length cz1, .slice Az2 zO.length cz2])) (stab_cons (stab_sv k61 Rl) (stab_cons (stab_is (.agg #[.int .i64 10, .int .i64 42, .int .i64 5])) (stab_cons (stab_is (.agg #[.int .i64 30, .int .i64 40, .int .i64 5])) (stab_cons (stab_sv k61 zT) (stab_cons (stab_sv (Kd.int .i64) ([1, 0] : List Int)) (stab_cons (stab_sv k67 zO) (stab_cons (fun v w w' hb h => by obtain ⟨x0, x1, x2, e, h0, h1, h2⟩ := h; exact ⟨x0, x1, x2, e, h0.below hb, h1.below hb, h2.below hb⟩) (stab_cons (stab_is (.bool true)) (stab_cons (stab_is (.bool true)) (stab_cons (stab_is (.bool true)) (stab_nil)))))))))))
  have HSA := zA HST
  clear HST
  refine inv_at [15, 16, 17, 18, 19, 20, 21, 22, 23, 24, 25] (fun a0_ => RI (fun w' => Below w75.heap.size w75 w') [(15, 197, IsV (.agg #[.slice Az0 Rl.length cz0, .slice Az1 zT.length cz1, .slice Az2 zO.length cz2])), (16, 198, (fun v w => SV k61 v Rl w)), (17, 199, IsV (.agg #[.int .i64 10, .int .i64 42, .int .i64 5])), (18, 200, IsV (.agg #[.int .i64 30, .int .i64 40, .int .i64 5])), (19, 201, (fun v w => SV k61 v zT w)), (20, 202, (fun v w => SV (Kd.int .i64) v ([1, 0] : List Int) w)), (21, 203, (fun v w => SV k67 v zO w)), (22, 204, (fun v w => ∃ x0 x1 x2, v = .agg #[x0, x1, x2] ∧ SV k61 x0 Rl w ∧ SV k61 x1 zT w ∧ SV k67 x2 zO w)), (23, 205, IsV (.bool true)), (24, 206, IsV (.bool true)), (25, 0, IsV (.bool true))] a0_) HT_.out HW_.out (by kernel_rfl) (by kernel_rfl) ?_ ?_ ?_
  ·
   exact RI.start _ _ HW0
  ·
   skip
   refine steps_cons ?_ ?_
   ·
    intro b a w' hI hb_ hon hoff
    refine ⟨_, rfl, fun K hK => ?_⟩
    have HW := zA hI.phi
    have eg : a.tmps[196]? = some (.bool true) := (hI.off rfl).trans rfl
    have hk_ := blk_keep af.out HW.out
    have x0 : w'.cell? ⟨b19, 0, none⟩ = some (.slice Az0 Rl.length cz0) := (blk_cell hk_ 0).trans rfl
    have x1 : w'.cell? ⟨b19, 1, none⟩ = some (.slice Az1 zT.length cz1) := (blk_cell hk_ 1).trans rfl
    have x2 : w'.cell? ⟨b19, 2, none⟩ = some (.slice Az2 zO.length cz2) := (blk_cell hk_ 2).trans rfl
    have ep : a.tmps[19]? = some (.pointer (some ⟨b19, 0, none⟩)) := (hI.off rfl).trans rfl
    refine value_ (w1 := w') (v := .agg #[.slice Az0 Rl.length cz0, .slice Az1 zT.length cz1, .slice Az2 zO.length cz2]) (wanted_on rfl rfl rfl eg) rfl ?_ ?_
    ·
     go_simp
     try rfl
    refine hK.out _ _ (hI.pure 0 rfl hb_ rfl HSA.out rfl)
   refine steps_cons ?_ ?_
   ·
    intro b a w' hI hb_ hon hoff
    refine ⟨_, rfl, fun K hK => ?_⟩
    have HW := zA hI.phi
    have eg : a.tmps[196]? = some (.bool true) := (hI.off rfl).trans rfl
    refine goes_ Try.func26 (by kernel_rfl) rfl #[] (wanted_on rfl rfl rfl eg) rfl rfl (by first | (simp only [List.map_toArray, List.map_cons, List.map_nil, Act.eval, Array.getD_eq_getD_getElem?, Option.getD_some]; done) | (simp only [List.map_toArray, List.map_cons, List.map_nil, Act.eval, Array.getD_eq_getD_getElem?, Option.getD_some]; rfl)) ?_
    refine (c_R Rl (by kernel_rfl) _).mono ?_
    rintro e w2 ⟨A, c, rfl, h_, hb⟩
    exact ⟨_, rfl, hK.out _ _ (hI.put 1 rfl hb_ rfl (below_step HW.out hb) HSA.out hb h_)⟩
   refine steps_cons ?_ ?_
   ·
    intro b a w' hI hb_ hon hoff
    refine ⟨_, rfl, fun K hK => ?_⟩
    have HW := zA hI.phi
    have eg : a.tmps[196]? = some (.bool true) := (hI.off rfl).trans rfl
    refine goes_ Try.func27 (by kernel_rfl) rfl #[.int .i64 10, .int .i64 42, .int .i64 5] (wanted_on rfl rfl rfl eg) rfl rfl (by first | (simp only [List.map_toArray, List.map_cons, List.map_nil, Act.eval, Array.getD_eq_getD_getElem?, Option.getD_some]; done) | (simp only [List.map_toArray, List.map_cons, List.map_nil, Act.eval, Array.getD_eq_getD_getElem?, Option.getD_some]; rfl)) ?_
    refine (c_note 10 42 5 _).mono ?_
    rintro e w2 ⟨rfl, hb⟩
    exact ⟨_, rfl, hK.out _ _ (hI.put 2 rfl hb_ rfl (below_step HW.out hb) HSA.out hb rfl)⟩
   refine steps_cons ?_ ?_
   ·
    intro b a w' hI hb_ hon hoff
    refine ⟨_, rfl, fun K hK => ?_⟩
    have HW := zA hI.phi
    have eg : a.tmps[196]? = some (.bool true) := (hI.off rfl).trans rfl
    refine goes_ Try.func27 (by kernel_rfl) rfl #[.int .i64 30, .int .i64 40, .int .i64 5] (wanted_on rfl rfl rfl eg) rfl rfl (by first | (simp only [List.map_toArray, List.map_cons, List.map_nil, Act.eval, Array.getD_eq_getD_getElem?, Option.getD_some]; done) | (simp only [List.map_toArray, List.map_cons, List.map_nil, Act.eval, Array.getD_eq_getD_getElem?, Option.getD_some]; rfl)) ?_
    refine (c_note 30 40 5 _).mono ?_
    rintro e w2 ⟨rfl, hb⟩
    exact ⟨_, rfl, hK.out _ _ (hI.put 3 rfl hb_ rfl (below_step HW.out hb) HSA.out hb rfl)⟩
   refine steps_cons ?_ ?_
   ·
    intro b a w' hI hb_ hon hoff
    refine ⟨_, rfl, fun K hK => ?_⟩
    have HW := zA hI.phi
    have eg : a.tmps[196]? = some (.bool true) := (hI.off rfl).trans rfl
    obtain ⟨v17, e17, p17⟩ := hI.get 2 rfl rfl (hon 17 (by kernel_rfl)) rfl
    cases p17
    obtain ⟨v18, e18, p18⟩ := hI.get 3 rfl rfl (hon 18 (by kernel_rfl)) rfl
    cases p18
    refine value_ (v := .slice (some ⟨w'.heap.size, 0, none⟩) (List.length zT) (List.length zT)) (w1 := w'.alloc (.cells #[.int .i64 10, .int .i64 42, .int .i64 5, .int .i64 30, .int .i64 40, .int .i64 5] 61)) (wanted_on rfl rfl rfl eg) rfl (by go_simp; try rfl) ?_
    have hb := below_alloc (Below.refl w'.heap.size w') (.cells #[.int .i64 10, .int .i64 42, .int .i64 5, .int .i64 30, .int .i64 40, .int .i64 5] 61)
    exact hK.out _ _ (hI.put 4 rfl hb_ rfl (below_step HW.out hb) HSA.out hb (SV.lit (k := k61) (l := zT) (cs := [.int .i64 10, .int .i64 42, .int .i64 5, .int .i64 30, .int .i64 40, .int .i64 5]) (heap_alloc_new w' (.cells #[.int .i64 10, .int .i64 42, .int .i64 5, .int .i64 30, .int .i64 40, .int .i64 5] 61)) (Reps.c3 (show Kd.K k61 _ (⟨10, 42, 5⟩ : S61) [.int .i64 10, .int .i64 42, .int .i64 5] from (k61_mk _ _)) (Reps.c3 (show Kd.K k61 _ (⟨30, 40, 5⟩ : S61) [.int .i64 30, .int .i64 40, .int .i64 5] from (k61_mk _ _)) (Reps.none _ _))) (by decide)))
   refine steps_cons ?_ ?_
   ·
    intro b a w' hI hb_ hon hoff
    refine ⟨_, rfl, fun K hK => ?_⟩
    have HW := zA hI.phi
    have eg : a.tmps[196]? = some (.bool true) := (hI.off rfl).trans rfl
    refine value_ (v := .slice (some ⟨w'.heap.size, 0, none⟩) (List.length ([1, 0] : List Int)) (List.length ([1, 0] : List Int))) (w1 := w'.alloc (.cells #[.int .i64 (1), .int .i64 (0)] 3)) (wanted_on rfl rfl rfl eg) rfl (by go_simp; try rfl) ?_
    have hb := below_alloc (Below.refl w'.heap.size w') (.cells #[.int .i64 (1), .int .i64 (0)] 3)
    exact hK.out _ _ (hI.put 5 rfl hb_ rfl (below_step HW.out hb) HSA.out hb (SV.lit (k := (Kd.int .i64)) (l := ([1, 0] : List Int)) (cs := [.int .i64 (1), .int .i64 (0)]) (heap_alloc_new w' (.cells #[.int .i64 (1), .int .i64 (0)] 3)) (Reps.one (show Kd.K (Kd.int .i64) _ (1 : Int) [.int .i64 (1)] from rfl) (Reps.one (show Kd.K (Kd.int .i64) _ (0 : Int) [.int .i64 (0)] from rfl) (Reps.none _ _))) (by decide)))
   refine steps_cons ?_ ?_
   ·
    intro b a w' hI hb_ hon hoff
    refine ⟨_, rfl, fun K hK => ?_⟩
    have HW := zA hI.phi
    have eg : a.tmps[196]? = some (.bool true) := (hI.off rfl).trans rfl
    obtain ⟨v20, e20, p20⟩ := hI.get 5 rfl rfl (hon 20 (by kernel_rfl)) rfl
    refine goes_ Try.func44 (by kernel_rfl) rfl #[v20] (wanted_on rfl rfl rfl eg) rfl rfl (by first | (simp only [List.map_toArray, List.map_cons, List.map_nil, Act.eval, Array.getD_eq_getD_getElem?, Option.getD_some, e20]; done) | (simp only [List.map_toArray, List.map_cons, List.map_nil, Act.eval, Array.getD_eq_getD_getElem?, Option.getD_some, e20]; rfl)) ?_
    refine (c_org ([1, 0] : List Int) zO (by kernel_rfl) _ _ p20).mono ?_
    rintro e w2 ⟨A, c, rfl, h_, hb⟩
    exact ⟨_, rfl, hK.out _ _ (hI.put 6 rfl hb_ rfl (below_step HW.out hb) HSA.out hb h_)⟩
   refine steps_cons ?_ ?_
   ·
    intro b a w' hI hb_ hon hoff
    refine ⟨_, rfl, fun K hK => ?_⟩
    have HW := zA hI.phi
    have eg : a.tmps[196]? = some (.bool true) := (hI.off rfl).trans rfl
    obtain ⟨v16, e16, p16⟩ := hI.get 1 rfl rfl (hon 16 (by kernel_rfl)) rfl
    obtain ⟨A0, c0, rfl, hx0⟩ := p16
    obtain ⟨v19, e19, p19⟩ := hI.get 4 rfl rfl (hon 19 (by kernel_rfl)) rfl
    obtain ⟨A1_, c1_, rfl, hx1⟩ := p19
    obtain ⟨v21, e21, p21⟩ := hI.get 6 rfl rfl (hon 21 (by kernel_rfl)) rfl
    obtain ⟨A2_, c2_, rfl, hx2⟩ := p21
    refine value_ (w1 := w') (v := .agg #[.slice A0 Rl.length c0, .slice A1_ zT.length c1_, .slice A2_ zO.length c2_]) (wanted_on rfl rfl rfl eg) rfl ?_ ?_
    ·
     go_simp
     try rfl
    exact hK.out _ _ (hI.pure 7 rfl hb_ rfl HSA.out ⟨_, _, _, rfl, ⟨_, _, rfl, hx0⟩, ⟨_, _, rfl, hx1⟩, ⟨_, _, rfl, hx2⟩⟩)
   refine steps_cons ?_ ?_
   ·
    intro b a w' hI hb_ hon hoff
    refine ⟨_, rfl, fun K hK => ?_⟩
    have HW := zA hI.phi
    have eg : a.tmps[196]? = some (.bool true) := (hI.off rfl).trans rfl
    obtain ⟨v15, e15, p15⟩ := hI.get 0 rfl rfl (hon 15 (by kernel_rfl)) rfl
    cases p15
    obtain ⟨v22, e22, p22⟩ := hI.get 7 rfl rfl (hon 22 (by kernel_rfl)) rfl
    obtain ⟨x0, x1, x2, rfl, hx0, hx1, hx2⟩ := p22
    refine goes_ Try.func25 (by kernel_rfl) rfl #[.agg #[.slice Az0 Rl.length cz0, .slice Az1 zT.length cz1, .slice Az2 zO.length cz2], .agg #[x0, x1, x2]] (wanted_on rfl rfl rfl eg) rfl rfl (by first | (simp only [List.map_toArray, List.map_cons, List.map_nil, Act.eval, Array.getD_eq_getD_getElem?, Option.getD_some, e15, e22]; done) | (simp only [List.map_toArray, List.map_cons, List.map_nil, Act.eval, Array.getD_eq_getD_getElem?, Option.getD_some, e15, e22]; rfl)) ?_
    refine (c_same Rl zT zO Rl zT zO true (by kernel_rfl) _ _ _ _ _ _ _ (SVz0.out.below HW.out) (SVz1.out.below HW.out) (SVz2.out.below HW.out) hx0 hx1 hx2).mono ?_
    rintro e w2 ⟨rfl, hb⟩
    exact ⟨_, rfl, hK.out _ _ (hI.put 8 rfl hb_ rfl (below_step HW.out hb) HSA.out hb rfl)⟩
   refine steps_cons ?_ ?_
   ·
    intro b a w' hI hb_ hon hoff
    refine ⟨_, rfl, fun K hK => ?_⟩
    have HW := zA hI.phi
    have eg : a.tmps[196]? = some (.bool true) := (hI.off rfl).trans rfl
    obtain ⟨v23, e23, p23⟩ := hI.get 8 rfl rfl (hon 23 (by kernel_rfl)) rfl
    cases p23
    have e196 : a.tmps[196]? = some (.bool true) := eg
    refine value_ (w1 := w') (v := .bool true) (by rfl) rfl ?_ ?_
    ·
     go_simp
     try rfl
    refine hK.out _ _ (hI.pure 9 rfl hb_ rfl HSA.out rfl)
   refine steps_cons ?_ ?_
   ·
    intro b a w' hI hb_ hon hoff
    refine ⟨_, rfl, fun K hK => ?_⟩
    have HW := zA hI.phi
    have eg : a.tmps[196]? = some (.bool true) := (hI.off rfl).trans rfl
    obtain ⟨v24, e24, p24⟩ := hI.get 9 rfl rfl (hon 24 (by kernel_rfl)) rfl
    cases p24
    refine value_ (w1 := w') (v := .bool true) (by rfl) rfl ?_ ?_
    ·
     go_simp
     try rfl
    refine hK.out _ _ (hI.pure 10 rfl hb_ rfl HSA.out rfl)
   exact steps_nil
  ·
   intro b a w76 hall hI
   obtain ⟨val, rfl, hW_, hp⟩ := hI
   have hb := hW_
   have k25 := hp _ (List.mem_of_getElem? (i := 10) rfl) (hall 25 rfl)
   clear hW_
   replace k25 : val 25 = .bool true := k25
   have HP := zA hp
   clear hp
   simp only [EL.sel, List.map_cons, List.map_nil, putSel, hall 15 rfl, hall 16 rfl, hall 17 rfl, hall 18 rfl, hall 19 rfl, hall 20 rfl, hall 21 rfl, hall 22 rfl, hall 23 rfl, hall 24 rfl, hall 25 rfl, if_true, Act.put, List.setIfInBounds_toArray, List.set_cons_zero, List.set_cons_succ, k25]
   replace HB := zA (below_step HB.out hb)
   replace SVz0 := zA (SVz0.out.below hb)
   replace SVz1 := zA (SVz1.out.below hb)
   replace SVz2 := zA (SVz2.out.below hb)
   replace af := zA (blk_keep af.out hb)
   clear hb HP hall HSA HW0
   (try simp only [Exit.then])
   go_wp2
   go_ret
   exact ⟨rfl, HB.out⟩
end Go.Proofs.Ytehpbmdphfbooaa.P
end
section
namespace Go.Proofs.Ytehpbmdphfbooaa.P
open Go.RowKit Go.Proofs.YtehpbmdphfbooaaW.PrintWords Go.Proofs.YtehpbmdphfbooaaW.PrintLast Go.Proofs.YtehpbmdphfbooaaW.PrintMore
def pianolalaw02_works.f : Option Bool := some true
theorem pianolalaw02_works.calls (r : Bool) (w : World) (h : pianolalaw02_works.f = some r) : Calls Try.prog 13 #[] w fun e w' => e = .returned (.bool r) ∧ Below w.heap.size w w' := by
  obtain rfl := Option.some.inj h
  exact works13 w
end Go.Proofs.Ytehpbmdphfbooaa.P
end
