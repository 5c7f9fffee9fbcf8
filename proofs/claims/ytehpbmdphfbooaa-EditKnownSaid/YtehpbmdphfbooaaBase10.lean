/- Words and contracts for a claim. -/
import Derived.Test.YtehpbmdphfbooaaBase9

section
namespace Go.Proofs.Ytehpbmdphfbooaa.P
open Go.RowKit Go.Proofs Go.Proofs.YtehpbmdphfbooaaW.PrintWords Go.Proofs.YtehpbmdphfbooaaW.PrintLast Go.Proofs.YtehpbmdphfbooaaW.PrintMore
set_option linter.unusedVariables false
set_option linter.unusedSimpArgs false
def goodN (a b c : Int) : Bool := decide (0 ≤ a ∧ a ≤ 1000000) && decide (0 ≤ b ∧ b ≤ 87) && decide (1 ≤ c ∧ c ≤ 1000)
def stepE (kd sa sk n0 n1 n2 : Int) (th tk ow : Bool) (len : Nat) : Int :=
  if ¬ (1 ≤ kd ∧ kd ≤ 4) then 12
  else if (kd = 2 ∧ ¬ (sa = 0 ∧ sk = 0)) ∨ (kd = 1 ∧ ¬ (n0 = 0 ∧ n1 = 0 ∧ n2 = 0)) then 6
  else if kd ≠ 2 ∧ th = false then 8
  else if kd = 1 then 0
  else if goodN n0 n1 n2 = false then 3
  else if tk = true ∧ ow = false then 9
  else if kd ≠ 3 ∧ len = 60 then 16 else 0
theorem own_ (a b c d : Int) (w : World) : (if a = b then if c = d then Result.ok (Next.value (Value.bool true)) w else Result.ok (Next.value (Value.bool false)) w else Result.ok (Next.value (Value.bool false)) w) = Result.ok (Next.value (Value.bool (decide (a = b) && decide (c = d)))) w := by
  by_cases h : a = b <;> by_cases k : c = d <;> simp [h, k]
def stepErr (M : PM) (kd sa sk n0 n1 n2 : Int) : Int :=
  stepE kd sa sk n0 n1 n2 (getM M (sa, sk)).isSome (getM M (n0, n1)).isSome (decide (kd = 3) && decide ((n0, n1) = (sa, sk))) M.length
theorem good54 (a b c : Int) (w : World) : Calls Try.prog 54 #[.agg #[.int .i64 a, .int .i64 b, .int .i64 c]] w fun e w' => e = .returned (.bool (goodN a b c)) ∧ Below w.heap.size w w' := by
  refine edit_Note_good.calls a b c _ w ?_
  unfold edit_Note_good.f edit_between.f goodN
  by_cases h1 : 0 ≤ a <;> by_cases h2 : a ≤ 1000000 <;> by_cases h3 : 0 ≤ b <;> by_cases h4 : b ≤ 87 <;> by_cases h5 : 1 ≤ c <;> by_cases h6 : c ≤ 1000 <;> simp [h1, h2, h3, h4, h5, h6]
theorem good54b (a b c : Int) (r : Bool) (hr : goodN a b c = r) (w : World) : Calls Try.prog 54 #[.agg #[.int .i64 a, .int .i64 b, .int .i64 c]] w fun e w' => e = .returned (.bool r) ∧ Below w.heap.size w w' := hr ▸ good54 a b c w
theorem between70 (b : Int) (r : Bool) (hr : r = decide (1 ≤ b ∧ b ≤ 4)) (w : World) : Calls Try.prog 70 #[.int .i64 1, .int .i64 b, .int .i64 4] w fun e w' => e = .returned (.bool r) ∧ Below w.heap.size w w' := by
  subst hr
  refine (edit_between.calls 1 b 4 (decide (1 ≤ b ∧ b ≤ 4)) w ?_).mono ?_
  · unfold edit_between.f
    by_cases h1 : 1 ≤ b <;> by_cases h2 : b ≤ 4 <;> simp [h1, h2]
  · rintro e w' ⟨rfl, nd, rfl⟩
    exact ⟨rfl, by repeat (first | exact Below.refl _ _ | apply pw_below_drewN)⟩
def check46.T1 : Bool × List (List Nat × List Nat) := (true, [([], []), ([0], [0]), ([1], [1]), ([2], [2]), ([], []), ([4], [4]), ([], []), ([6], [6]), ([5, 7], [5, 7]), ([3, 8], [3, 8]), ([9], [9]), ([10], [10]), ([10], [10]), ([], []), ([13, 11, 0, 1, 2, 3, 4, 5, 6, 7, 8, 9, 10, 11, 13], [11, 13]), ([12, 14, 0, 1, 2, 3, 4, 5, 6, 7, 8, 9, 10, 11, 12, 13, 14], [12])])
def check46.B1 : List Nat := [0, 1, 3, 7, 0, 16, 0, 64, 240, 511, 1023, 2047, 2047, 0, 12287, 32767]
theorem check46.tab1 : rtab .any (opsOf Try.f46 1) = check46.T1 := by kernel_rfl
theorem check46.bits1 : waitsOk check46.T1.2 check46.B1 = true := by kernel_rfl
def check46.T2 : Bool × List (List Nat × List Nat) := (true, [([], []), ([0], [0]), ([1], [1]), ([2], [2]), ([], []), ([4], [4]), ([5], [5]), ([3, 6], [3, 6]), ([7], [7]), ([8], [8]), ([8], [8]), ([], []), ([11, 9, 6, 0, 1, 2, 3, 4, 5, 6, 7, 8, 9, 11], [9, 11]), ([10, 12, 0, 1, 2, 3, 4, 5, 6, 7, 8, 9, 10, 11, 12], [10])])
def check46.B2 : List Nat := [0, 1, 3, 7, 0, 16, 48, 127, 255, 511, 511, 0, 3071, 8191]
theorem check46.tab2 : rtab .any (opsOf Try.f46 2) = check46.T2 := by kernel_rfl
theorem check46.bits2 : waitsOk check46.T2.2 check46.B2 = true := by kernel_rfl
def check46.T3 : Bool × List (List Nat × List Nat) := (true, [([], []), ([0], [0]), ([1], [1]), ([2], [2]), ([3], [3]), ([4, 3], [3, 4]), ([5, 3, 3], [3, 5]), ([3], [3]), ([7, 3], [3, 7]), ([3], [3]), ([9, 3], [3, 9]), ([8, 10, 3], [3, 8, 10]), ([6, 11, 3], [3, 6, 11]), ([3, 12], [3, 12]), ([13, 6, 0, 1, 2, 3, 4, 5, 6, 7, 8, 9, 10, 11, 12, 13], [13])])
def check46.B3 : List Nat := [0, 1, 3, 7, 15, 31, 63, 15, 143, 15, 527, 1935, 4095, 8191, 16383]
theorem check46.tab3 : rtab .any (opsOf Try.f46 3) = check46.T3 := by kernel_rfl
theorem check46.bits3 : waitsOk check46.T3.2 check46.B3 = true := by kernel_rfl
set_option maxHeartbeats 4000000 in
set_option maxRecDepth 100000 in
theorem check46 (gd gm : Nat) (M : PM) (kd sa sk n0 n1 n2 : Int) (w : World) (hd : Desk w gd gm M) :
  Calls Try.prog 46 #[.pointer (some ⟨gd, 0, none⟩), .agg #[.int .i64 kd, .int .i64 sa, .int .i64 sk, .int .i64 n0, .int .i64 n1, .int .i64 n2]] w fun e w' => e = .returned (.int .i64 (stepErr M kd sa sk n0 n1 n2)) ∧ Below w.heap.size w w' := by
 have mixed : Try.prog.follows .mixedOrders = true := by kernel_rfl
 have hu65 := Try.underlying65
 have hu108 := Try.underlying108
 have hu103 := Try.underlying103
 have hu61 := Try.underlying61
 have hu106 := Try.underlying106
 have hu67 := Try.underlying67
 have ab := zA hd.1
 have HM := zA hd.2
 have HB := zA (Below.refl w.heap.size w)
 clear hd
 unfold stepErr
 go_enter Try.func46, Try.ntmps46
 go_upto_region 1 with (first | ((with_reducible refine gate_dst (N := 3) rfl ?_); refine box_event ?hg (N := 3) ?hd (cs := #[.int .i64 kd, .int .i64 sa, .int .i64 sk, .int .i64 n0, .int .i64 n1, .int .i64 n2]) (t := 65) ?hr ?_; (case hd => rfl); (case hg => rfl); (case hr => first | (go_simp; done) | (go_simp; rfl)); intro g3 hg w3 hbox hb; replace HB := zA (below_step HB.out hb); replace ab := zA (blk_keep ab.out hb); replace HM := zA (hasM_below HM.out hb); have aa := zA hbox; clear hb hbox hg))
 replace HB := zA (below_drew1 HB.out)
 replace ab := zA (blk_drew ab.out)
 replace HM := zA ((HasM.same HM.out rfl : HasM w3.drew ekP ev108 gm M))
 replace aa := zA (blk_drew aa.out)
 refine start_ (n := 16) (S := fun w' => w'.heap[g3]? = some (.cells #[.int .i64 kd, .int .i64 sa, .int .i64 sk, .int .i64 n0, .int .i64 n1, .int .i64 n2] 65 (0, 0)) ∧ w'.heap[gd]? = some (.cells #[.map (some gm)] 103 (0, 0)) ∧ HasM w' ekP ev108 gm M) (ds := []) #[false, false, false, false, false, false, false, false, false, false, false, false, false, false, false, false] (by kernel_rfl) rfl rfl ⟨aa.out, ab.out, HM.out⟩ (fun hHeld => ?_); refine with_tabW check46.tab1 check46.bits1 (fun HT_ HW_ => ?_)
 generalize World.drew w3 = w4 at HB ab HM aa hHeld ⊢
 refine pureQ 0 (some 11) HT_ ?_
 refine pureQ 1 (some 12) HT_ ?_
 refine pureQ 2 (some 13) HT_ ?_
 refine pureQ 4 (some 15) HT_ ?_
 refine pureQ 6 (some 17) HT_ ?_
 refine takeQ (v := ?_) (a' := ?_) 3 (some 14) HT_ HW_ hHeld ?_ ?_ ?_
 rotate_left
 ·
  rintro w' ⟨s0, s1, s2⟩
  have y0_0 : w'.cell? ⟨g3, 0, none⟩ = some (.int .i64 kd) := (blk_cell s0 0).trans rfl
  have y0_1 : w'.cell? ⟨g3, 1, none⟩ = some (.int .i64 sa) := (blk_cell s0 1).trans rfl
  have y0_2 : w'.cell? ⟨g3, 2, none⟩ = some (.int .i64 sk) := (blk_cell s0 2).trans rfl
  have y0_3 : w'.cell? ⟨g3, 3, none⟩ = some (.int .i64 n0) := (blk_cell s0 3).trans rfl
  have y0_4 : w'.cell? ⟨g3, 4, none⟩ = some (.int .i64 n1) := (blk_cell s0 4).trans rfl
  have y0_5 : w'.cell? ⟨g3, 5, none⟩ = some (.int .i64 n2) := (blk_cell s0 5).trans rfl
  have y1_0 : w'.cell? ⟨gd, 0, none⟩ = some (.map (some gm)) := (blk_cell s1 0).trans rfl
  go_simp
  with_reducible rfl
 rotate_left
 ·
  exact putQ
 refine takeQ (v := ?_) (a' := ?_) 5 (some 16) HT_ HW_ hHeld ?_ ?_ ?_
 rotate_left
 ·
  rintro w' ⟨s0, s1, s2⟩
  have y0_0 : w'.cell? ⟨g3, 0, none⟩ = some (.int .i64 kd) := (blk_cell s0 0).trans rfl
  have y0_1 : w'.cell? ⟨g3, 1, none⟩ = some (.int .i64 sa) := (blk_cell s0 1).trans rfl
  have y0_2 : w'.cell? ⟨g3, 2, none⟩ = some (.int .i64 sk) := (blk_cell s0 2).trans rfl
  have y0_3 : w'.cell? ⟨g3, 3, none⟩ = some (.int .i64 n0) := (blk_cell s0 3).trans rfl
  have y0_4 : w'.cell? ⟨g3, 4, none⟩ = some (.int .i64 n1) := (blk_cell s0 4).trans rfl
  have y0_5 : w'.cell? ⟨g3, 5, none⟩ = some (.int .i64 n2) := (blk_cell s0 5).trans rfl
  have y1_0 : w'.cell? ⟨gd, 0, none⟩ = some (.map (some gm)) := (blk_cell s1 0).trans rfl
  go_simp
  with_reducible rfl
 rotate_left
 ·
  exact putQ
 refine takeQ (v := ?_) (a' := ?_) 7 (some 18) HT_ HW_ hHeld ?_ ?_ ?_
 rotate_left
 ·
  rintro w' ⟨s0, s1, s2⟩
  have y0_0 : w'.cell? ⟨g3, 0, none⟩ = some (.int .i64 kd) := (blk_cell s0 0).trans rfl
  have y0_1 : w'.cell? ⟨g3, 1, none⟩ = some (.int .i64 sa) := (blk_cell s0 1).trans rfl
  have y0_2 : w'.cell? ⟨g3, 2, none⟩ = some (.int .i64 sk) := (blk_cell s0 2).trans rfl
  have y0_3 : w'.cell? ⟨g3, 3, none⟩ = some (.int .i64 n0) := (blk_cell s0 3).trans rfl
  have y0_4 : w'.cell? ⟨g3, 4, none⟩ = some (.int .i64 n1) := (blk_cell s0 4).trans rfl
  have y0_5 : w'.cell? ⟨g3, 5, none⟩ = some (.int .i64 n2) := (blk_cell s0 5).trans rfl
  have y1_0 : w'.cell? ⟨gd, 0, none⟩ = some (.map (some gm)) := (blk_cell s1 0).trans rfl
  go_simp
  with_reducible rfl
 rotate_left
 ·
  exact putQ
 refine pureQ 8 (some 19) HT_ ?_
 refine takeQ (v := ?_) (a' := ?_) 9 (some 20) HT_ HW_ hHeld ?_ ?_ ?_
 rotate_left
 ·
  rintro w' ⟨s0, s1, s2⟩
  have hlk := lookP_ok s2 sa sk
  have hev : ev108 (lookP M (sa, sk)) = .agg #[.int .i64 (lookP M (sa, sk)).f0.f0, .int .i64 (lookP M (sa, sk)).f0.f1, .int .i64 (lookP M (sa, sk)).f0.f2, .int .i64 (lookP M (sa, sk)).f1.f0, .bool (lookP M (sa, sk)).f1.f1, .int .i64 (lookP M (sa, sk)).f2.f0, .bool (lookP M (sa, sk)).f2.f1] := rfl
  rw [hev] at hlk
  go_simp
  with_reducible rfl
 rotate_left
 ·
  exact putQ
 refine pureQ 10 (some 10) HT_ ?_
 refine pureQ 11 (some 21) HT_ ?_
 refine pureQ 12 (some 22) HT_ ?_
 refine one_ (i := 13) (N := (some 5)) #[true, true, true, true, true, true, true, true, true, true, true, true, true, true, false, false] rfl rfl (one_of HT_.out (by kernel_rfl)) (by decide) (fun K hK => ?_)
 refine value_ (v := .pointer (some ⟨w4.heap.size, 0, none⟩)) (w1 := w4.alloc (.cells #[.int .i64 0, .int .i64 0, .int .i64 0, .int .i64 0, .bool false, .int .i64 0, .bool false] 108)) (by rfl) rfl (by go_simp) ?_
 have ac := zA (heap_alloc_new w4 (.cells #[.int .i64 0, .int .i64 0, .int .i64 0, .int .i64 0, .bool false, .int .i64 0, .bool false] 108))
 have hb := below_alloc (Below.refl w4.heap.size w4) (.cells #[.int .i64 0, .int .i64 0, .int .i64 0, .int .i64 0, .bool false, .int .i64 0, .bool false] 108)
 obtain ⟨g5, hg_⟩ : ∃ g_ : Nat, g_ = w4.heap.size := ⟨_, rfl⟩
 have GE : Aside0 (w.heap.size ≤ g5) := ⟨by rw [hg_]; exact HB.out.size⟩
 have NS : Aside0 (g3 ≠ g5) := ⟨by have := blk_lt aa.out; omega⟩
 have NM : Aside0 (gm ≠ g5) := ⟨by have := HM.out.lt; omega⟩
 have ND : Aside0 (gd ≠ g5) := ⟨by have := blk_lt ab.out; omega⟩
 rw [← hg_] at ac ⊢
 replace HB := zA (below_step HB.out hb)
 replace ab := zA (blk_keep ab.out hb)
 replace HM := zA (hasM_below HM.out hb)
 replace aa := zA (blk_keep aa.out hb)
 clear hb hg_ hHeld; generalize w4.alloc (.cells #[.int .i64 0, .int .i64 0, .int .i64 0, .int .i64 0, .bool false, .int .i64 0, .bool false] 108) = w4a at ac HB ab HM aa ⊢
 refine hK.out _ _ ⟨aa.out, ab.out, HM.out⟩ (fun hHeld => ?_)
 clear hK K
 refine normQ ?_
 refine one_ (i := 14) (N := none) #[true, true, true, true, true, true, true, true, true, true, true, true, true, true, true, false] rfl rfl (one_of HT_.out (by kernel_rfl)) (by decide) (fun K hK => ?_)
 have q0 : w4a.cell? ⟨g5, 0, none⟩ = some (.int .i64 0) := (blk_cell ac.out 0).trans rfl
 have q1 : w4a.cell? ⟨g5, 1, none⟩ = some (.int .i64 0) := (blk_cell ac.out 1).trans rfl
 have q2 : w4a.cell? ⟨g5, 2, none⟩ = some (.int .i64 0) := (blk_cell ac.out 2).trans rfl
 have q3 : w4a.cell? ⟨g5, 3, none⟩ = some (.int .i64 0) := (blk_cell ac.out 3).trans rfl
 have q4 : w4a.cell? ⟨g5, 4, none⟩ = some (.bool false) := (blk_cell ac.out 4).trans rfl
 have q5 : w4a.cell? ⟨g5, 5, none⟩ = some (.int .i64 0) := (blk_cell ac.out 5).trans rfl
 have q6 : w4a.cell? ⟨g5, 6, none⟩ = some (.bool false) := (blk_cell ac.out 6).trans rfl
 have qf0 := blk_frozen ac.out 0
 have qf1 := blk_frozen ac.out 1
 have qf2 := blk_frozen ac.out 2
 have qf3 := blk_frozen ac.out 3
 have qf4 := blk_frozen ac.out 4
 have qf5 := blk_frozen ac.out 5
 have qf6 := blk_frozen ac.out 6
 refine skip_ (w1 := (World.setCell (World.setCell (World.setCell (World.setCell (World.setCell (World.setCell (World.setCell w4a ⟨g5, 0, none⟩ (.int .i64 (lookP M (sa, sk)).f0.f0)) ⟨g5, 1, none⟩ (.int .i64 (lookP M (sa, sk)).f0.f1)) ⟨g5, 2, none⟩ (.int .i64 (lookP M (sa, sk)).f0.f2)) ⟨g5, 3, none⟩ (.int .i64 (lookP M (sa, sk)).f1.f0)) ⟨g5, 4, none⟩ (.bool (lookP M (sa, sk)).f1.f1)) ⟨g5, 5, none⟩ (.int .i64 (lookP M (sa, sk)).f2.f0)) ⟨g5, 6, none⟩ (.bool (lookP M (sa, sk)).f2.f1))) (by rfl) rfl (by go_simp) ?_
 clear q0 qf0 q1 qf1 q2 qf2 q3 qf3 q4 qf4 q5 qf5 q6 qf6 hHeld
 have n0_ : Aside0 (((World.setCell (World.setCell (World.setCell (World.setCell (World.setCell (World.setCell (World.setCell w4a ⟨g5, 0, none⟩ (.int .i64 (lookP M (sa, sk)).f0.f0)) ⟨g5, 1, none⟩ (.int .i64 (lookP M (sa, sk)).f0.f1)) ⟨g5, 2, none⟩ (.int .i64 (lookP M (sa, sk)).f0.f2)) ⟨g5, 3, none⟩ (.int .i64 (lookP M (sa, sk)).f1.f0)) ⟨g5, 4, none⟩ (.bool (lookP M (sa, sk)).f1.f1)) ⟨g5, 5, none⟩ (.int .i64 (lookP M (sa, sk)).f2.f0)) ⟨g5, 6, none⟩ (.bool (lookP M (sa, sk)).f2.f1))).heap[g5]? = some (.cells #[.int .i64 (lookP M (sa, sk)).f0.f0, .int .i64 (lookP M (sa, sk)).f0.f1, .int .i64 (lookP M (sa, sk)).f0.f2, .int .i64 (lookP M (sa, sk)).f1.f0, .bool (lookP M (sa, sk)).f1.f1, .int .i64 (lookP M (sa, sk)).f2.f0, .bool (lookP M (sa, sk)).f2.f1] 108 (0, 0))) := ⟨(blk_put (cs := #[.int .i64 (lookP M (sa, sk)).f0.f0, .int .i64 (lookP M (sa, sk)).f0.f1, .int .i64 (lookP M (sa, sk)).f0.f2, .int .i64 (lookP M (sa, sk)).f1.f0, .bool (lookP M (sa, sk)).f1.f1, .int .i64 (lookP M (sa, sk)).f2.f0, .bool false]) (blk_put (cs := #[.int .i64 (lookP M (sa, sk)).f0.f0, .int .i64 (lookP M (sa, sk)).f0.f1, .int .i64 (lookP M (sa, sk)).f0.f2, .int .i64 (lookP M (sa, sk)).f1.f0, .bool (lookP M (sa, sk)).f1.f1, .int .i64 0, .bool false]) (blk_put (cs := #[.int .i64 (lookP M (sa, sk)).f0.f0, .int .i64 (lookP M (sa, sk)).f0.f1, .int .i64 (lookP M (sa, sk)).f0.f2, .int .i64 (lookP M (sa, sk)).f1.f0, .bool false, .int .i64 0, .bool false]) (blk_put (cs := #[.int .i64 (lookP M (sa, sk)).f0.f0, .int .i64 (lookP M (sa, sk)).f0.f1, .int .i64 (lookP M (sa, sk)).f0.f2, .int .i64 0, .bool false, .int .i64 0, .bool false]) (blk_put (cs := #[.int .i64 (lookP M (sa, sk)).f0.f0, .int .i64 (lookP M (sa, sk)).f0.f1, .int .i64 0, .int .i64 0, .bool false, .int .i64 0, .bool false]) (blk_put (cs := #[.int .i64 (lookP M (sa, sk)).f0.f0, .int .i64 0, .int .i64 0, .int .i64 0, .bool false, .int .i64 0, .bool false]) (blk_put (cs := #[.int .i64 0, .int .i64 0, .int .i64 0, .int .i64 0, .bool false, .int .i64 0, .bool false]) ac.out 0 (.int .i64 (lookP M (sa, sk)).f0.f0) rfl) 1 (.int .i64 (lookP M (sa, sk)).f0.f1) rfl) 2 (.int .i64 (lookP M (sa, sk)).f0.f2) rfl) 3 (.int .i64 (lookP M (sa, sk)).f1.f0) rfl) 4 (.bool (lookP M (sa, sk)).f1.f1) rfl) 5 (.int .i64 (lookP M (sa, sk)).f2.f0) rfl) 6 (.bool (lookP M (sa, sk)).f2.f1) rfl)⟩
 have n1_ : Aside0 (Below w.heap.size w (World.setCell (World.setCell (World.setCell (World.setCell (World.setCell (World.setCell (World.setCell w4a ⟨g5, 0, none⟩ (.int .i64 (lookP M (sa, sk)).f0.f0)) ⟨g5, 1, none⟩ (.int .i64 (lookP M (sa, sk)).f0.f1)) ⟨g5, 2, none⟩ (.int .i64 (lookP M (sa, sk)).f0.f2)) ⟨g5, 3, none⟩ (.int .i64 (lookP M (sa, sk)).f1.f0)) ⟨g5, 4, none⟩ (.bool (lookP M (sa, sk)).f1.f1)) ⟨g5, 5, none⟩ (.int .i64 (lookP M (sa, sk)).f2.f0)) ⟨g5, 6, none⟩ (.bool (lookP M (sa, sk)).f2.f1))) := ⟨(below_set (below_set (below_set (below_set (below_set (below_set (below_set HB.out GE.out) GE.out) GE.out) GE.out) GE.out) GE.out) GE.out)⟩
 have n2_ := zA ((blk_far (blk_far (blk_far (blk_far (blk_far (blk_far (blk_far aa.out (p := ⟨g5, 0, none⟩) (NS.out) (.int .i64 (lookP M (sa, sk)).f0.f0)) (p := ⟨g5, 1, none⟩) (NS.out) (.int .i64 (lookP M (sa, sk)).f0.f1)) (p := ⟨g5, 2, none⟩) (NS.out) (.int .i64 (lookP M (sa, sk)).f0.f2)) (p := ⟨g5, 3, none⟩) (NS.out) (.int .i64 (lookP M (sa, sk)).f1.f0)) (p := ⟨g5, 4, none⟩) (NS.out) (.bool (lookP M (sa, sk)).f1.f1)) (p := ⟨g5, 5, none⟩) (NS.out) (.int .i64 (lookP M (sa, sk)).f2.f0)) (p := ⟨g5, 6, none⟩) (NS.out) (.bool (lookP M (sa, sk)).f2.f1))); have n3_ := zA ((blk_far (blk_far (blk_far (blk_far (blk_far (blk_far (blk_far ab.out (p := ⟨g5, 0, none⟩) (ND.out) (.int .i64 (lookP M (sa, sk)).f0.f0)) (p := ⟨g5, 1, none⟩) (ND.out) (.int .i64 (lookP M (sa, sk)).f0.f1)) (p := ⟨g5, 2, none⟩) (ND.out) (.int .i64 (lookP M (sa, sk)).f0.f2)) (p := ⟨g5, 3, none⟩) (ND.out) (.int .i64 (lookP M (sa, sk)).f1.f0)) (p := ⟨g5, 4, none⟩) (ND.out) (.bool (lookP M (sa, sk)).f1.f1)) (p := ⟨g5, 5, none⟩) (ND.out) (.int .i64 (lookP M (sa, sk)).f2.f0)) (p := ⟨g5, 6, none⟩) (ND.out) (.bool (lookP M (sa, sk)).f2.f1))); have n4_ := zA ((HasM.same (HasM.same (HasM.same (HasM.same (HasM.same (HasM.same (HasM.same HM.out (Below.heap_setCell _ ⟨g5, 0, none⟩ (.int .i64 (lookP M (sa, sk)).f0.f0) _ (NM.out))) (Below.heap_setCell _ ⟨g5, 1, none⟩ (.int .i64 (lookP M (sa, sk)).f0.f1) _ (NM.out))) (Below.heap_setCell _ ⟨g5, 2, none⟩ (.int .i64 (lookP M (sa, sk)).f0.f2) _ (NM.out))) (Below.heap_setCell _ ⟨g5, 3, none⟩ (.int .i64 (lookP M (sa, sk)).f1.f0) _ (NM.out))) (Below.heap_setCell _ ⟨g5, 4, none⟩ (.bool (lookP M (sa, sk)).f1.f1) _ (NM.out))) (Below.heap_setCell _ ⟨g5, 5, none⟩ (.int .i64 (lookP M (sa, sk)).f2.f0) _ (NM.out))) (Below.heap_setCell _ ⟨g5, 6, none⟩ (.bool (lookP M (sa, sk)).f2.f1) _ (NM.out)))); clear ac HB aa ab HM; generalize (World.setCell (World.setCell (World.setCell (World.setCell (World.setCell (World.setCell (World.setCell w4a ⟨g5, 0, none⟩ (.int .i64 (lookP M (sa, sk)).f0.f0)) ⟨g5, 1, none⟩ (.int .i64 (lookP M (sa, sk)).f0.f1)) ⟨g5, 2, none⟩ (.int .i64 (lookP M (sa, sk)).f0.f2)) ⟨g5, 3, none⟩ (.int .i64 (lookP M (sa, sk)).f1.f0)) ⟨g5, 4, none⟩ (.bool (lookP M (sa, sk)).f1.f1)) ⟨g5, 5, none⟩ (.int .i64 (lookP M (sa, sk)).f2.f0)) ⟨g5, 6, none⟩ (.bool (lookP M (sa, sk)).f2.f1)) = w5 at n0_ n1_ n2_ n3_ n4_ ⊢; have ac := n0_; have HB := n1_; have aa := n2_; have ab := n3_; have HM := n4_; clear n0_ n1_ n2_ n3_ n4_ ac GE NS NM ND
 refine hK.out _ _ ⟨aa.out, ab.out, HM.out⟩ (fun hHeld => ?_)
 clear hK K
 refine pureQ 15 (some 6) HT_ ?_
 refine done_ (done_of HT_.out (by kernel_rfl)) ?_
 go_upto_region 2 with (fail)
 replace HB := zA (below_drew1 HB.out)
 replace ab := zA (blk_drew ab.out)
 replace HM := zA ((HasM.same HM.out rfl : HasM w5.drew ekP ev108 gm M))
 replace aa := zA (blk_drew aa.out)
 refine start_ (n := 14) (S := fun w' => w'.heap[g3]? = some (.cells #[.int .i64 kd, .int .i64 sa, .int .i64 sk, .int .i64 n0, .int .i64 n1, .int .i64 n2] 65 (0, 0)) ∧ w'.heap[gd]? = some (.cells #[.map (some gm)] 103 (0, 0)) ∧ HasM w' ekP ev108 gm M) (ds := []) #[false, false, false, false, false, false, false, false, false, false, false, false, false, false] (by kernel_rfl) rfl rfl ⟨aa.out, ab.out, HM.out⟩ (fun hHeld => ?_); refine with_tabW check46.tab2 check46.bits2 (fun HT_ HW_ => ?_)
 generalize World.drew w5 = w6 at HB ab HM aa hHeld ⊢
 refine pureQ 0 (some 24) HT_ ?_
 refine pureQ 1 (some 25) HT_ ?_
 refine pureQ 2 (some 26) HT_ ?_
 refine pureQ 4 (some 28) HT_ ?_
 refine takeQ (v := ?_) (a' := ?_) 3 (some 27) HT_ HW_ hHeld ?_ ?_ ?_
 rotate_left
 ·
  rintro w' ⟨s0, s1, s2⟩
  have y0_0 : w'.cell? ⟨g3, 0, none⟩ = some (.int .i64 kd) := (blk_cell s0 0).trans rfl
  have y0_1 : w'.cell? ⟨g3, 1, none⟩ = some (.int .i64 sa) := (blk_cell s0 1).trans rfl
  have y0_2 : w'.cell? ⟨g3, 2, none⟩ = some (.int .i64 sk) := (blk_cell s0 2).trans rfl
  have y0_3 : w'.cell? ⟨g3, 3, none⟩ = some (.int .i64 n0) := (blk_cell s0 3).trans rfl
  have y0_4 : w'.cell? ⟨g3, 4, none⟩ = some (.int .i64 n1) := (blk_cell s0 4).trans rfl
  have y0_5 : w'.cell? ⟨g3, 5, none⟩ = some (.int .i64 n2) := (blk_cell s0 5).trans rfl
  have y1_0 : w'.cell? ⟨gd, 0, none⟩ = some (.map (some gm)) := (blk_cell s1 0).trans rfl
  go_simp
  with_reducible rfl
 rotate_left
 ·
  exact putQ
 refine takeQ (v := ?_) (a' := ?_) 5 (some 29) HT_ HW_ hHeld ?_ ?_ ?_
 rotate_left
 ·
  rintro w' ⟨s0, s1, s2⟩
  have y0_0 : w'.cell? ⟨g3, 0, none⟩ = some (.int .i64 kd) := (blk_cell s0 0).trans rfl
  have y0_1 : w'.cell? ⟨g3, 1, none⟩ = some (.int .i64 sa) := (blk_cell s0 1).trans rfl
  have y0_2 : w'.cell? ⟨g3, 2, none⟩ = some (.int .i64 sk) := (blk_cell s0 2).trans rfl
  have y0_3 : w'.cell? ⟨g3, 3, none⟩ = some (.int .i64 n0) := (blk_cell s0 3).trans rfl
  have y0_4 : w'.cell? ⟨g3, 4, none⟩ = some (.int .i64 n1) := (blk_cell s0 4).trans rfl
  have y0_5 : w'.cell? ⟨g3, 5, none⟩ = some (.int .i64 n2) := (blk_cell s0 5).trans rfl
  have y1_0 : w'.cell? ⟨gd, 0, none⟩ = some (.map (some gm)) := (blk_cell s1 0).trans rfl
  go_simp
  with_reducible rfl
 rotate_left
 ·
  exact putQ
 refine join_ (σ := Nat) 2 #[true, true, true, true, true, true, true, true, true, true, true, true, false, false] (fun g => [(30, .agg #[.int .i64 n0, .int .i64 n1]), (31, .tuple #[.agg #[.int .i64 (lookP M (n0, n1)).f0.f0, .int .i64 (lookP M (n0, n1)).f0.f1, .int .i64 (lookP M (n0, n1)).f0.f2, .int .i64 (lookP M (n0, n1)).f1.f0, .bool (lookP M (n0, n1)).f1.f1, .int .i64 (lookP M (n0, n1)).f2.f0, .bool (lookP M (n0, n1)).f2.f1], .bool (getM M (n0, n1)).isSome]), (23, .tuple #[.agg #[.int .i64 (lookP M (n0, n1)).f0.f0, .int .i64 (lookP M (n0, n1)).f0.f1, .int .i64 (lookP M (n0, n1)).f0.f2, .int .i64 (lookP M (n0, n1)).f1.f0, .bool (lookP M (n0, n1)).f1.f1, .int .i64 (lookP M (n0, n1)).f2.f0, .bool (lookP M (n0, n1)).f2.f1], .bool (getM M (n0, n1)).isSome]), (32, .agg #[.int .i64 (lookP M (n0, n1)).f0.f0, .int .i64 (lookP M (n0, n1)).f0.f1, .int .i64 (lookP M (n0, n1)).f0.f2, .int .i64 (lookP M (n0, n1)).f1.f0, .bool (lookP M (n0, n1)).f1.f1, .int .i64 (lookP M (n0, n1)).f2.f0, .bool (lookP M (n0, n1)).f2.f1]), (33, .bool (getM M (n0, n1)).isSome), (7, .pointer (some ⟨g, 0, none⟩))]) (fun g w' => w.heap.size ≤ g ∧ g3 ≠ g ∧ gm ≠ g ∧ gd ≠ g ∧ Below w.heap.size w w' ∧ w'.heap[gd]? = some (.cells #[.map (some gm)] 103 (0, 0)) ∧ HasM w' ekP ev108 gm M ∧ w'.heap[g3]? = some (.cells #[.int .i64 kd, .int .i64 sa, .int .i64 sk, .int .i64 n0, .int .i64 n1, .int .i64 n2] 65 (0, 0)) ∧ w'.heap[g]? = some (.cells #[.int .i64 0, .int .i64 0, .int .i64 0, .int .i64 0, .bool false, .int .i64 0, .bool false] 108 (0, 0))) ?_ ?_
 rotate_left
 ·
  intro hCont
  refine two_ (i := 6) (j := 11) (Ni := some 30) (Nj := some 7) #[true, true, true, true, true, true, true, false, false, false, false, false, false, false] #[true, true, true, true, true, true, false, false, false, false, false, true, false, false] rfl rfl rfl rfl (two_of HT_.out (by kernel_rfl)) (by decide) (by decide) (fun K hK => ?_) (fun K hK => ?_)
  ·
   skip
   refine goes_ Try.func52 (by kernel_rfl) rfl #[.agg #[.int .i64 n0, .int .i64 n1, .int .i64 n2]] (by rfl) rfl rfl (by (try simp only [List.map_toArray, List.map_cons, List.map_nil]); first | done | rfl) ?_
   refine (place52b n0 n1 n2 _).mono ?_
   rintro e w' ⟨rfl, hb⟩
   replace HB := zA (below_step HB.out hb)
   replace ab := zA (blk_keep ab.out hb)
   replace HM := zA (hasM_below HM.out hb)
   replace aa := zA (blk_keep aa.out hb)
   clear hb
   refine ⟨_, rfl, ?_⟩
   refine hK.out _ _ ⟨aa.out, ab.out, HM.out⟩ (fun hHeld => ?_)
   clear hK K
   refine normQ ?_
   refine takeQ (v := ?_) (a' := ?_) 7 (some 31) HT_ HW_ hHeld ?_ ?_ ?_
   rotate_left
   ·
    rintro w' ⟨s0, s1, s2⟩
    have hlk := lookP_ok s2 n0 n1
    have hev : ev108 (lookP M (n0, n1)) = .agg #[.int .i64 (lookP M (n0, n1)).f0.f0, .int .i64 (lookP M (n0, n1)).f0.f1, .int .i64 (lookP M (n0, n1)).f0.f2, .int .i64 (lookP M (n0, n1)).f1.f0, .bool (lookP M (n0, n1)).f1.f1, .int .i64 (lookP M (n0, n1)).f2.f0, .bool (lookP M (n0, n1)).f2.f1] := rfl
    rw [hev] at hlk
    go_simp
    with_reducible rfl
   rotate_left
   ·
    exact putQ
   refine pureQ 8 (some 23) HT_ ?_
   refine pureQ 9 (some 32) HT_ ?_
   refine pureQ 10 (some 33) HT_ ?_
   refine one_ (i := 11) (N := (some 7)) #[true, true, true, true, true, true, true, true, true, true, true, true, false, false] rfl rfl (one_of HT_.out (by kernel_rfl)) (by decide) (fun K hK => ?_)
   refine value_ (v := .pointer (some ⟨w'.heap.size, 0, none⟩)) (w1 := w'.alloc (.cells #[.int .i64 0, .int .i64 0, .int .i64 0, .int .i64 0, .bool false, .int .i64 0, .bool false] 108)) (by rfl) rfl (by go_simp) ?_
   have ac := zA (heap_alloc_new w' (.cells #[.int .i64 0, .int .i64 0, .int .i64 0, .int .i64 0, .bool false, .int .i64 0, .bool false] 108))
   have hb := below_alloc (Below.refl w'.heap.size w') (.cells #[.int .i64 0, .int .i64 0, .int .i64 0, .int .i64 0, .bool false, .int .i64 0, .bool false] 108)
   obtain ⟨g6, hg_⟩ : ∃ g_ : Nat, g_ = w'.heap.size := ⟨_, rfl⟩
   have GE : Aside0 (w.heap.size ≤ g6) := ⟨by rw [hg_]; exact HB.out.size⟩
   have NS : Aside0 (g3 ≠ g6) := ⟨by have := blk_lt aa.out; omega⟩
   have NM : Aside0 (gm ≠ g6) := ⟨by have := HM.out.lt; omega⟩
   have ND : Aside0 (gd ≠ g6) := ⟨by have := blk_lt ab.out; omega⟩
   rw [← hg_] at ac ⊢
   replace HB := zA (below_step HB.out hb)
   replace ab := zA (blk_keep ab.out hb)
   replace HM := zA (hasM_below HM.out hb)
   replace aa := zA (blk_keep aa.out hb)
   clear hb hg_ hHeld; generalize w'.alloc (.cells #[.int .i64 0, .int .i64 0, .int .i64 0, .int .i64 0, .bool false, .int .i64 0, .bool false] 108) = w6a at ac HB ab HM aa ⊢
   refine hK.out _ _ ⟨aa.out, ab.out, HM.out⟩ (fun hHeld => ?_)
   clear hK K
   refine normQ ?_
   exact norm_ (by simp only [putAll, Act.put, List.setIfInBounds_toArray, List.set_cons_zero, List.set_cons_succ]) (hCont g6 _ ⟨GE.out, NS.out, NM.out, ND.out, HB.out, ab.out, HM.out, aa.out, ac.out⟩)
  ·
   skip
   refine value_ (v := .pointer (some ⟨w6.heap.size, 0, none⟩)) (w1 := w6.alloc (.cells #[.int .i64 0, .int .i64 0, .int .i64 0, .int .i64 0, .bool false, .int .i64 0, .bool false] 108)) (by rfl) rfl (by go_simp) ?_
   have ac := zA (heap_alloc_new w6 (.cells #[.int .i64 0, .int .i64 0, .int .i64 0, .int .i64 0, .bool false, .int .i64 0, .bool false] 108))
   have hb := below_alloc (Below.refl w6.heap.size w6) (.cells #[.int .i64 0, .int .i64 0, .int .i64 0, .int .i64 0, .bool false, .int .i64 0, .bool false] 108)
   obtain ⟨g6, hg_⟩ : ∃ g_ : Nat, g_ = w6.heap.size := ⟨_, rfl⟩
   have GE : Aside0 (w.heap.size ≤ g6) := ⟨by rw [hg_]; exact HB.out.size⟩
   have NS : Aside0 (g3 ≠ g6) := ⟨by have := blk_lt aa.out; omega⟩
   have NM : Aside0 (gm ≠ g6) := ⟨by have := HM.out.lt; omega⟩
   have ND : Aside0 (gd ≠ g6) := ⟨by have := blk_lt ab.out; omega⟩
   rw [← hg_] at ac ⊢
   replace HB := zA (below_step HB.out hb)
   replace ab := zA (blk_keep ab.out hb)
   replace HM := zA (hasM_below HM.out hb)
   replace aa := zA (blk_keep aa.out hb)
   clear hb hg_ hHeld; generalize w6.alloc (.cells #[.int .i64 0, .int .i64 0, .int .i64 0, .int .i64 0, .bool false, .int .i64 0, .bool false] 108) = w6a at ac HB ab HM aa ⊢
   refine hK.out _ _ ⟨aa.out, ab.out, HM.out⟩ (fun hHeld => ?_)
   clear hK K
   refine normQ ?_
   refine one_ (i := 6) (N := (some 30)) #[true, true, true, true, true, true, true, false, false, false, false, true, false, false] rfl rfl (one_of HT_.out (by kernel_rfl)) (by decide) (fun K hK => ?_)
   refine goes_ Try.func52 (by kernel_rfl) rfl #[.agg #[.int .i64 n0, .int .i64 n1, .int .i64 n2]] (by rfl) rfl rfl (by (try simp only [List.map_toArray, List.map_cons, List.map_nil]); first | done | rfl) ?_
   refine (place52b n0 n1 n2 _).mono ?_
   rintro e w' ⟨rfl, hb⟩
   replace HB := zA (below_step HB.out hb)
   replace ab := zA (blk_keep ab.out hb)
   replace HM := zA (hasM_below HM.out hb)
   replace aa := zA (blk_keep aa.out hb)
   replace ac := zA (blk_keep ac.out hb)
   clear hb
   refine ⟨_, rfl, ?_⟩
   refine hK.out _ _ ⟨aa.out, ab.out, HM.out⟩ (fun hHeld => ?_)
   clear hK K
   refine normQ ?_
   refine takeQ (v := ?_) (a' := ?_) 7 (some 31) HT_ HW_ hHeld ?_ ?_ ?_
   rotate_left
   ·
    rintro w' ⟨s0, s1, s2⟩
    have hlk := lookP_ok s2 n0 n1
    have hev : ev108 (lookP M (n0, n1)) = .agg #[.int .i64 (lookP M (n0, n1)).f0.f0, .int .i64 (lookP M (n0, n1)).f0.f1, .int .i64 (lookP M (n0, n1)).f0.f2, .int .i64 (lookP M (n0, n1)).f1.f0, .bool (lookP M (n0, n1)).f1.f1, .int .i64 (lookP M (n0, n1)).f2.f0, .bool (lookP M (n0, n1)).f2.f1] := rfl
    rw [hev] at hlk
    go_simp
    with_reducible rfl
   rotate_left
   ·
    exact putQ
   refine pureQ 8 (some 23) HT_ ?_
   refine pureQ 9 (some 32) HT_ ?_
   refine pureQ 10 (some 33) HT_ ?_
   exact norm_ (by simp only [putAll, Act.put, List.setIfInBounds_toArray, List.set_cons_zero, List.set_cons_succ]) (hCont g6 _ ⟨GE.out, NS.out, NM.out, ND.out, HB.out, ab.out, HM.out, aa.out, ac.out⟩)
 rintro g6 w6a ⟨h0_, h1_, h2_, h3_, h4_, h5_, h6_, h7_, h8_⟩
 clear hHeld HB ab HM aa
 have GE := zA h0_
 have NS := zA h1_
 have NM := zA h2_
 have ND := zA h3_
 have HB := zA h4_
 have ab := zA h5_
 have HM := zA h6_
 have aa := zA h7_
 have ac := zA h8_
 have hHeld : w6a.heap[g3]? = some (.cells #[.int .i64 kd, .int .i64 sa, .int .i64 sk, .int .i64 n0, .int .i64 n1, .int .i64 n2] 65 (0, 0)) ∧ w6a.heap[gd]? = some (.cells #[.map (some gm)] 103 (0, 0)) ∧ HasM w6a ekP ev108 gm M := ⟨h7_, h5_, h6_⟩
 clear h0_ h1_ h2_ h3_ h4_ h5_ h6_ h7_ h8_
 refine norm_ (a' := ?_) ?_ ?_
 rotate_left
 ·
  simp only [putAll, Act.put, List.setIfInBounds_toArray, List.set_cons_zero, List.set_cons_succ]
  rfl
 refine one_ (i := 12) (N := none) #[true, true, true, true, true, true, true, true, true, true, true, true, true, false] rfl rfl (one_of HT_.out (by kernel_rfl)) (by decide) (fun K hK => ?_)
 have q0 : w6a.cell? ⟨g6, 0, none⟩ = some (.int .i64 0) := (blk_cell ac.out 0).trans rfl
 have q1 : w6a.cell? ⟨g6, 1, none⟩ = some (.int .i64 0) := (blk_cell ac.out 1).trans rfl
 have q2 : w6a.cell? ⟨g6, 2, none⟩ = some (.int .i64 0) := (blk_cell ac.out 2).trans rfl
 have q3 : w6a.cell? ⟨g6, 3, none⟩ = some (.int .i64 0) := (blk_cell ac.out 3).trans rfl
 have q4 : w6a.cell? ⟨g6, 4, none⟩ = some (.bool false) := (blk_cell ac.out 4).trans rfl
 have q5 : w6a.cell? ⟨g6, 5, none⟩ = some (.int .i64 0) := (blk_cell ac.out 5).trans rfl
 have q6 : w6a.cell? ⟨g6, 6, none⟩ = some (.bool false) := (blk_cell ac.out 6).trans rfl
 have qf0 := blk_frozen ac.out 0
 have qf1 := blk_frozen ac.out 1
 have qf2 := blk_frozen ac.out 2
 have qf3 := blk_frozen ac.out 3
 have qf4 := blk_frozen ac.out 4
 have qf5 := blk_frozen ac.out 5
 have qf6 := blk_frozen ac.out 6
 refine skip_ (w1 := (World.setCell (World.setCell (World.setCell (World.setCell (World.setCell (World.setCell (World.setCell w6a ⟨g6, 0, none⟩ (.int .i64 (lookP M (n0, n1)).f0.f0)) ⟨g6, 1, none⟩ (.int .i64 (lookP M (n0, n1)).f0.f1)) ⟨g6, 2, none⟩ (.int .i64 (lookP M (n0, n1)).f0.f2)) ⟨g6, 3, none⟩ (.int .i64 (lookP M (n0, n1)).f1.f0)) ⟨g6, 4, none⟩ (.bool (lookP M (n0, n1)).f1.f1)) ⟨g6, 5, none⟩ (.int .i64 (lookP M (n0, n1)).f2.f0)) ⟨g6, 6, none⟩ (.bool (lookP M (n0, n1)).f2.f1))) (by rfl) rfl (by go_simp) ?_
 clear q0 qf0 q1 qf1 q2 qf2 q3 qf3 q4 qf4 q5 qf5 q6 qf6 hHeld
 have n0_ : Aside0 (((World.setCell (World.setCell (World.setCell (World.setCell (World.setCell (World.setCell (World.setCell w6a ⟨g6, 0, none⟩ (.int .i64 (lookP M (n0, n1)).f0.f0)) ⟨g6, 1, none⟩ (.int .i64 (lookP M (n0, n1)).f0.f1)) ⟨g6, 2, none⟩ (.int .i64 (lookP M (n0, n1)).f0.f2)) ⟨g6, 3, none⟩ (.int .i64 (lookP M (n0, n1)).f1.f0)) ⟨g6, 4, none⟩ (.bool (lookP M (n0, n1)).f1.f1)) ⟨g6, 5, none⟩ (.int .i64 (lookP M (n0, n1)).f2.f0)) ⟨g6, 6, none⟩ (.bool (lookP M (n0, n1)).f2.f1))).heap[g6]? = some (.cells #[.int .i64 (lookP M (n0, n1)).f0.f0, .int .i64 (lookP M (n0, n1)).f0.f1, .int .i64 (lookP M (n0, n1)).f0.f2, .int .i64 (lookP M (n0, n1)).f1.f0, .bool (lookP M (n0, n1)).f1.f1, .int .i64 (lookP M (n0, n1)).f2.f0, .bool (lookP M (n0, n1)).f2.f1] 108 (0, 0))) := ⟨(blk_put (cs := #[.int .i64 (lookP M (n0, n1)).f0.f0, .int .i64 (lookP M (n0, n1)).f0.f1, .int .i64 (lookP M (n0, n1)).f0.f2, .int .i64 (lookP M (n0, n1)).f1.f0, .bool (lookP M (n0, n1)).f1.f1, .int .i64 (lookP M (n0, n1)).f2.f0, .bool false]) (blk_put (cs := #[.int .i64 (lookP M (n0, n1)).f0.f0, .int .i64 (lookP M (n0, n1)).f0.f1, .int .i64 (lookP M (n0, n1)).f0.f2, .int .i64 (lookP M (n0, n1)).f1.f0, .bool (lookP M (n0, n1)).f1.f1, .int .i64 0, .bool false]) (blk_put (cs := #[.int .i64 (lookP M (n0, n1)).f0.f0, .int .i64 (lookP M (n0, n1)).f0.f1, .int .i64 (lookP M (n0, n1)).f0.f2, .int .i64 (lookP M (n0, n1)).f1.f0, .bool false, .int .i64 0, .bool false]) (blk_put (cs := #[.int .i64 (lookP M (n0, n1)).f0.f0, .int .i64 (lookP M (n0, n1)).f0.f1, .int .i64 (lookP M (n0, n1)).f0.f2, .int .i64 0, .bool false, .int .i64 0, .bool false]) (blk_put (cs := #[.int .i64 (lookP M (n0, n1)).f0.f0, .int .i64 (lookP M (n0, n1)).f0.f1, .int .i64 0, .int .i64 0, .bool false, .int .i64 0, .bool false]) (blk_put (cs := #[.int .i64 (lookP M (n0, n1)).f0.f0, .int .i64 0, .int .i64 0, .int .i64 0, .bool false, .int .i64 0, .bool false]) (blk_put (cs := #[.int .i64 0, .int .i64 0, .int .i64 0, .int .i64 0, .bool false, .int .i64 0, .bool false]) ac.out 0 (.int .i64 (lookP M (n0, n1)).f0.f0) rfl) 1 (.int .i64 (lookP M (n0, n1)).f0.f1) rfl) 2 (.int .i64 (lookP M (n0, n1)).f0.f2) rfl) 3 (.int .i64 (lookP M (n0, n1)).f1.f0) rfl) 4 (.bool (lookP M (n0, n1)).f1.f1) rfl) 5 (.int .i64 (lookP M (n0, n1)).f2.f0) rfl) 6 (.bool (lookP M (n0, n1)).f2.f1) rfl)⟩
 have n1_ : Aside0 (Below w.heap.size w (World.setCell (World.setCell (World.setCell (World.setCell (World.setCell (World.setCell (World.setCell w6a ⟨g6, 0, none⟩ (.int .i64 (lookP M (n0, n1)).f0.f0)) ⟨g6, 1, none⟩ (.int .i64 (lookP M (n0, n1)).f0.f1)) ⟨g6, 2, none⟩ (.int .i64 (lookP M (n0, n1)).f0.f2)) ⟨g6, 3, none⟩ (.int .i64 (lookP M (n0, n1)).f1.f0)) ⟨g6, 4, none⟩ (.bool (lookP M (n0, n1)).f1.f1)) ⟨g6, 5, none⟩ (.int .i64 (lookP M (n0, n1)).f2.f0)) ⟨g6, 6, none⟩ (.bool (lookP M (n0, n1)).f2.f1))) := ⟨(below_set (below_set (below_set (below_set (below_set (below_set (below_set HB.out GE.out) GE.out) GE.out) GE.out) GE.out) GE.out) GE.out)⟩
 have n2_ := zA ((blk_far (blk_far (blk_far (blk_far (blk_far (blk_far (blk_far aa.out (p := ⟨g6, 0, none⟩) (NS.out) (.int .i64 (lookP M (n0, n1)).f0.f0)) (p := ⟨g6, 1, none⟩) (NS.out) (.int .i64 (lookP M (n0, n1)).f0.f1)) (p := ⟨g6, 2, none⟩) (NS.out) (.int .i64 (lookP M (n0, n1)).f0.f2)) (p := ⟨g6, 3, none⟩) (NS.out) (.int .i64 (lookP M (n0, n1)).f1.f0)) (p := ⟨g6, 4, none⟩) (NS.out) (.bool (lookP M (n0, n1)).f1.f1)) (p := ⟨g6, 5, none⟩) (NS.out) (.int .i64 (lookP M (n0, n1)).f2.f0)) (p := ⟨g6, 6, none⟩) (NS.out) (.bool (lookP M (n0, n1)).f2.f1))); have n3_ := zA ((blk_far (blk_far (blk_far (blk_far (blk_far (blk_far (blk_far ab.out (p := ⟨g6, 0, none⟩) (ND.out) (.int .i64 (lookP M (n0, n1)).f0.f0)) (p := ⟨g6, 1, none⟩) (ND.out) (.int .i64 (lookP M (n0, n1)).f0.f1)) (p := ⟨g6, 2, none⟩) (ND.out) (.int .i64 (lookP M (n0, n1)).f0.f2)) (p := ⟨g6, 3, none⟩) (ND.out) (.int .i64 (lookP M (n0, n1)).f1.f0)) (p := ⟨g6, 4, none⟩) (ND.out) (.bool (lookP M (n0, n1)).f1.f1)) (p := ⟨g6, 5, none⟩) (ND.out) (.int .i64 (lookP M (n0, n1)).f2.f0)) (p := ⟨g6, 6, none⟩) (ND.out) (.bool (lookP M (n0, n1)).f2.f1))); have n4_ := zA ((HasM.same (HasM.same (HasM.same (HasM.same (HasM.same (HasM.same (HasM.same HM.out (Below.heap_setCell _ ⟨g6, 0, none⟩ (.int .i64 (lookP M (n0, n1)).f0.f0) _ (NM.out))) (Below.heap_setCell _ ⟨g6, 1, none⟩ (.int .i64 (lookP M (n0, n1)).f0.f1) _ (NM.out))) (Below.heap_setCell _ ⟨g6, 2, none⟩ (.int .i64 (lookP M (n0, n1)).f0.f2) _ (NM.out))) (Below.heap_setCell _ ⟨g6, 3, none⟩ (.int .i64 (lookP M (n0, n1)).f1.f0) _ (NM.out))) (Below.heap_setCell _ ⟨g6, 4, none⟩ (.bool (lookP M (n0, n1)).f1.f1) _ (NM.out))) (Below.heap_setCell _ ⟨g6, 5, none⟩ (.int .i64 (lookP M (n0, n1)).f2.f0) _ (NM.out))) (Below.heap_setCell _ ⟨g6, 6, none⟩ (.bool (lookP M (n0, n1)).f2.f1) _ (NM.out)))); clear ac HB aa ab HM; generalize (World.setCell (World.setCell (World.setCell (World.setCell (World.setCell (World.setCell (World.setCell w6a ⟨g6, 0, none⟩ (.int .i64 (lookP M (n0, n1)).f0.f0)) ⟨g6, 1, none⟩ (.int .i64 (lookP M (n0, n1)).f0.f1)) ⟨g6, 2, none⟩ (.int .i64 (lookP M (n0, n1)).f0.f2)) ⟨g6, 3, none⟩ (.int .i64 (lookP M (n0, n1)).f1.f0)) ⟨g6, 4, none⟩ (.bool (lookP M (n0, n1)).f1.f1)) ⟨g6, 5, none⟩ (.int .i64 (lookP M (n0, n1)).f2.f0)) ⟨g6, 6, none⟩ (.bool (lookP M (n0, n1)).f2.f1)) = w7 at n0_ n1_ n2_ n3_ n4_ ⊢; have ac := n0_; have HB := n1_; have aa := n2_; have ab := n3_; have HM := n4_; clear n0_ n1_ n2_ n3_ n4_ ac GE NS NM ND
 refine hK.out _ _ ⟨aa.out, ab.out, HM.out⟩ (fun hHeld => ?_)
 clear hK K
 refine pureQ 13 (some 8) HT_ ?_
 refine done_ (done_of HT_.out (by kernel_rfl)) ?_
 go_upto_region 3 with (fail)
 obtain ⟨th, hth⟩ : ∃ b_ : Bool, b_ = (getM M (sa, sk)).isSome := ⟨_, rfl⟩
 obtain ⟨tk, htk⟩ : ∃ b_ : Bool, b_ = (getM M (n0, n1)).isSome := ⟨_, rfl⟩
 rw [← hth, ← htk]
 have HTH := zA hth.symm
 have HTK := zA htk.symm
 clear hth htk
 by_cases hk : kd = 3
 ·
  subst hk
  replace HB := zA (below_drew1 HB.out)
  replace ab := zA (blk_drew ab.out)
  replace HM := zA ((HasM.same HM.out rfl : HasM w7.drew ekP ev108 gm M))
  replace aa := zA (blk_drew aa.out)
  refine start_ (n := 15) (S := fun w' => w'.heap[g3]? = some (.cells #[.int .i64 3, .int .i64 sa, .int .i64 sk, .int .i64 n0, .int .i64 n1, .int .i64 n2] 65 (0, 0)) ∧ w'.heap[gd]? = some (.cells #[.map (some gm)] 103 (0, 0)) ∧ HasM w' ekP ev108 gm M) (ds := []) #[false, false, false, false, false, false, false, false, false, false, false, false, false, false, false] (by kernel_rfl) rfl rfl ⟨aa.out, ab.out, HM.out⟩ (fun hHeld => ?_); refine with_tabW check46.tab3 check46.bits3 (fun HT_ HW_ => ?_)
  generalize World.drew w7 = w8 at HB ab HM aa hHeld ⊢
  refine pureQ 0 (some 34) HT_ ?_
  refine takeQ (v := ?_) (a' := ?_) 1 (some 35) HT_ HW_ hHeld ?_ ?_ ?_
  rotate_left
  ·
   rintro w' ⟨s0, s1, s2⟩
   have y0_0 : w'.cell? ⟨g3, 0, none⟩ = some (.int .i64 3) := (blk_cell s0 0).trans rfl
   have y0_1 : w'.cell? ⟨g3, 1, none⟩ = some (.int .i64 sa) := (blk_cell s0 1).trans rfl
   have y0_2 : w'.cell? ⟨g3, 2, none⟩ = some (.int .i64 sk) := (blk_cell s0 2).trans rfl
   have y0_3 : w'.cell? ⟨g3, 3, none⟩ = some (.int .i64 n0) := (blk_cell s0 3).trans rfl
   have y0_4 : w'.cell? ⟨g3, 4, none⟩ = some (.int .i64 n1) := (blk_cell s0 4).trans rfl
   have y0_5 : w'.cell? ⟨g3, 5, none⟩ = some (.int .i64 n2) := (blk_cell s0 5).trans rfl
   have y1_0 : w'.cell? ⟨gd, 0, none⟩ = some (.map (some gm)) := (blk_cell s1 0).trans rfl
   go_simp
   with_reducible rfl
  rotate_left
  ·
   exact putQ
  refine pureQ 2 (some 36) HT_ ?_
  refine pureQ 3 (some 37) HT_ ?_
  refine pureQ 4 (some 38) HT_ ?_
  refine pureQ 7 (some 41) HT_ ?_
  refine pureQ 9 (some 43) HT_ ?_
  refine takeQ (v := ?_) (a' := ?_) 5 (some 39) HT_ HW_ hHeld ?_ ?_ ?_
  rotate_left
  ·
   rintro w' ⟨s0, s1, s2⟩
   have y0_0 : w'.cell? ⟨g3, 0, none⟩ = some (.int .i64 3) := (blk_cell s0 0).trans rfl
   have y0_1 : w'.cell? ⟨g3, 1, none⟩ = some (.int .i64 sa) := (blk_cell s0 1).trans rfl
   have y0_2 : w'.cell? ⟨g3, 2, none⟩ = some (.int .i64 sk) := (blk_cell s0 2).trans rfl
   have y0_3 : w'.cell? ⟨g3, 3, none⟩ = some (.int .i64 n0) := (blk_cell s0 3).trans rfl
   have y0_4 : w'.cell? ⟨g3, 4, none⟩ = some (.int .i64 n1) := (blk_cell s0 4).trans rfl
   have y0_5 : w'.cell? ⟨g3, 5, none⟩ = some (.int .i64 n2) := (blk_cell s0 5).trans rfl
   have y1_0 : w'.cell? ⟨gd, 0, none⟩ = some (.map (some gm)) := (blk_cell s1 0).trans rfl
   go_simp
   with_reducible rfl
  rotate_left
  ·
   exact putQ
  refine takeQ (v := ?_) (a' := ?_) 8 (some 42) HT_ HW_ hHeld ?_ ?_ ?_
  rotate_left
  ·
   rintro w' ⟨s0, s1, s2⟩
   have y0_0 : w'.cell? ⟨g3, 0, none⟩ = some (.int .i64 3) := (blk_cell s0 0).trans rfl
   have y0_1 : w'.cell? ⟨g3, 1, none⟩ = some (.int .i64 sa) := (blk_cell s0 1).trans rfl
   have y0_2 : w'.cell? ⟨g3, 2, none⟩ = some (.int .i64 sk) := (blk_cell s0 2).trans rfl
   have y0_3 : w'.cell? ⟨g3, 3, none⟩ = some (.int .i64 n0) := (blk_cell s0 3).trans rfl
   have y0_4 : w'.cell? ⟨g3, 4, none⟩ = some (.int .i64 n1) := (blk_cell s0 4).trans rfl
   have y0_5 : w'.cell? ⟨g3, 5, none⟩ = some (.int .i64 n2) := (blk_cell s0 5).trans rfl
   have y1_0 : w'.cell? ⟨gd, 0, none⟩ = some (.map (some gm)) := (blk_cell s1 0).trans rfl
   go_simp
   with_reducible rfl
  rotate_left
  ·
   exact putQ
  refine takeQ (v := ?_) (a' := ?_) 10 (some 44) HT_ HW_ hHeld ?_ ?_ ?_
  rotate_left
  ·
   rintro w' ⟨s0, s1, s2⟩
   have y0_0 : w'.cell? ⟨g3, 0, none⟩ = some (.int .i64 3) := (blk_cell s0 0).trans rfl
   have y0_1 : w'.cell? ⟨g3, 1, none⟩ = some (.int .i64 sa) := (blk_cell s0 1).trans rfl
   have y0_2 : w'.cell? ⟨g3, 2, none⟩ = some (.int .i64 sk) := (blk_cell s0 2).trans rfl
   have y0_3 : w'.cell? ⟨g3, 3, none⟩ = some (.int .i64 n0) := (blk_cell s0 3).trans rfl
   have y0_4 : w'.cell? ⟨g3, 4, none⟩ = some (.int .i64 n1) := (blk_cell s0 4).trans rfl
   have y0_5 : w'.cell? ⟨g3, 5, none⟩ = some (.int .i64 n2) := (blk_cell s0 5).trans rfl
   have y1_0 : w'.cell? ⟨gd, 0, none⟩ = some (.map (some gm)) := (blk_cell s1 0).trans rfl
   go_simp
   with_reducible rfl
  rotate_left
  ·
   exact putQ
  refine pureQ 11 (some 45) HT_ ?_
  refine one_ (i := 6) (N := (some 40)) #[true, true, true, true, true, true, true, true, true, true, true, true, false, false, false] rfl rfl (one_of HT_.out (by kernel_rfl)) (by decide) (fun K hK => ?_)
  refine goes_ Try.func52 (by kernel_rfl) rfl #[.agg #[.int .i64 n0, .int .i64 n1, .int .i64 n2]] (by rfl) rfl rfl (by (try simp only [List.map_toArray, List.map_cons, List.map_nil]); first | done | rfl) ?_
  refine (place52b n0 n1 n2 _).mono ?_
  rintro e w' ⟨rfl, hb⟩
  replace HB := zA (below_step HB.out hb)
  replace ab := zA (blk_keep ab.out hb)
  replace HM := zA (hasM_below HM.out hb)
  replace aa := zA (blk_keep aa.out hb)
  clear hb
  refine ⟨_, rfl, ?_⟩
  refine hK.out _ _ ⟨aa.out, ab.out, HM.out⟩ (fun hHeld => ?_)
  clear hK K
  refine normQ ?_
  refine pure_ (i := 12) (N := (some 46)) (v := ?_) (a' := ?_) #[true, true, true, true, true, true, true, true, true, true, true, true, true, false, false] rfl rfl (any_of HT_.out (by kernel_rfl)) (fun _ _ _ h => h) (Or.inl ⟨by rfl, ?_⟩) ?_ ?_
  rotate_left
  ·
   intro w'
   go_simp
   exact own_ _ _ _ _ _
  rotate_left
  ·
   exact putQ
  refine pureQ 13 (some 47) HT_ ?_
  refine pureQ 14 (some 9) HT_ ?_
  refine done_ (done_of HT_.out (by kernel_rfl)) ?_
  obtain ⟨ow, how⟩ : ∃ b_ : Bool, b_ = (decide (n0 = sa) && decide (n1 = sk)) := ⟨_, rfl⟩
  rw [← how]
  have HO : Aside0 ((decide (n0 = sa) && decide (n1 = sk)) = ow) := ⟨how.symm⟩
  clear how hHeld
  cases th with
  | false =>
   have HV0 : stepE 3 sa sk n0 n1 n2 false tk ow M.length = 8 := by simp [stepE, *]
   have HV : Aside0 (stepE 3 sa sk n0 n1 n2 (getM M (sa, sk)).isSome (getM M (n0, n1)).isSome (decide (n0 = sa) && decide (n1 = sk)) M.length = 8) := ⟨by rw [HTH.out, HTK.out]; exact (congrArg (fun z => stepE 3 sa sk n0 n1 n2 false tk z M.length) HO.out).trans HV0⟩
   clear HV0
   have p0 : w'.cell? ⟨g3, 0, none⟩ = some (.int .i64 3) := (blk_cell aa.out 0).trans rfl
   have p1 : w'.cell? ⟨g3, 1, none⟩ = some (.int .i64 sa) := (blk_cell aa.out 1).trans rfl
   have p2 : w'.cell? ⟨g3, 2, none⟩ = some (.int .i64 sk) := (blk_cell aa.out 2).trans rfl
   have p3 : w'.cell? ⟨g3, 3, none⟩ = some (.int .i64 n0) := (blk_cell aa.out 3).trans rfl
   have p4 : w'.cell? ⟨g3, 4, none⟩ = some (.int .i64 n1) := (blk_cell aa.out 4).trans rfl
   have p5 : w'.cell? ⟨g3, 5, none⟩ = some (.int .i64 n2) := (blk_cell aa.out 5).trans rfl
   go_wp2_with (first | (go_at_call 70; refine (between70 3 true (by first | decide | (symm; simp; omega)) _).mono ?_; rintro e w9 ⟨rfl, hb⟩; replace HB := zA (below_step HB.out hb); replace ab := zA (blk_keep ab.out hb); replace HM := zA (hasM_below HM.out hb); replace aa := zA (blk_keep aa.out hb); clear hb; have q0 : w9.cell? ⟨g3, 0, none⟩ = some (.int .i64 3) := (blk_cell aa.out 0).trans rfl; have q1 : w9.cell? ⟨g3, 1, none⟩ = some (.int .i64 sa) := (blk_cell aa.out 1).trans rfl; have q2 : w9.cell? ⟨g3, 2, none⟩ = some (.int .i64 sk) := (blk_cell aa.out 2).trans rfl; have q3 : w9.cell? ⟨g3, 3, none⟩ = some (.int .i64 n0) := (blk_cell aa.out 3).trans rfl; have q4 : w9.cell? ⟨g3, 4, none⟩ = some (.int .i64 n1) := (blk_cell aa.out 4).trans rfl; have q5 : w9.cell? ⟨g3, 5, none⟩ = some (.int .i64 n2) := (blk_cell aa.out 5).trans rfl; have d0 : w9.cell? ⟨gd, 0, none⟩ = some (.map (some gm)) := (blk_cell ab.out 0).trans rfl; have hlen := HM.out.len Try.underlying101 3))
   go_ret
   exact ⟨congrArg (fun z => Ending.returned (Value.int .i64 z)) HV.out.symm, HB.out⟩
  | true =>
   cases hgd : goodN n0 n1 n2 with
   | false =>
    have HV0 : stepE 3 sa sk n0 n1 n2 true tk ow M.length = 3 := by simp [stepE, *]
    have HV : Aside0 (stepE 3 sa sk n0 n1 n2 (getM M (sa, sk)).isSome (getM M (n0, n1)).isSome (decide (n0 = sa) && decide (n1 = sk)) M.length = 3) := ⟨by rw [HTH.out, HTK.out]; exact (congrArg (fun z => stepE 3 sa sk n0 n1 n2 true tk z M.length) HO.out).trans HV0⟩
    clear HV0
    have p0 : w'.cell? ⟨g3, 0, none⟩ = some (.int .i64 3) := (blk_cell aa.out 0).trans rfl
    have p1 : w'.cell? ⟨g3, 1, none⟩ = some (.int .i64 sa) := (blk_cell aa.out 1).trans rfl
    have p2 : w'.cell? ⟨g3, 2, none⟩ = some (.int .i64 sk) := (blk_cell aa.out 2).trans rfl
    have p3 : w'.cell? ⟨g3, 3, none⟩ = some (.int .i64 n0) := (blk_cell aa.out 3).trans rfl
    have p4 : w'.cell? ⟨g3, 4, none⟩ = some (.int .i64 n1) := (blk_cell aa.out 4).trans rfl
    have p5 : w'.cell? ⟨g3, 5, none⟩ = some (.int .i64 n2) := (blk_cell aa.out 5).trans rfl
    go_wp2_with (first | (go_at_call 70; refine (between70 3 true (by first | decide | (symm; simp; omega)) _).mono ?_; rintro e w9 ⟨rfl, hb⟩; replace HB := zA (below_step HB.out hb); replace ab := zA (blk_keep ab.out hb); replace HM := zA (hasM_below HM.out hb); replace aa := zA (blk_keep aa.out hb); clear hb; have q0 : w9.cell? ⟨g3, 0, none⟩ = some (.int .i64 3) := (blk_cell aa.out 0).trans rfl; have q1 : w9.cell? ⟨g3, 1, none⟩ = some (.int .i64 sa) := (blk_cell aa.out 1).trans rfl; have q2 : w9.cell? ⟨g3, 2, none⟩ = some (.int .i64 sk) := (blk_cell aa.out 2).trans rfl; have q3 : w9.cell? ⟨g3, 3, none⟩ = some (.int .i64 n0) := (blk_cell aa.out 3).trans rfl; have q4 : w9.cell? ⟨g3, 4, none⟩ = some (.int .i64 n1) := (blk_cell aa.out 4).trans rfl; have q5 : w9.cell? ⟨g3, 5, none⟩ = some (.int .i64 n2) := (blk_cell aa.out 5).trans rfl; have d0 : w9.cell? ⟨gd, 0, none⟩ = some (.map (some gm)) := (blk_cell ab.out 0).trans rfl; have hlen := HM.out.len Try.underlying101 3) | (go_at_call 54; refine (good54b n0 n1 n2 false hgd _).mono ?_; rintro e wa ⟨rfl, hb⟩; clear q0 q1 q2 q3 q4 q5 d0 hlen; replace HB := zA (below_step HB.out hb); replace ab := zA (blk_keep ab.out hb); replace HM := zA (hasM_below HM.out hb); replace aa := zA (blk_keep aa.out hb); clear hb; have q0 : wa.cell? ⟨g3, 0, none⟩ = some (.int .i64 3) := (blk_cell aa.out 0).trans rfl; have q1 : wa.cell? ⟨g3, 1, none⟩ = some (.int .i64 sa) := (blk_cell aa.out 1).trans rfl; have q2 : wa.cell? ⟨g3, 2, none⟩ = some (.int .i64 sk) := (blk_cell aa.out 2).trans rfl; have q3 : wa.cell? ⟨g3, 3, none⟩ = some (.int .i64 n0) := (blk_cell aa.out 3).trans rfl; have q4 : wa.cell? ⟨g3, 4, none⟩ = some (.int .i64 n1) := (blk_cell aa.out 4).trans rfl; have q5 : wa.cell? ⟨g3, 5, none⟩ = some (.int .i64 n2) := (blk_cell aa.out 5).trans rfl; have d0 : wa.cell? ⟨gd, 0, none⟩ = some (.map (some gm)) := (blk_cell ab.out 0).trans rfl; have hlen := HM.out.len Try.underlying101 3))
    go_ret
    exact ⟨congrArg (fun z => Ending.returned (Value.int .i64 z)) HV.out.symm, HB.out⟩
   | true =>
    cases tk with
    | false =>
     have HV0 : stepE 3 sa sk n0 n1 n2 true false ow M.length = 0 := by simp [stepE, *]
     have HV : Aside0 (stepE 3 sa sk n0 n1 n2 (getM M (sa, sk)).isSome (getM M (n0, n1)).isSome (decide (n0 = sa) && decide (n1 = sk)) M.length = 0) := ⟨by rw [HTH.out, HTK.out]; exact (congrArg (fun z => stepE 3 sa sk n0 n1 n2 true false z M.length) HO.out).trans HV0⟩
     clear HV0
     have p0 : w'.cell? ⟨g3, 0, none⟩ = some (.int .i64 3) := (blk_cell aa.out 0).trans rfl
     have p1 : w'.cell? ⟨g3, 1, none⟩ = some (.int .i64 sa) := (blk_cell aa.out 1).trans rfl
     have p2 : w'.cell? ⟨g3, 2, none⟩ = some (.int .i64 sk) := (blk_cell aa.out 2).trans rfl
     have p3 : w'.cell? ⟨g3, 3, none⟩ = some (.int .i64 n0) := (blk_cell aa.out 3).trans rfl
     have p4 : w'.cell? ⟨g3, 4, none⟩ = some (.int .i64 n1) := (blk_cell aa.out 4).trans rfl
     have p5 : w'.cell? ⟨g3, 5, none⟩ = some (.int .i64 n2) := (blk_cell aa.out 5).trans rfl
     go_wp2_with (first | (go_at_call 70; refine (between70 3 true (by first | decide | (symm; simp; omega)) _).mono ?_; rintro e w9 ⟨rfl, hb⟩; replace HB := zA (below_step HB.out hb); replace ab := zA (blk_keep ab.out hb); replace HM := zA (hasM_below HM.out hb); replace aa := zA (blk_keep aa.out hb); clear hb; have q0 : w9.cell? ⟨g3, 0, none⟩ = some (.int .i64 3) := (blk_cell aa.out 0).trans rfl; have q1 : w9.cell? ⟨g3, 1, none⟩ = some (.int .i64 sa) := (blk_cell aa.out 1).trans rfl; have q2 : w9.cell? ⟨g3, 2, none⟩ = some (.int .i64 sk) := (blk_cell aa.out 2).trans rfl; have q3 : w9.cell? ⟨g3, 3, none⟩ = some (.int .i64 n0) := (blk_cell aa.out 3).trans rfl; have q4 : w9.cell? ⟨g3, 4, none⟩ = some (.int .i64 n1) := (blk_cell aa.out 4).trans rfl; have q5 : w9.cell? ⟨g3, 5, none⟩ = some (.int .i64 n2) := (blk_cell aa.out 5).trans rfl; have d0 : w9.cell? ⟨gd, 0, none⟩ = some (.map (some gm)) := (blk_cell ab.out 0).trans rfl; have hlen := HM.out.len Try.underlying101 3) | (go_at_call 54; refine (good54b n0 n1 n2 true hgd _).mono ?_; rintro e wa ⟨rfl, hb⟩; clear q0 q1 q2 q3 q4 q5 d0 hlen; replace HB := zA (below_step HB.out hb); replace ab := zA (blk_keep ab.out hb); replace HM := zA (hasM_below HM.out hb); replace aa := zA (blk_keep aa.out hb); clear hb; have q0 : wa.cell? ⟨g3, 0, none⟩ = some (.int .i64 3) := (blk_cell aa.out 0).trans rfl; have q1 : wa.cell? ⟨g3, 1, none⟩ = some (.int .i64 sa) := (blk_cell aa.out 1).trans rfl; have q2 : wa.cell? ⟨g3, 2, none⟩ = some (.int .i64 sk) := (blk_cell aa.out 2).trans rfl; have q3 : wa.cell? ⟨g3, 3, none⟩ = some (.int .i64 n0) := (blk_cell aa.out 3).trans rfl; have q4 : wa.cell? ⟨g3, 4, none⟩ = some (.int .i64 n1) := (blk_cell aa.out 4).trans rfl; have q5 : wa.cell? ⟨g3, 5, none⟩ = some (.int .i64 n2) := (blk_cell aa.out 5).trans rfl; have d0 : wa.cell? ⟨gd, 0, none⟩ = some (.map (some gm)) := (blk_cell ab.out 0).trans rfl; have hlen := HM.out.len Try.underlying101 3))
     go_ret
     exact ⟨congrArg (fun z => Ending.returned (Value.int .i64 z)) HV.out.symm, HB.out⟩
    | true =>
     cases ow with
     | false =>
      have HV0 : stepE 3 sa sk n0 n1 n2 true true false M.length = 9 := by simp [stepE, *]
      have HV : Aside0 (stepE 3 sa sk n0 n1 n2 (getM M (sa, sk)).isSome (getM M (n0, n1)).isSome (decide (n0 = sa) && decide (n1 = sk)) M.length = 9) := ⟨by rw [HTH.out, HTK.out]; exact (congrArg (fun z => stepE 3 sa sk n0 n1 n2 true true z M.length) HO.out).trans HV0⟩
      clear HV0
      have p0 : w'.cell? ⟨g3, 0, none⟩ = some (.int .i64 3) := (blk_cell aa.out 0).trans rfl
      have p1 : w'.cell? ⟨g3, 1, none⟩ = some (.int .i64 sa) := (blk_cell aa.out 1).trans rfl
      have p2 : w'.cell? ⟨g3, 2, none⟩ = some (.int .i64 sk) := (blk_cell aa.out 2).trans rfl
      have p3 : w'.cell? ⟨g3, 3, none⟩ = some (.int .i64 n0) := (blk_cell aa.out 3).trans rfl
      have p4 : w'.cell? ⟨g3, 4, none⟩ = some (.int .i64 n1) := (blk_cell aa.out 4).trans rfl
      have p5 : w'.cell? ⟨g3, 5, none⟩ = some (.int .i64 n2) := (blk_cell aa.out 5).trans rfl
      go_wp2_with (first | (go_at_call 70; refine (between70 3 true (by first | decide | (symm; simp; omega)) _).mono ?_; rintro e w9 ⟨rfl, hb⟩; replace HB := zA (below_step HB.out hb); replace ab := zA (blk_keep ab.out hb); replace HM := zA (hasM_below HM.out hb); replace aa := zA (blk_keep aa.out hb); clear hb; have q0 : w9.cell? ⟨g3, 0, none⟩ = some (.int .i64 3) := (blk_cell aa.out 0).trans rfl; have q1 : w9.cell? ⟨g3, 1, none⟩ = some (.int .i64 sa) := (blk_cell aa.out 1).trans rfl; have q2 : w9.cell? ⟨g3, 2, none⟩ = some (.int .i64 sk) := (blk_cell aa.out 2).trans rfl; have q3 : w9.cell? ⟨g3, 3, none⟩ = some (.int .i64 n0) := (blk_cell aa.out 3).trans rfl; have q4 : w9.cell? ⟨g3, 4, none⟩ = some (.int .i64 n1) := (blk_cell aa.out 4).trans rfl; have q5 : w9.cell? ⟨g3, 5, none⟩ = some (.int .i64 n2) := (blk_cell aa.out 5).trans rfl; have d0 : w9.cell? ⟨gd, 0, none⟩ = some (.map (some gm)) := (blk_cell ab.out 0).trans rfl; have hlen := HM.out.len Try.underlying101 3) | (go_at_call 54; refine (good54b n0 n1 n2 true hgd _).mono ?_; rintro e wa ⟨rfl, hb⟩; clear q0 q1 q2 q3 q4 q5 d0 hlen; replace HB := zA (below_step HB.out hb); replace ab := zA (blk_keep ab.out hb); replace HM := zA (hasM_below HM.out hb); replace aa := zA (blk_keep aa.out hb); clear hb; have q0 : wa.cell? ⟨g3, 0, none⟩ = some (.int .i64 3) := (blk_cell aa.out 0).trans rfl; have q1 : wa.cell? ⟨g3, 1, none⟩ = some (.int .i64 sa) := (blk_cell aa.out 1).trans rfl; have q2 : wa.cell? ⟨g3, 2, none⟩ = some (.int .i64 sk) := (blk_cell aa.out 2).trans rfl; have q3 : wa.cell? ⟨g3, 3, none⟩ = some (.int .i64 n0) := (blk_cell aa.out 3).trans rfl; have q4 : wa.cell? ⟨g3, 4, none⟩ = some (.int .i64 n1) := (blk_cell aa.out 4).trans rfl; have q5 : wa.cell? ⟨g3, 5, none⟩ = some (.int .i64 n2) := (blk_cell aa.out 5).trans rfl; have d0 : wa.cell? ⟨gd, 0, none⟩ = some (.map (some gm)) := (blk_cell ab.out 0).trans rfl; have hlen := HM.out.len Try.underlying101 3))
      go_ret
      exact ⟨congrArg (fun z => Ending.returned (Value.int .i64 z)) HV.out.symm, HB.out⟩
     | true =>
      have HV0 : stepE 3 sa sk n0 n1 n2 true true true M.length = 0 := by simp [stepE, *]
      have HV : Aside0 (stepE 3 sa sk n0 n1 n2 (getM M (sa, sk)).isSome (getM M (n0, n1)).isSome (decide (n0 = sa) && decide (n1 = sk)) M.length = 0) := ⟨by rw [HTH.out, HTK.out]; exact (congrArg (fun z => stepE 3 sa sk n0 n1 n2 true true z M.length) HO.out).trans HV0⟩
      clear HV0
      have p0 : w'.cell? ⟨g3, 0, none⟩ = some (.int .i64 3) := (blk_cell aa.out 0).trans rfl
      have p1 : w'.cell? ⟨g3, 1, none⟩ = some (.int .i64 sa) := (blk_cell aa.out 1).trans rfl
      have p2 : w'.cell? ⟨g3, 2, none⟩ = some (.int .i64 sk) := (blk_cell aa.out 2).trans rfl
      have p3 : w'.cell? ⟨g3, 3, none⟩ = some (.int .i64 n0) := (blk_cell aa.out 3).trans rfl
      have p4 : w'.cell? ⟨g3, 4, none⟩ = some (.int .i64 n1) := (blk_cell aa.out 4).trans rfl
      have p5 : w'.cell? ⟨g3, 5, none⟩ = some (.int .i64 n2) := (blk_cell aa.out 5).trans rfl
      go_wp2_with (first | (go_at_call 70; refine (between70 3 true (by first | decide | (symm; simp; omega)) _).mono ?_; rintro e w9 ⟨rfl, hb⟩; replace HB := zA (below_step HB.out hb); replace ab := zA (blk_keep ab.out hb); replace HM := zA (hasM_below HM.out hb); replace aa := zA (blk_keep aa.out hb); clear hb; have q0 : w9.cell? ⟨g3, 0, none⟩ = some (.int .i64 3) := (blk_cell aa.out 0).trans rfl; have q1 : w9.cell? ⟨g3, 1, none⟩ = some (.int .i64 sa) := (blk_cell aa.out 1).trans rfl; have q2 : w9.cell? ⟨g3, 2, none⟩ = some (.int .i64 sk) := (blk_cell aa.out 2).trans rfl; have q3 : w9.cell? ⟨g3, 3, none⟩ = some (.int .i64 n0) := (blk_cell aa.out 3).trans rfl; have q4 : w9.cell? ⟨g3, 4, none⟩ = some (.int .i64 n1) := (blk_cell aa.out 4).trans rfl; have q5 : w9.cell? ⟨g3, 5, none⟩ = some (.int .i64 n2) := (blk_cell aa.out 5).trans rfl; have d0 : w9.cell? ⟨gd, 0, none⟩ = some (.map (some gm)) := (blk_cell ab.out 0).trans rfl; have hlen := HM.out.len Try.underlying101 3) | (go_at_call 54; refine (good54b n0 n1 n2 true hgd _).mono ?_; rintro e wa ⟨rfl, hb⟩; clear q0 q1 q2 q3 q4 q5 d0 hlen; replace HB := zA (below_step HB.out hb); replace ab := zA (blk_keep ab.out hb); replace HM := zA (hasM_below HM.out hb); replace aa := zA (blk_keep aa.out hb); clear hb; have q0 : wa.cell? ⟨g3, 0, none⟩ = some (.int .i64 3) := (blk_cell aa.out 0).trans rfl; have q1 : wa.cell? ⟨g3, 1, none⟩ = some (.int .i64 sa) := (blk_cell aa.out 1).trans rfl; have q2 : wa.cell? ⟨g3, 2, none⟩ = some (.int .i64 sk) := (blk_cell aa.out 2).trans rfl; have q3 : wa.cell? ⟨g3, 3, none⟩ = some (.int .i64 n0) := (blk_cell aa.out 3).trans rfl; have q4 : wa.cell? ⟨g3, 4, none⟩ = some (.int .i64 n1) := (blk_cell aa.out 4).trans rfl; have q5 : wa.cell? ⟨g3, 5, none⟩ = some (.int .i64 n2) := (blk_cell aa.out 5).trans rfl; have d0 : wa.cell? ⟨gd, 0, none⟩ = some (.map (some gm)) := (blk_cell ab.out 0).trans rfl; have hlen := HM.out.len Try.underlying101 3))
      go_ret
      exact ⟨congrArg (fun z => Ending.returned (Value.int .i64 z)) HV.out.symm, HB.out⟩
 ·
  have hkb : (kd == 3) = false := beq_eq_false_iff_ne.mpr hk
  replace HB := zA (below_drew1 HB.out)
  replace ab := zA (blk_drew ab.out)
  replace HM := zA ((HasM.same HM.out rfl : HasM w7.drew ekP ev108 gm M))
  replace aa := zA (blk_drew aa.out)
  refine start_ (n := 15) (S := fun w' => w'.heap[g3]? = some (.cells #[.int .i64 kd, .int .i64 sa, .int .i64 sk, .int .i64 n0, .int .i64 n1, .int .i64 n2] 65 (0, 0)) ∧ w'.heap[gd]? = some (.cells #[.map (some gm)] 103 (0, 0)) ∧ HasM w' ekP ev108 gm M) (ds := []) #[false, false, false, false, false, false, false, false, false, false, false, false, false, false, false] (by kernel_rfl) rfl rfl ⟨aa.out, ab.out, HM.out⟩ (fun hHeld => ?_); refine with_tabW check46.tab3 check46.bits3 (fun HT_ HW_ => ?_)
  generalize World.drew w7 = w8 at HB ab HM aa hHeld ⊢
  refine pureQ 0 (some 34) HT_ ?_
  refine takeQ (v := ?_) (a' := ?_) 1 (some 35) HT_ HW_ hHeld ?_ ?_ ?_
  rotate_left
  ·
   rintro w' ⟨s0, s1, s2⟩
   have y0_0 : w'.cell? ⟨g3, 0, none⟩ = some (.int .i64 kd) := (blk_cell s0 0).trans rfl
   have y0_1 : w'.cell? ⟨g3, 1, none⟩ = some (.int .i64 sa) := (blk_cell s0 1).trans rfl
   have y0_2 : w'.cell? ⟨g3, 2, none⟩ = some (.int .i64 sk) := (blk_cell s0 2).trans rfl
   have y0_3 : w'.cell? ⟨g3, 3, none⟩ = some (.int .i64 n0) := (blk_cell s0 3).trans rfl
   have y0_4 : w'.cell? ⟨g3, 4, none⟩ = some (.int .i64 n1) := (blk_cell s0 4).trans rfl
   have y0_5 : w'.cell? ⟨g3, 5, none⟩ = some (.int .i64 n2) := (blk_cell s0 5).trans rfl
   have y1_0 : w'.cell? ⟨gd, 0, none⟩ = some (.map (some gm)) := (blk_cell s1 0).trans rfl
   go_simp
   with_reducible rfl
  rotate_left
  ·
   exact putQ
  refine pure_ (i := 2) (N := (some 36)) (v := ?_) (a' := ?_) #[true, true, true, false, false, false, false, false, false, false, false, false, false, false, false] rfl rfl (any_of HT_.out (by kernel_rfl)) (fun _ _ _ h => h) (Or.inl ⟨by rfl, ?_⟩) ?_ ?_
  rotate_left
  ·
   intro w'
   go_simp
   (try rw [hkb])
   with_reducible rfl
  rotate_left
  ·
   exact putQ
  refine pureQ 3 (some 37) HT_ ?_
  refine pure_ (i := 4) (N := (some 38)) (v := undef) (a' := ?_) #[true, true, true, true, true, false, false, false, false, false, false, false, false, false, false] rfl rfl (any_of HT_.out (by kernel_rfl)) (fun _ _ _ h => h) (Or.inr ⟨by rfl, rfl⟩) ?_ ?_
  rotate_left
  ·
   exact putQ
  refine pure_ (i := 5) (N := (some 39)) (v := undef) (a' := ?_) #[true, true, true, true, true, true, false, false, false, false, false, false, false, false, false] rfl rfl (any_of HT_.out (by kernel_rfl)) (fun _ _ _ h => h) (Or.inr ⟨by rfl, rfl⟩) ?_ ?_
  rotate_left
  ·
   exact putQ
  refine pure_ (i := 6) (N := (some 40)) (v := undef) (a' := ?_) #[true, true, true, true, true, true, true, false, false, false, false, false, false, false, false] rfl rfl (any_of HT_.out (by kernel_rfl)) (fun _ _ _ h => h) (Or.inr ⟨by rfl, rfl⟩) ?_ ?_
  rotate_left
  ·
   exact putQ
  refine pure_ (i := 7) (N := (some 41)) (v := undef) (a' := ?_) #[true, true, true, true, true, true, true, true, false, false, false, false, false, false, false] rfl rfl (any_of HT_.out (by kernel_rfl)) (fun _ _ _ h => h) (Or.inr ⟨by rfl, rfl⟩) ?_ ?_
  rotate_left
  ·
   exact putQ
  refine pure_ (i := 8) (N := (some 42)) (v := undef) (a' := ?_) #[true, true, true, true, true, true, true, true, true, false, false, false, false, false, false] rfl rfl (any_of HT_.out (by kernel_rfl)) (fun _ _ _ h => h) (Or.inr ⟨by rfl, rfl⟩) ?_ ?_
  rotate_left
  ·
   exact putQ
  refine pure_ (i := 9) (N := (some 43)) (v := undef) (a' := ?_) #[true, true, true, true, true, true, true, true, true, true, false, false, false, false, false] rfl rfl (any_of HT_.out (by kernel_rfl)) (fun _ _ _ h => h) (Or.inr ⟨by rfl, rfl⟩) ?_ ?_
  rotate_left
  ·
   exact putQ
  refine pure_ (i := 10) (N := (some 44)) (v := undef) (a' := ?_) #[true, true, true, true, true, true, true, true, true, true, true, false, false, false, false] rfl rfl (any_of HT_.out (by kernel_rfl)) (fun _ _ _ h => h) (Or.inr ⟨by rfl, rfl⟩) ?_ ?_
  rotate_left
  ·
   exact putQ
  refine pure_ (i := 11) (N := (some 45)) (v := undef) (a' := ?_) #[true, true, true, true, true, true, true, true, true, true, true, true, false, false, false] rfl rfl (any_of HT_.out (by kernel_rfl)) (fun _ _ _ h => h) (Or.inr ⟨by rfl, rfl⟩) ?_ ?_
  rotate_left
  ·
   exact putQ
  refine pure_ (i := 12) (N := (some 46)) (v := undef) (a' := ?_) #[true, true, true, true, true, true, true, true, true, true, true, true, true, false, false] rfl rfl (any_of HT_.out (by kernel_rfl)) (fun _ _ _ h => h) (Or.inr ⟨by rfl, rfl⟩) ?_ ?_
  rotate_left
  ·
   exact putQ
  refine pureQ 13 (some 47) HT_ ?_
  refine pureQ 14 (some 9) HT_ ?_
  refine done_ (done_of HT_.out (by kernel_rfl)) ?_
  have HO : Aside0 ((decide (kd = 3) && decide ((n0, n1) = (sa, sk))) = false) := ⟨by rw [decide_eq_false hk, Bool.false_and]⟩
  clear hHeld
  have hcase : kd < 1 ∨ 4 < kd ∨ kd = 1 ∨ kd = 2 ∨ kd = 4 := by omega
  rcases hcase with hlo | hhi | rfl | rfl | rfl
  ·
   have hng : ¬ (1 ≤ kd ∧ kd ≤ 4) := by omega
   have HV0 : stepE kd sa sk n0 n1 n2 th tk false M.length = 12 := by simp [stepE, *]
   have HV : Aside0 (stepE kd sa sk n0 n1 n2 (getM M (sa, sk)).isSome (getM M (n0, n1)).isSome (decide ((kd : Int) = 3) && decide ((n0, n1) = (sa, sk))) M.length = 12) := ⟨by rw [HTH.out, HTK.out]; exact (congrArg (fun z => stepE kd sa sk n0 n1 n2 th tk z M.length) HO.out).trans HV0⟩
   clear HV0
   have p0 : w8.cell? ⟨g3, 0, none⟩ = some (.int .i64 kd) := (blk_cell aa.out 0).trans rfl
   have p1 : w8.cell? ⟨g3, 1, none⟩ = some (.int .i64 sa) := (blk_cell aa.out 1).trans rfl
   have p2 : w8.cell? ⟨g3, 2, none⟩ = some (.int .i64 sk) := (blk_cell aa.out 2).trans rfl
   have p3 : w8.cell? ⟨g3, 3, none⟩ = some (.int .i64 n0) := (blk_cell aa.out 3).trans rfl
   have p4 : w8.cell? ⟨g3, 4, none⟩ = some (.int .i64 n1) := (blk_cell aa.out 4).trans rfl
   have p5 : w8.cell? ⟨g3, 5, none⟩ = some (.int .i64 n2) := (blk_cell aa.out 5).trans rfl
   go_wp2_with (first | (go_at_call 70; refine (between70 kd false (by first | decide | (symm; simp; omega)) _).mono ?_; rintro e w9 ⟨rfl, hb⟩; replace HB := zA (below_step HB.out hb); replace ab := zA (blk_keep ab.out hb); replace HM := zA (hasM_below HM.out hb); replace aa := zA (blk_keep aa.out hb); clear hb; have q0 : w9.cell? ⟨g3, 0, none⟩ = some (.int .i64 kd) := (blk_cell aa.out 0).trans rfl; have q1 : w9.cell? ⟨g3, 1, none⟩ = some (.int .i64 sa) := (blk_cell aa.out 1).trans rfl; have q2 : w9.cell? ⟨g3, 2, none⟩ = some (.int .i64 sk) := (blk_cell aa.out 2).trans rfl; have q3 : w9.cell? ⟨g3, 3, none⟩ = some (.int .i64 n0) := (blk_cell aa.out 3).trans rfl; have q4 : w9.cell? ⟨g3, 4, none⟩ = some (.int .i64 n1) := (blk_cell aa.out 4).trans rfl; have q5 : w9.cell? ⟨g3, 5, none⟩ = some (.int .i64 n2) := (blk_cell aa.out 5).trans rfl; have d0 : w9.cell? ⟨gd, 0, none⟩ = some (.map (some gm)) := (blk_cell ab.out 0).trans rfl; have hlen := HM.out.len Try.underlying101 3))
   go_ret
   exact ⟨congrArg (fun z => Ending.returned (Value.int .i64 z)) HV.out.symm, HB.out⟩
  ·
   have hng : ¬ (1 ≤ kd ∧ kd ≤ 4) := by omega
   have HV0 : stepE kd sa sk n0 n1 n2 th tk false M.length = 12 := by simp [stepE, *]
   have HV : Aside0 (stepE kd sa sk n0 n1 n2 (getM M (sa, sk)).isSome (getM M (n0, n1)).isSome (decide ((kd : Int) = 3) && decide ((n0, n1) = (sa, sk))) M.length = 12) := ⟨by rw [HTH.out, HTK.out]; exact (congrArg (fun z => stepE kd sa sk n0 n1 n2 th tk z M.length) HO.out).trans HV0⟩
   clear HV0
   have p0 : w8.cell? ⟨g3, 0, none⟩ = some (.int .i64 kd) := (blk_cell aa.out 0).trans rfl
   have p1 : w8.cell? ⟨g3, 1, none⟩ = some (.int .i64 sa) := (blk_cell aa.out 1).trans rfl
   have p2 : w8.cell? ⟨g3, 2, none⟩ = some (.int .i64 sk) := (blk_cell aa.out 2).trans rfl
   have p3 : w8.cell? ⟨g3, 3, none⟩ = some (.int .i64 n0) := (blk_cell aa.out 3).trans rfl
   have p4 : w8.cell? ⟨g3, 4, none⟩ = some (.int .i64 n1) := (blk_cell aa.out 4).trans rfl
   have p5 : w8.cell? ⟨g3, 5, none⟩ = some (.int .i64 n2) := (blk_cell aa.out 5).trans rfl
   go_wp2_with (first | (go_at_call 70; refine (between70 kd false (by first | decide | (symm; simp; omega)) _).mono ?_; rintro e w9 ⟨rfl, hb⟩; replace HB := zA (below_step HB.out hb); replace ab := zA (blk_keep ab.out hb); replace HM := zA (hasM_below HM.out hb); replace aa := zA (blk_keep aa.out hb); clear hb; have q0 : w9.cell? ⟨g3, 0, none⟩ = some (.int .i64 kd) := (blk_cell aa.out 0).trans rfl; have q1 : w9.cell? ⟨g3, 1, none⟩ = some (.int .i64 sa) := (blk_cell aa.out 1).trans rfl; have q2 : w9.cell? ⟨g3, 2, none⟩ = some (.int .i64 sk) := (blk_cell aa.out 2).trans rfl; have q3 : w9.cell? ⟨g3, 3, none⟩ = some (.int .i64 n0) := (blk_cell aa.out 3).trans rfl; have q4 : w9.cell? ⟨g3, 4, none⟩ = some (.int .i64 n1) := (blk_cell aa.out 4).trans rfl; have q5 : w9.cell? ⟨g3, 5, none⟩ = some (.int .i64 n2) := (blk_cell aa.out 5).trans rfl; have d0 : w9.cell? ⟨gd, 0, none⟩ = some (.map (some gm)) := (blk_cell ab.out 0).trans rfl; have hlen := HM.out.len Try.underlying101 3))
   go_ret
   exact ⟨congrArg (fun z => Ending.returned (Value.int .i64 z)) HV.out.symm, HB.out⟩
  ·
   by_cases z0 : n0 = 0
   ·
    subst z0
    by_cases z1 : n1 = 0
    ·
     subst z1
     by_cases z2 : n2 = 0
     ·
      subst z2
      cases th with
      | false =>
       have HV0 : stepE 1 sa sk 0 0 0 false tk false M.length = 8 := by simp [stepE, *]
       have HV : Aside0 (stepE 1 sa sk 0 0 0 (getM M (sa, sk)).isSome (getM M (0, 0)).isSome (decide ((1 : Int) = 3) && decide ((0, 0) = (sa, sk))) M.length = 8) := ⟨by rw [HTH.out, HTK.out]; exact (congrArg (fun z => stepE 1 sa sk 0 0 0 false tk z M.length) HO.out).trans HV0⟩
       clear HV0
       have p0 : w8.cell? ⟨g3, 0, none⟩ = some (.int .i64 1) := (blk_cell aa.out 0).trans rfl
       have p1 : w8.cell? ⟨g3, 1, none⟩ = some (.int .i64 sa) := (blk_cell aa.out 1).trans rfl
       have p2 : w8.cell? ⟨g3, 2, none⟩ = some (.int .i64 sk) := (blk_cell aa.out 2).trans rfl
       have p3 : w8.cell? ⟨g3, 3, none⟩ = some (.int .i64 0) := (blk_cell aa.out 3).trans rfl
       have p4 : w8.cell? ⟨g3, 4, none⟩ = some (.int .i64 0) := (blk_cell aa.out 4).trans rfl
       have p5 : w8.cell? ⟨g3, 5, none⟩ = some (.int .i64 0) := (blk_cell aa.out 5).trans rfl
       go_wp2_with (first | (go_at_call 70; refine (between70 1 true (by first | decide | (symm; simp; omega)) _).mono ?_; rintro e w9 ⟨rfl, hb⟩; replace HB := zA (below_step HB.out hb); replace ab := zA (blk_keep ab.out hb); replace HM := zA (hasM_below HM.out hb); replace aa := zA (blk_keep aa.out hb); clear hb; have q0 : w9.cell? ⟨g3, 0, none⟩ = some (.int .i64 1) := (blk_cell aa.out 0).trans rfl; have q1 : w9.cell? ⟨g3, 1, none⟩ = some (.int .i64 sa) := (blk_cell aa.out 1).trans rfl; have q2 : w9.cell? ⟨g3, 2, none⟩ = some (.int .i64 sk) := (blk_cell aa.out 2).trans rfl; have q3 : w9.cell? ⟨g3, 3, none⟩ = some (.int .i64 0) := (blk_cell aa.out 3).trans rfl; have q4 : w9.cell? ⟨g3, 4, none⟩ = some (.int .i64 0) := (blk_cell aa.out 4).trans rfl; have q5 : w9.cell? ⟨g3, 5, none⟩ = some (.int .i64 0) := (blk_cell aa.out 5).trans rfl; have d0 : w9.cell? ⟨gd, 0, none⟩ = some (.map (some gm)) := (blk_cell ab.out 0).trans rfl; have hlen := HM.out.len Try.underlying101 3))
       go_ret
       exact ⟨congrArg (fun z => Ending.returned (Value.int .i64 z)) HV.out.symm, HB.out⟩
      | true =>
       have HV0 : stepE 1 sa sk 0 0 0 true tk false M.length = 0 := by simp [stepE, *]
       have HV : Aside0 (stepE 1 sa sk 0 0 0 (getM M (sa, sk)).isSome (getM M (0, 0)).isSome (decide ((1 : Int) = 3) && decide ((0, 0) = (sa, sk))) M.length = 0) := ⟨by rw [HTH.out, HTK.out]; exact (congrArg (fun z => stepE 1 sa sk 0 0 0 true tk z M.length) HO.out).trans HV0⟩
       clear HV0
       have p0 : w8.cell? ⟨g3, 0, none⟩ = some (.int .i64 1) := (blk_cell aa.out 0).trans rfl
       have p1 : w8.cell? ⟨g3, 1, none⟩ = some (.int .i64 sa) := (blk_cell aa.out 1).trans rfl
       have p2 : w8.cell? ⟨g3, 2, none⟩ = some (.int .i64 sk) := (blk_cell aa.out 2).trans rfl
       have p3 : w8.cell? ⟨g3, 3, none⟩ = some (.int .i64 0) := (blk_cell aa.out 3).trans rfl
       have p4 : w8.cell? ⟨g3, 4, none⟩ = some (.int .i64 0) := (blk_cell aa.out 4).trans rfl
       have p5 : w8.cell? ⟨g3, 5, none⟩ = some (.int .i64 0) := (blk_cell aa.out 5).trans rfl
       go_wp2_with (first | (go_at_call 70; refine (between70 1 true (by first | decide | (symm; simp; omega)) _).mono ?_; rintro e w9 ⟨rfl, hb⟩; replace HB := zA (below_step HB.out hb); replace ab := zA (blk_keep ab.out hb); replace HM := zA (hasM_below HM.out hb); replace aa := zA (blk_keep aa.out hb); clear hb; have q0 : w9.cell? ⟨g3, 0, none⟩ = some (.int .i64 1) := (blk_cell aa.out 0).trans rfl; have q1 : w9.cell? ⟨g3, 1, none⟩ = some (.int .i64 sa) := (blk_cell aa.out 1).trans rfl; have q2 : w9.cell? ⟨g3, 2, none⟩ = some (.int .i64 sk) := (blk_cell aa.out 2).trans rfl; have q3 : w9.cell? ⟨g3, 3, none⟩ = some (.int .i64 0) := (blk_cell aa.out 3).trans rfl; have q4 : w9.cell? ⟨g3, 4, none⟩ = some (.int .i64 0) := (blk_cell aa.out 4).trans rfl; have q5 : w9.cell? ⟨g3, 5, none⟩ = some (.int .i64 0) := (blk_cell aa.out 5).trans rfl; have d0 : w9.cell? ⟨gd, 0, none⟩ = some (.map (some gm)) := (blk_cell ab.out 0).trans rfl; have hlen := HM.out.len Try.underlying101 3))
       go_ret
       exact ⟨congrArg (fun z => Ending.returned (Value.int .i64 z)) HV.out.symm, HB.out⟩
     ·
      have HV0 : stepE 1 sa sk 0 0 n2 th tk false M.length = 6 := by simp [stepE, *]
      have HV : Aside0 (stepE 1 sa sk 0 0 n2 (getM M (sa, sk)).isSome (getM M (0, 0)).isSome (decide ((1 : Int) = 3) && decide ((0, 0) = (sa, sk))) M.length = 6) := ⟨by rw [HTH.out, HTK.out]; exact (congrArg (fun z => stepE 1 sa sk 0 0 n2 th tk z M.length) HO.out).trans HV0⟩
      clear HV0
      have p0 : w8.cell? ⟨g3, 0, none⟩ = some (.int .i64 1) := (blk_cell aa.out 0).trans rfl
      have p1 : w8.cell? ⟨g3, 1, none⟩ = some (.int .i64 sa) := (blk_cell aa.out 1).trans rfl
      have p2 : w8.cell? ⟨g3, 2, none⟩ = some (.int .i64 sk) := (blk_cell aa.out 2).trans rfl
      have p3 : w8.cell? ⟨g3, 3, none⟩ = some (.int .i64 0) := (blk_cell aa.out 3).trans rfl
      have p4 : w8.cell? ⟨g3, 4, none⟩ = some (.int .i64 0) := (blk_cell aa.out 4).trans rfl
      have p5 : w8.cell? ⟨g3, 5, none⟩ = some (.int .i64 n2) := (blk_cell aa.out 5).trans rfl
      go_wp2_with (first | (go_at_call 70; refine (between70 1 true (by first | decide | (symm; simp; omega)) _).mono ?_; rintro e w9 ⟨rfl, hb⟩; replace HB := zA (below_step HB.out hb); replace ab := zA (blk_keep ab.out hb); replace HM := zA (hasM_below HM.out hb); replace aa := zA (blk_keep aa.out hb); clear hb; have q0 : w9.cell? ⟨g3, 0, none⟩ = some (.int .i64 1) := (blk_cell aa.out 0).trans rfl; have q1 : w9.cell? ⟨g3, 1, none⟩ = some (.int .i64 sa) := (blk_cell aa.out 1).trans rfl; have q2 : w9.cell? ⟨g3, 2, none⟩ = some (.int .i64 sk) := (blk_cell aa.out 2).trans rfl; have q3 : w9.cell? ⟨g3, 3, none⟩ = some (.int .i64 0) := (blk_cell aa.out 3).trans rfl; have q4 : w9.cell? ⟨g3, 4, none⟩ = some (.int .i64 0) := (blk_cell aa.out 4).trans rfl; have q5 : w9.cell? ⟨g3, 5, none⟩ = some (.int .i64 n2) := (blk_cell aa.out 5).trans rfl; have d0 : w9.cell? ⟨gd, 0, none⟩ = some (.map (some gm)) := (blk_cell ab.out 0).trans rfl; have hlen := HM.out.len Try.underlying101 3))
      go_ret
      exact ⟨congrArg (fun z => Ending.returned (Value.int .i64 z)) HV.out.symm, HB.out⟩
    ·
     have HV0 : stepE 1 sa sk 0 n1 n2 th tk false M.length = 6 := by simp [stepE, *]
     have HV : Aside0 (stepE 1 sa sk 0 n1 n2 (getM M (sa, sk)).isSome (getM M (0, n1)).isSome (decide ((1 : Int) = 3) && decide ((0, n1) = (sa, sk))) M.length = 6) := ⟨by rw [HTH.out, HTK.out]; exact (congrArg (fun z => stepE 1 sa sk 0 n1 n2 th tk z M.length) HO.out).trans HV0⟩
     clear HV0
     have p0 : w8.cell? ⟨g3, 0, none⟩ = some (.int .i64 1) := (blk_cell aa.out 0).trans rfl
     have p1 : w8.cell? ⟨g3, 1, none⟩ = some (.int .i64 sa) := (blk_cell aa.out 1).trans rfl
     have p2 : w8.cell? ⟨g3, 2, none⟩ = some (.int .i64 sk) := (blk_cell aa.out 2).trans rfl
     have p3 : w8.cell? ⟨g3, 3, none⟩ = some (.int .i64 0) := (blk_cell aa.out 3).trans rfl
     have p4 : w8.cell? ⟨g3, 4, none⟩ = some (.int .i64 n1) := (blk_cell aa.out 4).trans rfl
     have p5 : w8.cell? ⟨g3, 5, none⟩ = some (.int .i64 n2) := (blk_cell aa.out 5).trans rfl
     go_wp2_with (first | (go_at_call 70; refine (between70 1 true (by first | decide | (symm; simp; omega)) _).mono ?_; rintro e w9 ⟨rfl, hb⟩; replace HB := zA (below_step HB.out hb); replace ab := zA (blk_keep ab.out hb); replace HM := zA (hasM_below HM.out hb); replace aa := zA (blk_keep aa.out hb); clear hb; have q0 : w9.cell? ⟨g3, 0, none⟩ = some (.int .i64 1) := (blk_cell aa.out 0).trans rfl; have q1 : w9.cell? ⟨g3, 1, none⟩ = some (.int .i64 sa) := (blk_cell aa.out 1).trans rfl; have q2 : w9.cell? ⟨g3, 2, none⟩ = some (.int .i64 sk) := (blk_cell aa.out 2).trans rfl; have q3 : w9.cell? ⟨g3, 3, none⟩ = some (.int .i64 0) := (blk_cell aa.out 3).trans rfl; have q4 : w9.cell? ⟨g3, 4, none⟩ = some (.int .i64 n1) := (blk_cell aa.out 4).trans rfl; have q5 : w9.cell? ⟨g3, 5, none⟩ = some (.int .i64 n2) := (blk_cell aa.out 5).trans rfl; have d0 : w9.cell? ⟨gd, 0, none⟩ = some (.map (some gm)) := (blk_cell ab.out 0).trans rfl; have hlen := HM.out.len Try.underlying101 3))
     go_ret
     exact ⟨congrArg (fun z => Ending.returned (Value.int .i64 z)) HV.out.symm, HB.out⟩
   ·
    have HV0 : stepE 1 sa sk n0 n1 n2 th tk false M.length = 6 := by simp [stepE, *]
    have HV : Aside0 (stepE 1 sa sk n0 n1 n2 (getM M (sa, sk)).isSome (getM M (n0, n1)).isSome (decide ((1 : Int) = 3) && decide ((n0, n1) = (sa, sk))) M.length = 6) := ⟨by rw [HTH.out, HTK.out]; exact (congrArg (fun z => stepE 1 sa sk n0 n1 n2 th tk z M.length) HO.out).trans HV0⟩
    clear HV0
    have p0 : w8.cell? ⟨g3, 0, none⟩ = some (.int .i64 1) := (blk_cell aa.out 0).trans rfl
    have p1 : w8.cell? ⟨g3, 1, none⟩ = some (.int .i64 sa) := (blk_cell aa.out 1).trans rfl
    have p2 : w8.cell? ⟨g3, 2, none⟩ = some (.int .i64 sk) := (blk_cell aa.out 2).trans rfl
    have p3 : w8.cell? ⟨g3, 3, none⟩ = some (.int .i64 n0) := (blk_cell aa.out 3).trans rfl
    have p4 : w8.cell? ⟨g3, 4, none⟩ = some (.int .i64 n1) := (blk_cell aa.out 4).trans rfl
    have p5 : w8.cell? ⟨g3, 5, none⟩ = some (.int .i64 n2) := (blk_cell aa.out 5).trans rfl
    go_wp2_with (first | (go_at_call 70; refine (between70 1 true (by first | decide | (symm; simp; omega)) _).mono ?_; rintro e w9 ⟨rfl, hb⟩; replace HB := zA (below_step HB.out hb); replace ab := zA (blk_keep ab.out hb); replace HM := zA (hasM_below HM.out hb); replace aa := zA (blk_keep aa.out hb); clear hb; have q0 : w9.cell? ⟨g3, 0, none⟩ = some (.int .i64 1) := (blk_cell aa.out 0).trans rfl; have q1 : w9.cell? ⟨g3, 1, none⟩ = some (.int .i64 sa) := (blk_cell aa.out 1).trans rfl; have q2 : w9.cell? ⟨g3, 2, none⟩ = some (.int .i64 sk) := (blk_cell aa.out 2).trans rfl; have q3 : w9.cell? ⟨g3, 3, none⟩ = some (.int .i64 n0) := (blk_cell aa.out 3).trans rfl; have q4 : w9.cell? ⟨g3, 4, none⟩ = some (.int .i64 n1) := (blk_cell aa.out 4).trans rfl; have q5 : w9.cell? ⟨g3, 5, none⟩ = some (.int .i64 n2) := (blk_cell aa.out 5).trans rfl; have d0 : w9.cell? ⟨gd, 0, none⟩ = some (.map (some gm)) := (blk_cell ab.out 0).trans rfl; have hlen := HM.out.len Try.underlying101 3))
    go_ret
    exact ⟨congrArg (fun z => Ending.returned (Value.int .i64 z)) HV.out.symm, HB.out⟩
  ·
   by_cases z0 : sa = 0
   ·
    subst z0
    by_cases z1 : sk = 0
    ·
     subst z1
     cases hgd : goodN n0 n1 n2 with
     | false =>
      have HV0 : stepE 2 0 0 n0 n1 n2 th tk false M.length = 3 := by simp [stepE, *]
      have HV : Aside0 (stepE 2 0 0 n0 n1 n2 (getM M (0, 0)).isSome (getM M (n0, n1)).isSome (decide ((2 : Int) = 3) && decide ((n0, n1) = (0, 0))) M.length = 3) := ⟨by rw [HTH.out, HTK.out]; exact (congrArg (fun z => stepE 2 0 0 n0 n1 n2 th tk z M.length) HO.out).trans HV0⟩
      clear HV0
      have p0 : w8.cell? ⟨g3, 0, none⟩ = some (.int .i64 2) := (blk_cell aa.out 0).trans rfl
      have p1 : w8.cell? ⟨g3, 1, none⟩ = some (.int .i64 0) := (blk_cell aa.out 1).trans rfl
      have p2 : w8.cell? ⟨g3, 2, none⟩ = some (.int .i64 0) := (blk_cell aa.out 2).trans rfl
      have p3 : w8.cell? ⟨g3, 3, none⟩ = some (.int .i64 n0) := (blk_cell aa.out 3).trans rfl
      have p4 : w8.cell? ⟨g3, 4, none⟩ = some (.int .i64 n1) := (blk_cell aa.out 4).trans rfl
      have p5 : w8.cell? ⟨g3, 5, none⟩ = some (.int .i64 n2) := (blk_cell aa.out 5).trans rfl
      go_wp2_with (first | (go_at_call 70; refine (between70 2 true (by first | decide | (symm; simp; omega)) _).mono ?_; rintro e w9 ⟨rfl, hb⟩; replace HB := zA (below_step HB.out hb); replace ab := zA (blk_keep ab.out hb); replace HM := zA (hasM_below HM.out hb); replace aa := zA (blk_keep aa.out hb); clear hb; have q0 : w9.cell? ⟨g3, 0, none⟩ = some (.int .i64 2) := (blk_cell aa.out 0).trans rfl; have q1 : w9.cell? ⟨g3, 1, none⟩ = some (.int .i64 0) := (blk_cell aa.out 1).trans rfl; have q2 : w9.cell? ⟨g3, 2, none⟩ = some (.int .i64 0) := (blk_cell aa.out 2).trans rfl; have q3 : w9.cell? ⟨g3, 3, none⟩ = some (.int .i64 n0) := (blk_cell aa.out 3).trans rfl; have q4 : w9.cell? ⟨g3, 4, none⟩ = some (.int .i64 n1) := (blk_cell aa.out 4).trans rfl; have q5 : w9.cell? ⟨g3, 5, none⟩ = some (.int .i64 n2) := (blk_cell aa.out 5).trans rfl; have d0 : w9.cell? ⟨gd, 0, none⟩ = some (.map (some gm)) := (blk_cell ab.out 0).trans rfl; have hlen := HM.out.len Try.underlying101 3) | (go_at_call 54; refine (good54b n0 n1 n2 false hgd _).mono ?_; rintro e wa ⟨rfl, hb⟩; clear q0 q1 q2 q3 q4 q5 d0 hlen; replace HB := zA (below_step HB.out hb); replace ab := zA (blk_keep ab.out hb); replace HM := zA (hasM_below HM.out hb); replace aa := zA (blk_keep aa.out hb); clear hb; have q0 : wa.cell? ⟨g3, 0, none⟩ = some (.int .i64 2) := (blk_cell aa.out 0).trans rfl; have q1 : wa.cell? ⟨g3, 1, none⟩ = some (.int .i64 0) := (blk_cell aa.out 1).trans rfl; have q2 : wa.cell? ⟨g3, 2, none⟩ = some (.int .i64 0) := (blk_cell aa.out 2).trans rfl; have q3 : wa.cell? ⟨g3, 3, none⟩ = some (.int .i64 n0) := (blk_cell aa.out 3).trans rfl; have q4 : wa.cell? ⟨g3, 4, none⟩ = some (.int .i64 n1) := (blk_cell aa.out 4).trans rfl; have q5 : wa.cell? ⟨g3, 5, none⟩ = some (.int .i64 n2) := (blk_cell aa.out 5).trans rfl; have d0 : wa.cell? ⟨gd, 0, none⟩ = some (.map (some gm)) := (blk_cell ab.out 0).trans rfl; have hlen := HM.out.len Try.underlying101 3))
      go_ret
      exact ⟨congrArg (fun z => Ending.returned (Value.int .i64 z)) HV.out.symm, HB.out⟩
     | true =>
      cases tk with
      | true =>
       have HV0 : stepE 2 0 0 n0 n1 n2 th true false M.length = 9 := by simp [stepE, *]
       have HV : Aside0 (stepE 2 0 0 n0 n1 n2 (getM M (0, 0)).isSome (getM M (n0, n1)).isSome (decide ((2 : Int) = 3) && decide ((n0, n1) = (0, 0))) M.length = 9) := ⟨by rw [HTH.out, HTK.out]; exact (congrArg (fun z => stepE 2 0 0 n0 n1 n2 th true z M.length) HO.out).trans HV0⟩
       clear HV0
       have p0 : w8.cell? ⟨g3, 0, none⟩ = some (.int .i64 2) := (blk_cell aa.out 0).trans rfl
       have p1 : w8.cell? ⟨g3, 1, none⟩ = some (.int .i64 0) := (blk_cell aa.out 1).trans rfl
       have p2 : w8.cell? ⟨g3, 2, none⟩ = some (.int .i64 0) := (blk_cell aa.out 2).trans rfl
       have p3 : w8.cell? ⟨g3, 3, none⟩ = some (.int .i64 n0) := (blk_cell aa.out 3).trans rfl
       have p4 : w8.cell? ⟨g3, 4, none⟩ = some (.int .i64 n1) := (blk_cell aa.out 4).trans rfl
       have p5 : w8.cell? ⟨g3, 5, none⟩ = some (.int .i64 n2) := (blk_cell aa.out 5).trans rfl
       go_wp2_with (first | (go_at_call 70; refine (between70 2 true (by first | decide | (symm; simp; omega)) _).mono ?_; rintro e w9 ⟨rfl, hb⟩; replace HB := zA (below_step HB.out hb); replace ab := zA (blk_keep ab.out hb); replace HM := zA (hasM_below HM.out hb); replace aa := zA (blk_keep aa.out hb); clear hb; have q0 : w9.cell? ⟨g3, 0, none⟩ = some (.int .i64 2) := (blk_cell aa.out 0).trans rfl; have q1 : w9.cell? ⟨g3, 1, none⟩ = some (.int .i64 0) := (blk_cell aa.out 1).trans rfl; have q2 : w9.cell? ⟨g3, 2, none⟩ = some (.int .i64 0) := (blk_cell aa.out 2).trans rfl; have q3 : w9.cell? ⟨g3, 3, none⟩ = some (.int .i64 n0) := (blk_cell aa.out 3).trans rfl; have q4 : w9.cell? ⟨g3, 4, none⟩ = some (.int .i64 n1) := (blk_cell aa.out 4).trans rfl; have q5 : w9.cell? ⟨g3, 5, none⟩ = some (.int .i64 n2) := (blk_cell aa.out 5).trans rfl; have d0 : w9.cell? ⟨gd, 0, none⟩ = some (.map (some gm)) := (blk_cell ab.out 0).trans rfl; have hlen := HM.out.len Try.underlying101 3) | (go_at_call 54; refine (good54b n0 n1 n2 true hgd _).mono ?_; rintro e wa ⟨rfl, hb⟩; clear q0 q1 q2 q3 q4 q5 d0 hlen; replace HB := zA (below_step HB.out hb); replace ab := zA (blk_keep ab.out hb); replace HM := zA (hasM_below HM.out hb); replace aa := zA (blk_keep aa.out hb); clear hb; have q0 : wa.cell? ⟨g3, 0, none⟩ = some (.int .i64 2) := (blk_cell aa.out 0).trans rfl; have q1 : wa.cell? ⟨g3, 1, none⟩ = some (.int .i64 0) := (blk_cell aa.out 1).trans rfl; have q2 : wa.cell? ⟨g3, 2, none⟩ = some (.int .i64 0) := (blk_cell aa.out 2).trans rfl; have q3 : wa.cell? ⟨g3, 3, none⟩ = some (.int .i64 n0) := (blk_cell aa.out 3).trans rfl; have q4 : wa.cell? ⟨g3, 4, none⟩ = some (.int .i64 n1) := (blk_cell aa.out 4).trans rfl; have q5 : wa.cell? ⟨g3, 5, none⟩ = some (.int .i64 n2) := (blk_cell aa.out 5).trans rfl; have d0 : wa.cell? ⟨gd, 0, none⟩ = some (.map (some gm)) := (blk_cell ab.out 0).trans rfl; have hlen := HM.out.len Try.underlying101 3))
       go_ret
       exact ⟨congrArg (fun z => Ending.returned (Value.int .i64 z)) HV.out.symm, HB.out⟩
      | false =>
       by_cases hl0 : M.length = 60
       ·
        have hl : ((M.length : Int) == 60) = true := by rw [hl0]; rfl
        have HV0 : stepE 2 0 0 n0 n1 n2 th false false M.length = 16 := by simp [stepE, *]
        have HV : Aside0 (stepE 2 0 0 n0 n1 n2 (getM M (0, 0)).isSome (getM M (n0, n1)).isSome (decide ((2 : Int) = 3) && decide ((n0, n1) = (0, 0))) M.length = 16) := ⟨by rw [HTH.out, HTK.out]; exact (congrArg (fun z => stepE 2 0 0 n0 n1 n2 th false z M.length) HO.out).trans HV0⟩
        clear HV0
        have p0 : w8.cell? ⟨g3, 0, none⟩ = some (.int .i64 2) := (blk_cell aa.out 0).trans rfl
        have p1 : w8.cell? ⟨g3, 1, none⟩ = some (.int .i64 0) := (blk_cell aa.out 1).trans rfl
        have p2 : w8.cell? ⟨g3, 2, none⟩ = some (.int .i64 0) := (blk_cell aa.out 2).trans rfl
        have p3 : w8.cell? ⟨g3, 3, none⟩ = some (.int .i64 n0) := (blk_cell aa.out 3).trans rfl
        have p4 : w8.cell? ⟨g3, 4, none⟩ = some (.int .i64 n1) := (blk_cell aa.out 4).trans rfl
        have p5 : w8.cell? ⟨g3, 5, none⟩ = some (.int .i64 n2) := (blk_cell aa.out 5).trans rfl
        go_wp2_with (first | (go_at_call 70; refine (between70 2 true (by first | decide | (symm; simp; omega)) _).mono ?_; rintro e w9 ⟨rfl, hb⟩; replace HB := zA (below_step HB.out hb); replace ab := zA (blk_keep ab.out hb); replace HM := zA (hasM_below HM.out hb); replace aa := zA (blk_keep aa.out hb); clear hb; have q0 : w9.cell? ⟨g3, 0, none⟩ = some (.int .i64 2) := (blk_cell aa.out 0).trans rfl; have q1 : w9.cell? ⟨g3, 1, none⟩ = some (.int .i64 0) := (blk_cell aa.out 1).trans rfl; have q2 : w9.cell? ⟨g3, 2, none⟩ = some (.int .i64 0) := (blk_cell aa.out 2).trans rfl; have q3 : w9.cell? ⟨g3, 3, none⟩ = some (.int .i64 n0) := (blk_cell aa.out 3).trans rfl; have q4 : w9.cell? ⟨g3, 4, none⟩ = some (.int .i64 n1) := (blk_cell aa.out 4).trans rfl; have q5 : w9.cell? ⟨g3, 5, none⟩ = some (.int .i64 n2) := (blk_cell aa.out 5).trans rfl; have d0 : w9.cell? ⟨gd, 0, none⟩ = some (.map (some gm)) := (blk_cell ab.out 0).trans rfl; have hlen := HM.out.len Try.underlying101 3) | (go_at_call 54; refine (good54b n0 n1 n2 true hgd _).mono ?_; rintro e wa ⟨rfl, hb⟩; clear q0 q1 q2 q3 q4 q5 d0 hlen; replace HB := zA (below_step HB.out hb); replace ab := zA (blk_keep ab.out hb); replace HM := zA (hasM_below HM.out hb); replace aa := zA (blk_keep aa.out hb); clear hb; have q0 : wa.cell? ⟨g3, 0, none⟩ = some (.int .i64 2) := (blk_cell aa.out 0).trans rfl; have q1 : wa.cell? ⟨g3, 1, none⟩ = some (.int .i64 0) := (blk_cell aa.out 1).trans rfl; have q2 : wa.cell? ⟨g3, 2, none⟩ = some (.int .i64 0) := (blk_cell aa.out 2).trans rfl; have q3 : wa.cell? ⟨g3, 3, none⟩ = some (.int .i64 n0) := (blk_cell aa.out 3).trans rfl; have q4 : wa.cell? ⟨g3, 4, none⟩ = some (.int .i64 n1) := (blk_cell aa.out 4).trans rfl; have q5 : wa.cell? ⟨g3, 5, none⟩ = some (.int .i64 n2) := (blk_cell aa.out 5).trans rfl; have d0 : wa.cell? ⟨gd, 0, none⟩ = some (.map (some gm)) := (blk_cell ab.out 0).trans rfl; have hlen := HM.out.len Try.underlying101 3))
        go_ret
        exact ⟨congrArg (fun z => Ending.returned (Value.int .i64 z)) HV.out.symm, HB.out⟩
       ·
        have hl : ((M.length : Int) == 60) = false := beq_eq_false_iff_ne.mpr (by omega)
        have HV0 : stepE 2 0 0 n0 n1 n2 th false false M.length = 0 := by simp [stepE, *]
        have HV : Aside0 (stepE 2 0 0 n0 n1 n2 (getM M (0, 0)).isSome (getM M (n0, n1)).isSome (decide ((2 : Int) = 3) && decide ((n0, n1) = (0, 0))) M.length = 0) := ⟨by rw [HTH.out, HTK.out]; exact (congrArg (fun z => stepE 2 0 0 n0 n1 n2 th false z M.length) HO.out).trans HV0⟩
        clear HV0
        have p0 : w8.cell? ⟨g3, 0, none⟩ = some (.int .i64 2) := (blk_cell aa.out 0).trans rfl
        have p1 : w8.cell? ⟨g3, 1, none⟩ = some (.int .i64 0) := (blk_cell aa.out 1).trans rfl
        have p2 : w8.cell? ⟨g3, 2, none⟩ = some (.int .i64 0) := (blk_cell aa.out 2).trans rfl
        have p3 : w8.cell? ⟨g3, 3, none⟩ = some (.int .i64 n0) := (blk_cell aa.out 3).trans rfl
        have p4 : w8.cell? ⟨g3, 4, none⟩ = some (.int .i64 n1) := (blk_cell aa.out 4).trans rfl
        have p5 : w8.cell? ⟨g3, 5, none⟩ = some (.int .i64 n2) := (blk_cell aa.out 5).trans rfl
        go_wp2_with (first | (go_at_call 70; refine (between70 2 true (by first | decide | (symm; simp; omega)) _).mono ?_; rintro e w9 ⟨rfl, hb⟩; replace HB := zA (below_step HB.out hb); replace ab := zA (blk_keep ab.out hb); replace HM := zA (hasM_below HM.out hb); replace aa := zA (blk_keep aa.out hb); clear hb; have q0 : w9.cell? ⟨g3, 0, none⟩ = some (.int .i64 2) := (blk_cell aa.out 0).trans rfl; have q1 : w9.cell? ⟨g3, 1, none⟩ = some (.int .i64 0) := (blk_cell aa.out 1).trans rfl; have q2 : w9.cell? ⟨g3, 2, none⟩ = some (.int .i64 0) := (blk_cell aa.out 2).trans rfl; have q3 : w9.cell? ⟨g3, 3, none⟩ = some (.int .i64 n0) := (blk_cell aa.out 3).trans rfl; have q4 : w9.cell? ⟨g3, 4, none⟩ = some (.int .i64 n1) := (blk_cell aa.out 4).trans rfl; have q5 : w9.cell? ⟨g3, 5, none⟩ = some (.int .i64 n2) := (blk_cell aa.out 5).trans rfl; have d0 : w9.cell? ⟨gd, 0, none⟩ = some (.map (some gm)) := (blk_cell ab.out 0).trans rfl; have hlen := HM.out.len Try.underlying101 3) | (go_at_call 54; refine (good54b n0 n1 n2 true hgd _).mono ?_; rintro e wa ⟨rfl, hb⟩; clear q0 q1 q2 q3 q4 q5 d0 hlen; replace HB := zA (below_step HB.out hb); replace ab := zA (blk_keep ab.out hb); replace HM := zA (hasM_below HM.out hb); replace aa := zA (blk_keep aa.out hb); clear hb; have q0 : wa.cell? ⟨g3, 0, none⟩ = some (.int .i64 2) := (blk_cell aa.out 0).trans rfl; have q1 : wa.cell? ⟨g3, 1, none⟩ = some (.int .i64 0) := (blk_cell aa.out 1).trans rfl; have q2 : wa.cell? ⟨g3, 2, none⟩ = some (.int .i64 0) := (blk_cell aa.out 2).trans rfl; have q3 : wa.cell? ⟨g3, 3, none⟩ = some (.int .i64 n0) := (blk_cell aa.out 3).trans rfl; have q4 : wa.cell? ⟨g3, 4, none⟩ = some (.int .i64 n1) := (blk_cell aa.out 4).trans rfl; have q5 : wa.cell? ⟨g3, 5, none⟩ = some (.int .i64 n2) := (blk_cell aa.out 5).trans rfl; have d0 : wa.cell? ⟨gd, 0, none⟩ = some (.map (some gm)) := (blk_cell ab.out 0).trans rfl; have hlen := HM.out.len Try.underlying101 3))
        go_ret
        exact ⟨congrArg (fun z => Ending.returned (Value.int .i64 z)) HV.out.symm, HB.out⟩
    ·
     have HV0 : stepE 2 0 sk n0 n1 n2 th tk false M.length = 6 := by simp [stepE, *]
     have HV : Aside0 (stepE 2 0 sk n0 n1 n2 (getM M (0, sk)).isSome (getM M (n0, n1)).isSome (decide ((2 : Int) = 3) && decide ((n0, n1) = (0, sk))) M.length = 6) := ⟨by rw [HTH.out, HTK.out]; exact (congrArg (fun z => stepE 2 0 sk n0 n1 n2 th tk z M.length) HO.out).trans HV0⟩
     clear HV0
     have p0 : w8.cell? ⟨g3, 0, none⟩ = some (.int .i64 2) := (blk_cell aa.out 0).trans rfl
     have p1 : w8.cell? ⟨g3, 1, none⟩ = some (.int .i64 0) := (blk_cell aa.out 1).trans rfl
     have p2 : w8.cell? ⟨g3, 2, none⟩ = some (.int .i64 sk) := (blk_cell aa.out 2).trans rfl
     have p3 : w8.cell? ⟨g3, 3, none⟩ = some (.int .i64 n0) := (blk_cell aa.out 3).trans rfl
     have p4 : w8.cell? ⟨g3, 4, none⟩ = some (.int .i64 n1) := (blk_cell aa.out 4).trans rfl
     have p5 : w8.cell? ⟨g3, 5, none⟩ = some (.int .i64 n2) := (blk_cell aa.out 5).trans rfl
     go_wp2_with (first | (go_at_call 70; refine (between70 2 true (by first | decide | (symm; simp; omega)) _).mono ?_; rintro e w9 ⟨rfl, hb⟩; replace HB := zA (below_step HB.out hb); replace ab := zA (blk_keep ab.out hb); replace HM := zA (hasM_below HM.out hb); replace aa := zA (blk_keep aa.out hb); clear hb; have q0 : w9.cell? ⟨g3, 0, none⟩ = some (.int .i64 2) := (blk_cell aa.out 0).trans rfl; have q1 : w9.cell? ⟨g3, 1, none⟩ = some (.int .i64 0) := (blk_cell aa.out 1).trans rfl; have q2 : w9.cell? ⟨g3, 2, none⟩ = some (.int .i64 sk) := (blk_cell aa.out 2).trans rfl; have q3 : w9.cell? ⟨g3, 3, none⟩ = some (.int .i64 n0) := (blk_cell aa.out 3).trans rfl; have q4 : w9.cell? ⟨g3, 4, none⟩ = some (.int .i64 n1) := (blk_cell aa.out 4).trans rfl; have q5 : w9.cell? ⟨g3, 5, none⟩ = some (.int .i64 n2) := (blk_cell aa.out 5).trans rfl; have d0 : w9.cell? ⟨gd, 0, none⟩ = some (.map (some gm)) := (blk_cell ab.out 0).trans rfl; have hlen := HM.out.len Try.underlying101 3))
     go_ret
     exact ⟨congrArg (fun z => Ending.returned (Value.int .i64 z)) HV.out.symm, HB.out⟩
   ·
    have HV0 : stepE 2 sa sk n0 n1 n2 th tk false M.length = 6 := by simp [stepE, *]
    have HV : Aside0 (stepE 2 sa sk n0 n1 n2 (getM M (sa, sk)).isSome (getM M (n0, n1)).isSome (decide ((2 : Int) = 3) && decide ((n0, n1) = (sa, sk))) M.length = 6) := ⟨by rw [HTH.out, HTK.out]; exact (congrArg (fun z => stepE 2 sa sk n0 n1 n2 th tk z M.length) HO.out).trans HV0⟩
    clear HV0
    have p0 : w8.cell? ⟨g3, 0, none⟩ = some (.int .i64 2) := (blk_cell aa.out 0).trans rfl
    have p1 : w8.cell? ⟨g3, 1, none⟩ = some (.int .i64 sa) := (blk_cell aa.out 1).trans rfl
    have p2 : w8.cell? ⟨g3, 2, none⟩ = some (.int .i64 sk) := (blk_cell aa.out 2).trans rfl
    have p3 : w8.cell? ⟨g3, 3, none⟩ = some (.int .i64 n0) := (blk_cell aa.out 3).trans rfl
    have p4 : w8.cell? ⟨g3, 4, none⟩ = some (.int .i64 n1) := (blk_cell aa.out 4).trans rfl
    have p5 : w8.cell? ⟨g3, 5, none⟩ = some (.int .i64 n2) := (blk_cell aa.out 5).trans rfl
    go_wp2_with (first | (go_at_call 70; refine (between70 2 true (by first | decide | (symm; simp; omega)) _).mono ?_; rintro e w9 ⟨rfl, hb⟩; replace HB := zA (below_step HB.out hb); replace ab := zA (blk_keep ab.out hb); replace HM := zA (hasM_below HM.out hb); replace aa := zA (blk_keep aa.out hb); clear hb; have q0 : w9.cell? ⟨g3, 0, none⟩ = some (.int .i64 2) := (blk_cell aa.out 0).trans rfl; have q1 : w9.cell? ⟨g3, 1, none⟩ = some (.int .i64 sa) := (blk_cell aa.out 1).trans rfl; have q2 : w9.cell? ⟨g3, 2, none⟩ = some (.int .i64 sk) := (blk_cell aa.out 2).trans rfl; have q3 : w9.cell? ⟨g3, 3, none⟩ = some (.int .i64 n0) := (blk_cell aa.out 3).trans rfl; have q4 : w9.cell? ⟨g3, 4, none⟩ = some (.int .i64 n1) := (blk_cell aa.out 4).trans rfl; have q5 : w9.cell? ⟨g3, 5, none⟩ = some (.int .i64 n2) := (blk_cell aa.out 5).trans rfl; have d0 : w9.cell? ⟨gd, 0, none⟩ = some (.map (some gm)) := (blk_cell ab.out 0).trans rfl; have hlen := HM.out.len Try.underlying101 3))
    go_ret
    exact ⟨congrArg (fun z => Ending.returned (Value.int .i64 z)) HV.out.symm, HB.out⟩
  ·
   cases th with
   | false =>
    have HV0 : stepE 4 sa sk n0 n1 n2 false tk false M.length = 8 := by simp [stepE, *]
    have HV : Aside0 (stepE 4 sa sk n0 n1 n2 (getM M (sa, sk)).isSome (getM M (n0, n1)).isSome (decide ((4 : Int) = 3) && decide ((n0, n1) = (sa, sk))) M.length = 8) := ⟨by rw [HTH.out, HTK.out]; exact (congrArg (fun z => stepE 4 sa sk n0 n1 n2 false tk z M.length) HO.out).trans HV0⟩
    clear HV0
    have p0 : w8.cell? ⟨g3, 0, none⟩ = some (.int .i64 4) := (blk_cell aa.out 0).trans rfl
    have p1 : w8.cell? ⟨g3, 1, none⟩ = some (.int .i64 sa) := (blk_cell aa.out 1).trans rfl
    have p2 : w8.cell? ⟨g3, 2, none⟩ = some (.int .i64 sk) := (blk_cell aa.out 2).trans rfl
    have p3 : w8.cell? ⟨g3, 3, none⟩ = some (.int .i64 n0) := (blk_cell aa.out 3).trans rfl
    have p4 : w8.cell? ⟨g3, 4, none⟩ = some (.int .i64 n1) := (blk_cell aa.out 4).trans rfl
    have p5 : w8.cell? ⟨g3, 5, none⟩ = some (.int .i64 n2) := (blk_cell aa.out 5).trans rfl
    go_wp2_with (first | (go_at_call 70; refine (between70 4 true (by first | decide | (symm; simp; omega)) _).mono ?_; rintro e w9 ⟨rfl, hb⟩; replace HB := zA (below_step HB.out hb); replace ab := zA (blk_keep ab.out hb); replace HM := zA (hasM_below HM.out hb); replace aa := zA (blk_keep aa.out hb); clear hb; have q0 : w9.cell? ⟨g3, 0, none⟩ = some (.int .i64 4) := (blk_cell aa.out 0).trans rfl; have q1 : w9.cell? ⟨g3, 1, none⟩ = some (.int .i64 sa) := (blk_cell aa.out 1).trans rfl; have q2 : w9.cell? ⟨g3, 2, none⟩ = some (.int .i64 sk) := (blk_cell aa.out 2).trans rfl; have q3 : w9.cell? ⟨g3, 3, none⟩ = some (.int .i64 n0) := (blk_cell aa.out 3).trans rfl; have q4 : w9.cell? ⟨g3, 4, none⟩ = some (.int .i64 n1) := (blk_cell aa.out 4).trans rfl; have q5 : w9.cell? ⟨g3, 5, none⟩ = some (.int .i64 n2) := (blk_cell aa.out 5).trans rfl; have d0 : w9.cell? ⟨gd, 0, none⟩ = some (.map (some gm)) := (blk_cell ab.out 0).trans rfl; have hlen := HM.out.len Try.underlying101 3))
    go_ret
    exact ⟨congrArg (fun z => Ending.returned (Value.int .i64 z)) HV.out.symm, HB.out⟩
   | true =>
    cases hgd : goodN n0 n1 n2 with
    | false =>
     have HV0 : stepE 4 sa sk n0 n1 n2 true tk false M.length = 3 := by simp [stepE, *]
     have HV : Aside0 (stepE 4 sa sk n0 n1 n2 (getM M (sa, sk)).isSome (getM M (n0, n1)).isSome (decide ((4 : Int) = 3) && decide ((n0, n1) = (sa, sk))) M.length = 3) := ⟨by rw [HTH.out, HTK.out]; exact (congrArg (fun z => stepE 4 sa sk n0 n1 n2 true tk z M.length) HO.out).trans HV0⟩
     clear HV0
     have p0 : w8.cell? ⟨g3, 0, none⟩ = some (.int .i64 4) := (blk_cell aa.out 0).trans rfl
     have p1 : w8.cell? ⟨g3, 1, none⟩ = some (.int .i64 sa) := (blk_cell aa.out 1).trans rfl
     have p2 : w8.cell? ⟨g3, 2, none⟩ = some (.int .i64 sk) := (blk_cell aa.out 2).trans rfl
     have p3 : w8.cell? ⟨g3, 3, none⟩ = some (.int .i64 n0) := (blk_cell aa.out 3).trans rfl
     have p4 : w8.cell? ⟨g3, 4, none⟩ = some (.int .i64 n1) := (blk_cell aa.out 4).trans rfl
     have p5 : w8.cell? ⟨g3, 5, none⟩ = some (.int .i64 n2) := (blk_cell aa.out 5).trans rfl
     go_wp2_with (first | (go_at_call 70; refine (between70 4 true (by first | decide | (symm; simp; omega)) _).mono ?_; rintro e w9 ⟨rfl, hb⟩; replace HB := zA (below_step HB.out hb); replace ab := zA (blk_keep ab.out hb); replace HM := zA (hasM_below HM.out hb); replace aa := zA (blk_keep aa.out hb); clear hb; have q0 : w9.cell? ⟨g3, 0, none⟩ = some (.int .i64 4) := (blk_cell aa.out 0).trans rfl; have q1 : w9.cell? ⟨g3, 1, none⟩ = some (.int .i64 sa) := (blk_cell aa.out 1).trans rfl; have q2 : w9.cell? ⟨g3, 2, none⟩ = some (.int .i64 sk) := (blk_cell aa.out 2).trans rfl; have q3 : w9.cell? ⟨g3, 3, none⟩ = some (.int .i64 n0) := (blk_cell aa.out 3).trans rfl; have q4 : w9.cell? ⟨g3, 4, none⟩ = some (.int .i64 n1) := (blk_cell aa.out 4).trans rfl; have q5 : w9.cell? ⟨g3, 5, none⟩ = some (.int .i64 n2) := (blk_cell aa.out 5).trans rfl; have d0 : w9.cell? ⟨gd, 0, none⟩ = some (.map (some gm)) := (blk_cell ab.out 0).trans rfl; have hlen := HM.out.len Try.underlying101 3) | (go_at_call 54; refine (good54b n0 n1 n2 false hgd _).mono ?_; rintro e wa ⟨rfl, hb⟩; clear q0 q1 q2 q3 q4 q5 d0 hlen; replace HB := zA (below_step HB.out hb); replace ab := zA (blk_keep ab.out hb); replace HM := zA (hasM_below HM.out hb); replace aa := zA (blk_keep aa.out hb); clear hb; have q0 : wa.cell? ⟨g3, 0, none⟩ = some (.int .i64 4) := (blk_cell aa.out 0).trans rfl; have q1 : wa.cell? ⟨g3, 1, none⟩ = some (.int .i64 sa) := (blk_cell aa.out 1).trans rfl; have q2 : wa.cell? ⟨g3, 2, none⟩ = some (.int .i64 sk) := (blk_cell aa.out 2).trans rfl; have q3 : wa.cell? ⟨g3, 3, none⟩ = some (.int .i64 n0) := (blk_cell aa.out 3).trans rfl; have q4 : wa.cell? ⟨g3, 4, none⟩ = some (.int .i64 n1) := (blk_cell aa.out 4).trans rfl; have q5 : wa.cell? ⟨g3, 5, none⟩ = some (.int .i64 n2) := (blk_cell aa.out 5).trans rfl; have d0 : wa.cell? ⟨gd, 0, none⟩ = some (.map (some gm)) := (blk_cell ab.out 0).trans rfl; have hlen := HM.out.len Try.underlying101 3))
     go_ret
     exact ⟨congrArg (fun z => Ending.returned (Value.int .i64 z)) HV.out.symm, HB.out⟩
    | true =>
     cases tk with
     | true =>
      have HV0 : stepE 4 sa sk n0 n1 n2 true true false M.length = 9 := by simp [stepE, *]
      have HV : Aside0 (stepE 4 sa sk n0 n1 n2 (getM M (sa, sk)).isSome (getM M (n0, n1)).isSome (decide ((4 : Int) = 3) && decide ((n0, n1) = (sa, sk))) M.length = 9) := ⟨by rw [HTH.out, HTK.out]; exact (congrArg (fun z => stepE 4 sa sk n0 n1 n2 true true z M.length) HO.out).trans HV0⟩
      clear HV0
      have p0 : w8.cell? ⟨g3, 0, none⟩ = some (.int .i64 4) := (blk_cell aa.out 0).trans rfl
      have p1 : w8.cell? ⟨g3, 1, none⟩ = some (.int .i64 sa) := (blk_cell aa.out 1).trans rfl
      have p2 : w8.cell? ⟨g3, 2, none⟩ = some (.int .i64 sk) := (blk_cell aa.out 2).trans rfl
      have p3 : w8.cell? ⟨g3, 3, none⟩ = some (.int .i64 n0) := (blk_cell aa.out 3).trans rfl
      have p4 : w8.cell? ⟨g3, 4, none⟩ = some (.int .i64 n1) := (blk_cell aa.out 4).trans rfl
      have p5 : w8.cell? ⟨g3, 5, none⟩ = some (.int .i64 n2) := (blk_cell aa.out 5).trans rfl
      go_wp2_with (first | (go_at_call 70; refine (between70 4 true (by first | decide | (symm; simp; omega)) _).mono ?_; rintro e w9 ⟨rfl, hb⟩; replace HB := zA (below_step HB.out hb); replace ab := zA (blk_keep ab.out hb); replace HM := zA (hasM_below HM.out hb); replace aa := zA (blk_keep aa.out hb); clear hb; have q0 : w9.cell? ⟨g3, 0, none⟩ = some (.int .i64 4) := (blk_cell aa.out 0).trans rfl; have q1 : w9.cell? ⟨g3, 1, none⟩ = some (.int .i64 sa) := (blk_cell aa.out 1).trans rfl; have q2 : w9.cell? ⟨g3, 2, none⟩ = some (.int .i64 sk) := (blk_cell aa.out 2).trans rfl; have q3 : w9.cell? ⟨g3, 3, none⟩ = some (.int .i64 n0) := (blk_cell aa.out 3).trans rfl; have q4 : w9.cell? ⟨g3, 4, none⟩ = some (.int .i64 n1) := (blk_cell aa.out 4).trans rfl; have q5 : w9.cell? ⟨g3, 5, none⟩ = some (.int .i64 n2) := (blk_cell aa.out 5).trans rfl; have d0 : w9.cell? ⟨gd, 0, none⟩ = some (.map (some gm)) := (blk_cell ab.out 0).trans rfl; have hlen := HM.out.len Try.underlying101 3) | (go_at_call 54; refine (good54b n0 n1 n2 true hgd _).mono ?_; rintro e wa ⟨rfl, hb⟩; clear q0 q1 q2 q3 q4 q5 d0 hlen; replace HB := zA (below_step HB.out hb); replace ab := zA (blk_keep ab.out hb); replace HM := zA (hasM_below HM.out hb); replace aa := zA (blk_keep aa.out hb); clear hb; have q0 : wa.cell? ⟨g3, 0, none⟩ = some (.int .i64 4) := (blk_cell aa.out 0).trans rfl; have q1 : wa.cell? ⟨g3, 1, none⟩ = some (.int .i64 sa) := (blk_cell aa.out 1).trans rfl; have q2 : wa.cell? ⟨g3, 2, none⟩ = some (.int .i64 sk) := (blk_cell aa.out 2).trans rfl; have q3 : wa.cell? ⟨g3, 3, none⟩ = some (.int .i64 n0) := (blk_cell aa.out 3).trans rfl; have q4 : wa.cell? ⟨g3, 4, none⟩ = some (.int .i64 n1) := (blk_cell aa.out 4).trans rfl; have q5 : wa.cell? ⟨g3, 5, none⟩ = some (.int .i64 n2) := (blk_cell aa.out 5).trans rfl; have d0 : wa.cell? ⟨gd, 0, none⟩ = some (.map (some gm)) := (blk_cell ab.out 0).trans rfl; have hlen := HM.out.len Try.underlying101 3))
      go_ret
      exact ⟨congrArg (fun z => Ending.returned (Value.int .i64 z)) HV.out.symm, HB.out⟩
     | false =>
      by_cases hl0 : M.length = 60
      ·
       have hl : ((M.length : Int) == 60) = true := by rw [hl0]; rfl
       have HV0 : stepE 4 sa sk n0 n1 n2 true false false M.length = 16 := by simp [stepE, *]
       have HV : Aside0 (stepE 4 sa sk n0 n1 n2 (getM M (sa, sk)).isSome (getM M (n0, n1)).isSome (decide ((4 : Int) = 3) && decide ((n0, n1) = (sa, sk))) M.length = 16) := ⟨by rw [HTH.out, HTK.out]; exact (congrArg (fun z => stepE 4 sa sk n0 n1 n2 true false z M.length) HO.out).trans HV0⟩
       clear HV0
       have p0 : w8.cell? ⟨g3, 0, none⟩ = some (.int .i64 4) := (blk_cell aa.out 0).trans rfl
       have p1 : w8.cell? ⟨g3, 1, none⟩ = some (.int .i64 sa) := (blk_cell aa.out 1).trans rfl
       have p2 : w8.cell? ⟨g3, 2, none⟩ = some (.int .i64 sk) := (blk_cell aa.out 2).trans rfl
       have p3 : w8.cell? ⟨g3, 3, none⟩ = some (.int .i64 n0) := (blk_cell aa.out 3).trans rfl
       have p4 : w8.cell? ⟨g3, 4, none⟩ = some (.int .i64 n1) := (blk_cell aa.out 4).trans rfl
       have p5 : w8.cell? ⟨g3, 5, none⟩ = some (.int .i64 n2) := (blk_cell aa.out 5).trans rfl
       go_wp2_with (first | (go_at_call 70; refine (between70 4 true (by first | decide | (symm; simp; omega)) _).mono ?_; rintro e w9 ⟨rfl, hb⟩; replace HB := zA (below_step HB.out hb); replace ab := zA (blk_keep ab.out hb); replace HM := zA (hasM_below HM.out hb); replace aa := zA (blk_keep aa.out hb); clear hb; have q0 : w9.cell? ⟨g3, 0, none⟩ = some (.int .i64 4) := (blk_cell aa.out 0).trans rfl; have q1 : w9.cell? ⟨g3, 1, none⟩ = some (.int .i64 sa) := (blk_cell aa.out 1).trans rfl; have q2 : w9.cell? ⟨g3, 2, none⟩ = some (.int .i64 sk) := (blk_cell aa.out 2).trans rfl; have q3 : w9.cell? ⟨g3, 3, none⟩ = some (.int .i64 n0) := (blk_cell aa.out 3).trans rfl; have q4 : w9.cell? ⟨g3, 4, none⟩ = some (.int .i64 n1) := (blk_cell aa.out 4).trans rfl; have q5 : w9.cell? ⟨g3, 5, none⟩ = some (.int .i64 n2) := (blk_cell aa.out 5).trans rfl; have d0 : w9.cell? ⟨gd, 0, none⟩ = some (.map (some gm)) := (blk_cell ab.out 0).trans rfl; have hlen := HM.out.len Try.underlying101 3) | (go_at_call 54; refine (good54b n0 n1 n2 true hgd _).mono ?_; rintro e wa ⟨rfl, hb⟩; clear q0 q1 q2 q3 q4 q5 d0 hlen; replace HB := zA (below_step HB.out hb); replace ab := zA (blk_keep ab.out hb); replace HM := zA (hasM_below HM.out hb); replace aa := zA (blk_keep aa.out hb); clear hb; have q0 : wa.cell? ⟨g3, 0, none⟩ = some (.int .i64 4) := (blk_cell aa.out 0).trans rfl; have q1 : wa.cell? ⟨g3, 1, none⟩ = some (.int .i64 sa) := (blk_cell aa.out 1).trans rfl; have q2 : wa.cell? ⟨g3, 2, none⟩ = some (.int .i64 sk) := (blk_cell aa.out 2).trans rfl; have q3 : wa.cell? ⟨g3, 3, none⟩ = some (.int .i64 n0) := (blk_cell aa.out 3).trans rfl; have q4 : wa.cell? ⟨g3, 4, none⟩ = some (.int .i64 n1) := (blk_cell aa.out 4).trans rfl; have q5 : wa.cell? ⟨g3, 5, none⟩ = some (.int .i64 n2) := (blk_cell aa.out 5).trans rfl; have d0 : wa.cell? ⟨gd, 0, none⟩ = some (.map (some gm)) := (blk_cell ab.out 0).trans rfl; have hlen := HM.out.len Try.underlying101 3))
       go_ret
       exact ⟨congrArg (fun z => Ending.returned (Value.int .i64 z)) HV.out.symm, HB.out⟩
      ·
       have hl : ((M.length : Int) == 60) = false := beq_eq_false_iff_ne.mpr (by omega)
       have HV0 : stepE 4 sa sk n0 n1 n2 true false false M.length = 0 := by simp [stepE, *]
       have HV : Aside0 (stepE 4 sa sk n0 n1 n2 (getM M (sa, sk)).isSome (getM M (n0, n1)).isSome (decide ((4 : Int) = 3) && decide ((n0, n1) = (sa, sk))) M.length = 0) := ⟨by rw [HTH.out, HTK.out]; exact (congrArg (fun z => stepE 4 sa sk n0 n1 n2 true false z M.length) HO.out).trans HV0⟩
       clear HV0
       have p0 : w8.cell? ⟨g3, 0, none⟩ = some (.int .i64 4) := (blk_cell aa.out 0).trans rfl
       have p1 : w8.cell? ⟨g3, 1, none⟩ = some (.int .i64 sa) := (blk_cell aa.out 1).trans rfl
       have p2 : w8.cell? ⟨g3, 2, none⟩ = some (.int .i64 sk) := (blk_cell aa.out 2).trans rfl
       have p3 : w8.cell? ⟨g3, 3, none⟩ = some (.int .i64 n0) := (blk_cell aa.out 3).trans rfl
       have p4 : w8.cell? ⟨g3, 4, none⟩ = some (.int .i64 n1) := (blk_cell aa.out 4).trans rfl
       have p5 : w8.cell? ⟨g3, 5, none⟩ = some (.int .i64 n2) := (blk_cell aa.out 5).trans rfl
       go_wp2_with (first | (go_at_call 70; refine (between70 4 true (by first | decide | (symm; simp; omega)) _).mono ?_; rintro e w9 ⟨rfl, hb⟩; replace HB := zA (below_step HB.out hb); replace ab := zA (blk_keep ab.out hb); replace HM := zA (hasM_below HM.out hb); replace aa := zA (blk_keep aa.out hb); clear hb; have q0 : w9.cell? ⟨g3, 0, none⟩ = some (.int .i64 4) := (blk_cell aa.out 0).trans rfl; have q1 : w9.cell? ⟨g3, 1, none⟩ = some (.int .i64 sa) := (blk_cell aa.out 1).trans rfl; have q2 : w9.cell? ⟨g3, 2, none⟩ = some (.int .i64 sk) := (blk_cell aa.out 2).trans rfl; have q3 : w9.cell? ⟨g3, 3, none⟩ = some (.int .i64 n0) := (blk_cell aa.out 3).trans rfl; have q4 : w9.cell? ⟨g3, 4, none⟩ = some (.int .i64 n1) := (blk_cell aa.out 4).trans rfl; have q5 : w9.cell? ⟨g3, 5, none⟩ = some (.int .i64 n2) := (blk_cell aa.out 5).trans rfl; have d0 : w9.cell? ⟨gd, 0, none⟩ = some (.map (some gm)) := (blk_cell ab.out 0).trans rfl; have hlen := HM.out.len Try.underlying101 3) | (go_at_call 54; refine (good54b n0 n1 n2 true hgd _).mono ?_; rintro e wa ⟨rfl, hb⟩; clear q0 q1 q2 q3 q4 q5 d0 hlen; replace HB := zA (below_step HB.out hb); replace ab := zA (blk_keep ab.out hb); replace HM := zA (hasM_below HM.out hb); replace aa := zA (blk_keep aa.out hb); clear hb; have q0 : wa.cell? ⟨g3, 0, none⟩ = some (.int .i64 4) := (blk_cell aa.out 0).trans rfl; have q1 : wa.cell? ⟨g3, 1, none⟩ = some (.int .i64 sa) := (blk_cell aa.out 1).trans rfl; have q2 : wa.cell? ⟨g3, 2, none⟩ = some (.int .i64 sk) := (blk_cell aa.out 2).trans rfl; have q3 : wa.cell? ⟨g3, 3, none⟩ = some (.int .i64 n0) := (blk_cell aa.out 3).trans rfl; have q4 : wa.cell? ⟨g3, 4, none⟩ = some (.int .i64 n1) := (blk_cell aa.out 4).trans rfl; have q5 : wa.cell? ⟨g3, 5, none⟩ = some (.int .i64 n2) := (blk_cell aa.out 5).trans rfl; have d0 : wa.cell? ⟨gd, 0, none⟩ = some (.map (some gm)) := (blk_cell ab.out 0).trans rfl; have hlen := HM.out.len Try.underlying101 3))
       go_ret
       exact ⟨congrArg (fun z => Ending.returned (Value.int .i64 z)) HV.out.symm, HB.out⟩
end Go.Proofs.Ytehpbmdphfbooaa.P
end
section
namespace Go.Proofs.Ytehpbmdphfbooaa.P
open Go.RowKit Go.Proofs Go.Proofs.YtehpbmdphfbooaaW.PrintWords Go.Proofs.YtehpbmdphfbooaaW.PrintLast Go.Proofs.YtehpbmdphfbooaaW.PrintMore
set_option linter.unusedVariables false
set_option linter.unusedSimpArgs false
def insP (x : S108) : List S108 → List S108
  | [] => [x]
  | y :: l => if ltP (plc x) (plc y) then x :: y :: l else y :: insP x l
def sortP : List S108 → List S108
  | [] => []
  | x :: l => insP x (sortP l)
theorem insP_perm (x : S108) : ∀ l, (insP x l).Perm (x :: l)
  | [] => List.Perm.refl _
  | y :: l => by
    unfold insP
    by_cases h : ltP (plc x) (plc y)
    · rw [if_pos h]
    · rw [if_neg h]
      exact ((insP_perm x l).cons y).trans (List.Perm.swap x y l)
theorem sortP_perm : ∀ l, (sortP l).Perm l
  | [] => List.Perm.refl _
  | x :: l => (insP_perm x (sortP l)).trans ((sortP_perm l).cons x)
theorem ltP_asymm {a b : Int × Int} (h : ltP a b) : ¬ ltP b a := by
  unfold ltP at *
  omega
theorem ltP_tri {a b : Int × Int} (h : ¬ ltP a b) (k : ¬ ltP b a) : a = b := by
  obtain ⟨a1, a2⟩ := a
  obtain ⟨b1, b2⟩ := b
  unfold ltP at *
  simp only [Prod.mk.injEq]
  simp only at h k
  omega
theorem nltP_trans {a b c : Int × Int} (h : ¬ ltP b a) (k : ¬ ltP c b) : ¬ ltP c a := by
  unfold ltP at *
  omega
theorem insP_sorted (x : S108) : ∀ {l}, SortedP l → SortedP (insP x l)
  | [], _ => by simp [insP, SortedP]
  | y :: l, h => by
    unfold insP
    have h' := h
    unfold SortedP at h'
    rw [List.pairwise_cons] at h'
    by_cases q : ltP (plc x) (plc y)
    · rw [if_pos q]
      unfold SortedP
      rw [List.pairwise_cons]
      refine ⟨fun z hz => ?_, h⟩
      rcases List.mem_cons.1 hz with rfl | hz
      · exact ltP_asymm q
      · exact nltP_trans (ltP_asymm q) (h'.1 z hz)
    · rw [if_neg q]
      unfold SortedP
      rw [List.pairwise_cons]
      refine ⟨fun z hz => ?_, insP_sorted x h'.2⟩
      rcases List.mem_cons.1 ((insP_perm x l).mem_iff.1 hz) with rfl | hz
      · exact q
      · exact h'.1 z hz
theorem sortP_sorted : ∀ l, SortedP (sortP l)
  | [] => List.Pairwise.nil
  | x :: l => insP_sorted x (sortP_sorted l)
theorem sorted_eq : ∀ {d e : List S108}, d.Perm e → SortedP d → SortedP e → (d.map plc).Nodup → d = e
  | [], e, h, _, _, _ => h.nil_eq
  | x :: d, [], h, _, _, _ => absurd h.length_eq (by simp)
  | x :: d, y :: e, h, h1, h2, h3 => by
    unfold SortedP at h1 h2
    rw [List.pairwise_cons] at h1 h2
    rw [List.map_cons, List.nodup_cons] at h3
    by_cases q : x = y
    · subst q
      rw [sorted_eq ((List.perm_cons x).1 h) h1.2 h2.2 h3.2]
    · exfalso
      have hx : x ∈ e := by
        rcases List.mem_cons.1 (h.mem_iff.1 List.mem_cons_self) with k | k
        · exact absurd k q
        · exact k
      have hy : y ∈ d := by
        rcases List.mem_cons.1 (h.mem_iff.2 List.mem_cons_self) with k | k
        · exact absurd k.symm q
        · exact k
      have e1 := ltP_tri (h2.1 x hx) (h1.1 y hy)
      exact h3.1 (by rw [e1]; exact List.mem_map_of_mem hy)
def DeskOk (M : PM) : Prop := (M.map (·.1)).Nodup ∧ ∀ p ∈ M, plc p.2 = p.1
theorem DeskOk.plcs {M : PM} (h : DeskOk M) : ((M.map (·.2)).map plc).Nodup := by
  have e : (M.map (·.2)).map plc = M.map (·.1) := by
    rw [List.map_map]
    exact List.map_congr_left fun p hp => h.2 p hp
  rw [e]
  exact h.1
theorem DeskOk.del {M : PM} (h : DeskOk M) (a : Int × Int) : DeskOk (delM M a) := by
  unfold delM
  refine ⟨?_, fun p hp => h.2 p (List.mem_filter.1 hp).1⟩
  exact h.1.sublist ((List.filter_sublist).map _)
theorem DeskOk.put {M : PM} (h : DeskOk M) (a : Int × Int) (x : S108) (hx : plc x = a) : DeskOk (putM M a x) := by
  unfold putM
  refine ⟨?_, fun p hp => ?_⟩
  · rw [List.map_cons, List.nodup_cons]
    refine ⟨fun hm => ?_, h.1.sublist ((List.filter_sublist).map _)⟩
    obtain ⟨p, hp, e⟩ := List.mem_map.1 hm
    have := (List.mem_filter.1 hp).2
    simp only [decide_eq_true_eq] at this
    exact this e
  · rcases List.mem_cons.1 hp with rfl | hp
    · exact hx
    · exact h.2 p (List.mem_filter.1 hp).1
def doS (M : PM) (s : S65) : PM := doM M s.f0 s.f1 s.f2 s.f3.f0 s.f3.f1 s.f3.f2
def errS (M : PM) (s : S65) : Int := stepErr M s.f0 s.f1 s.f2 s.f3.f0 s.f3.f1 s.f3.f2
theorem DeskOk.doS {M : PM} (h : DeskOk M) (s : S65) : DeskOk (doS M s) := by
  unfold P.doS doM
  split
  · exact h.del _
  split
  · exact h.put _ _ rfl
  split
  · exact (h.del _).put _ _ rfl
  · exact h.put _ _ rfl
theorem DeskOk.desk (l : List S61) : ∀ k, DeskOk (deskL l k)
  | 0 => ⟨List.nodup_nil, fun p hp => by cases hp⟩
  | k + 1 => (DeskOk.desk l k).put _ _ rfl
def runL : List S65 → Nat → PM → PM ⊕ (Nat × Int)
  | [], _, M => .inl M
  | s :: r, k, M => if errS M s = 0 then runL r (k + 1) (doS M s) else .inr (k, errS M s)
theorem runL_ok : ∀ {st : List S65} {k : Nat} {M N : PM}, DeskOk M → runL st k M = .inl N → DeskOk N
  | [], k, M, N, h, e => by
    unfold runL at e
    injection e with e
    exact e ▸ h
  | s :: r, k, M, N, h, e => by
    unfold runL at e
    by_cases q : errS M s = 0
    · rw [if_pos q] at e
      exact runL_ok (h.doS s) e
    · rw [if_neg q] at e
      cases e
theorem stepErr_kind {M : PM} {kd sa sk n0 n1 n2 : Int} (h : stepErr M kd sa sk n0 n1 n2 = 0) : 1 ≤ kd ∧ kd ≤ 4 := by
  unfold stepErr stepE at h
  by_cases q : 1 ≤ kd ∧ kd ≤ 4
  · exact q
  · rw [if_pos q] at h
    cases h
theorem runL_drop {st : List S65} {k : Nat} (h : k < st.length) (M : PM) : runL (st.drop k) k M = if errS M (rd_T65 st (k : Int)) = 0 then runL (st.drop (k + 1)) (k + 1) (doS M (rd_T65 st (k : Int))) else .inr (k, errS M (rd_T65 st (k : Int))) := by
  have e : rd_T65 st (k : Int) = st[k] := by
    unfold rd_T65
    rw [Int.toNat_natCast, List.getD_eq_getElem?_getD, List.getElem?_eq_getElem h]
    rfl
  rw [List.drop_eq_getElem_cons h, e]
  rfl
abbrev Ran := (List S61) × (List S61) × (List S67) × Int × Int
def ranF (l : List S61) (st : List S65) : Ran :=
  if 200 < st.length then ([], [], [], 0, 5)
  else match runL st 0 (deskL l l.length) with
    | .inr (k, e) => ([], [], [], (k : Int), e)
    | .inl M => if 30 < M.length then ([], [], [], (st.length : Int), 5) else (l, (sortP (M.map (·.2))).map S108.f0, (sortP (M.map (·.2))).map S108.f1, (st.length : Int), 0)
def edit_Run.f (k : Nat) (l : List S61) (st : List S65) : Option Ran := (edit_Check.f k l).bind fun e => if e = 0 then some (ranF l st) else some ([], [], [], 0, e)
theorem check_len {k : Nat} {l : List S61} (h : edit_Check.f k l = some 0) : l.length ≤ 30 := by
  unfold edit_Check.f at h
  by_cases q : (l.length : Int) > 30
  · rw [if_pos q] at h
    cases h
  · omega
end Go.Proofs.Ytehpbmdphfbooaa.P
end
section
namespace Go.Proofs.Ytehpbmdphfbooaa.P
open Go.RowKit Go.Proofs Go.Proofs.YtehpbmdphfbooaaW.PrintWords Go.Proofs.YtehpbmdphfbooaaW.PrintLast Go.Proofs.YtehpbmdphfbooaaW.PrintMore
set_option linter.unusedVariables false
set_option linter.unusedSimpArgs false
theorem blk_row {A W : World} {r g : Nat} {o : Obj} (h : A.heap[g]? = some o) (k : A.grownBy W (some r)) (hne : g ≠ r) : W.heap[g]? = some o := (k.block g (blk_lt h) (fun e => by injection e with e; exact hne e)).trans h
def cutW (W : World) (B : Nat) : World := { W with heap := W.heap.extract 0 B }
theorem cutW_size {W : World} {B : Nat} (h : B ≤ W.heap.size) : (cutW W B).heap.size = B := by
  simp [cutW]
  omega
theorem cutW_at {W : World} {B i : Nat} (hi : i < B) : (cutW W B).heap[i]? = W.heap[i]? := by
  show (W.heap.extract 0 B)[i]? = W.heap[i]?
  rw [Array.getElem?_extract]
  by_cases q : i < W.heap.size
  · rw [if_pos (by omega), Nat.zero_add]
  · rw [if_neg (by omega), Array.getElem?_eq_none (by omega)]
theorem cutW_below {W : World} {B : Nat} (h : B ≤ W.heap.size) : Below (cutW W B).heap.size (cutW W B) W := ⟨rfl, rfl, rfl, by rw [cutW_size h]; exact h, fun i hi => (cutW_at (by rw [cutW_size h] at hi; exact hi)).symm⟩
theorem below_cutW {A W : World} {B : Nat} (h : Below A.heap.size A W) (k : A.heap.size ≤ B) (hB : B ≤ W.heap.size) : Below A.heap.size A (cutW W B) := ⟨h.os, h.tape, h.output, by rw [cutW_size hB]; exact k, fun i hi => (cutW_at (Nat.lt_of_lt_of_le hi k)).trans (h.block i hi)⟩
theorem below_less {A B : Nat} {W W' : World} (h : Below B W W') (k : A ≤ B) : Below A W W' := ⟨h.os, h.tape, h.output, h.size, fun i hi => h.block i (Nat.lt_of_lt_of_le hi k)⟩
set_option maxHeartbeats 4000000 in
set_option maxRecDepth 100000 in
theorem edit_Run.calls (k : Nat) (A0 : Option Addr) (c0 : Nat) (l0 : List S61) (A1 : Option Addr) (c1 : Nat) (l1 : List S65) (r1 : List S61) (r2 : List S61) (r3 : List S67) (r4 : Int) (r5 : Int) (w : World) (am : Kd.C k61 w A0 l0.length l0) (hc0 : l0.length ≤ c0) (aj : Kd.C k65 w A1 l1.length l1) (hc1 : l1.length ≤ c1) (h : edit_Run.f k l0 l1 = some (r1, r2, r3, r4, r5)) :
  Calls Try.prog 14 #[.slice A0 l0.length c0, .slice A1 l1.length c1] w fun e w' => ∃ v0_ v1_ v2_ : Value, e = .returned (.tuple #[.agg #[v0_, v1_, v2_], .int .i64 r4, .int .i64 r5]) ∧ Kd.R k61 61 w' w.heap.size (fun k_ => some k_ ≠ (v1_ : Value).ownBlock) v0_ r1 ∧ Kd.R k61 61 w' w.heap.size (fun k_ => some k_ ≠ (v0_ : Value).ownBlock) v1_ r2 ∧ Kd.R k67 67 w' w.heap.size (fun _ => True) v2_ r3 ∧ Below w.heap.size w w' := by
 have hu28 := Try.underlying28
 have hu65 := Try.underlying65
 have hu103 := Try.underlying103
 have hu108 := Try.underlying108
 have ag := zA am
 have ah := zA hc0
 have HR1 := zA aj
 have HC1 := zA hc1
 have LM1 : Aside0 (l1.length ≤ 9223372036854775807) := ⟨aj.2.1⟩
 have HB := zA (Below.refl w.heap.size w)
 have H : ((edit_Check.f k l0).bind fun e => if e = 0 then some (ranF l0 l1) else some ([], [], [], 0, e)) = some (r1, r2, r3, r4, r5) := h
 clear h am hc0 aj hc1
 obtain ⟨t0, A00, H⟩ := Option.bind_eq_some_iff.mp H
 have A0_ := zA A00
 have HLM : Aside0 (t0 = 0 → l0.length ≤ 30) := ⟨fun e => check_len (e ▸ A00)⟩
 clear A00
 replace H := zA H
 go_enter Try.func14, Try.ntmps14
 go_upto_region 1 with (first | ((with_reducible refine gate_dst (N := 4) rfl ?_); refine box_event ?hg (N := 4) ?hd (cs := #[.slice none 0 0, .slice none 0 0, .slice none 0 0]) (t := 28) ?hr ?_; (case hd => rfl); (case hg => rfl); (case hr => first | (go_simp; done) | (go_simp; rfl)); intro g4 hg w4 hbox hb; have af : Aside0 (w.heap.size ≤ g4) := ⟨by rw [hg]; exact HB.out.size⟩; replace HB := zA (below_then HB.out HB.out.size hb); have aa := zA hbox; clear hb hbox hg))
 by_cases c0b : t0 = 0
 ·
  subst c0b
  replace HLM := zA (HLM.out rfl)
  replace H := zA (Option.some.inj ((if_pos rfl).symm.trans H.out))
  by_cases c1b : 200 < l1.length
  ·
   have e1 : ranF l0 l1 = ([], [], [], 0, 5) := if_pos c1b
   have e2 := e1.symm.trans H.out
   simp only [Prod.mk.injEq] at e2
   obtain ⟨rfl, rfl, rfl, rfl, rfl⟩ := e2
   have q1 : (200 : Int) < (l1.length : Int) := by omega
   clear c1b
   go_wp2_with (first | (go_at_call 19; refine (edit_Check.calls k A0 c0 l0 _ _ (Kd.C_below ag.out HB.out) ah.out A0_.out).mono ?_; rintro e w9 ⟨rfl, hb⟩; replace HB := zA (below_then HB.out HB.out.size hb); replace aa := zA (blk_keep aa.out hb); clear hb; have z0 : w9.cell? ⟨g4, 0, none⟩ = some (.slice none 0 0) := (blk_cell aa.out 0).trans rfl; have z1 : w9.cell? ⟨g4, 1, none⟩ = some (.slice none 0 0) := (blk_cell aa.out 1).trans rfl; have z2 : w9.cell? ⟨g4, 2, none⟩ = some (.slice none 0 0) := (blk_cell aa.out 2).trans rfl; have zf0 := blk_frozen aa.out 0; have zf1 := blk_frozen aa.out 1; have zf2 := blk_frozen aa.out 2))
   refine bodyPost_ret (results_ctt rfl _ _ g4 28 #[.slice none 0 0, .slice none 0 0, .slice none 0 0] (0, 0) _ rfl ((blk_put (cs := #[.slice none 0 0, .slice none 0 0, .slice none 0 0]) (blk_put (cs := #[.slice none 0 0, .slice none 0 0, .slice none 0 0]) (blk_put (cs := #[.slice none 0 0, .slice none 0 0, .slice none 0 0]) aa.out 0 (.slice none 0 0) rfl) 1 (.slice none 0 0) rfl) 2 (.slice none 0 0) rfl)) Try.underlying28 rfl (by kernel_rfl)) rfl ?_
   exact ⟨_, _, _, rfl, Kd.R_nil _ _ _ _ _, Kd.R_nil _ _ _ _ _, Kd.R_nil _ _ _ _ _, (below_set (below_set (below_set HB.out af.out) af.out) af.out)⟩
  ·
   have q1 : ¬ (200 : Int) < (l1.length : Int) := by omega
   go_wp2_with (first | (go_at_call 19; refine (edit_Check.calls k A0 c0 l0 _ _ (Kd.C_below ag.out HB.out) ah.out A0_.out).mono ?_; rintro e w9 ⟨rfl, hb⟩; replace HB := zA (below_then HB.out HB.out.size hb); replace aa := zA (blk_keep aa.out hb); clear hb; have z0 : w9.cell? ⟨g4, 0, none⟩ = some (.slice none 0 0) := (blk_cell aa.out 0).trans rfl; have z1 : w9.cell? ⟨g4, 1, none⟩ = some (.slice none 0 0) := (blk_cell aa.out 1).trans rfl; have z2 : w9.cell? ⟨g4, 2, none⟩ = some (.slice none 0 0) := (blk_cell aa.out 2).trans rfl; have zf0 := blk_frozen aa.out 0; have zf1 := blk_frozen aa.out 1; have zf2 := blk_frozen aa.out 2) | (go_at_call 45; clear z0 z1 z2 zf0 zf1 zf2; have HBz := zA HB.out.size; have NZ := zA (blk_lt aa.out); refine (newDesk45 A0 c0 l0 _ (Kd.C_below ag.out HB.out) ah.out).mono ?_; rintro e w9 ⟨gd, gm, rfl, hD, hgd, hgm, hb⟩; replace HB := zA (below_then HB.out HB.out.size hb); replace aa := zA (blk_keep aa.out hb); clear hb; have HD := zA hD; have GD : Aside0 (w.heap.size ≤ gd) := ⟨Nat.le_trans HBz.out hgd⟩; have GM : Aside0 (w.heap.size ≤ gm) := ⟨Nat.le_trans HBz.out hgm⟩; have N4D : Aside0 (g4 ≠ gd) := ⟨by have := NZ.out; omega⟩; have N4M : Aside0 (g4 ≠ gm) := ⟨by have := NZ.out; omega⟩; clear hD hgd hgm HBz NZ))
   have NGM := zA HD.out.ne
   have ae := zA HD.out.1
   have HM := zA HD.out.2
   have H0 : Aside0 (runL (l1.drop 0) 0 (deskL l0 l0.length) = runL l1 0 (deskL l0 l0.length)) := ⟨rfl⟩
   clear HD
   go_loopg [29] l1.length (fun kq v29 w' => ∃ (k : Nat) (M : PM), v29 = .int .i64 k ∧ k ≤ l1.length ∧ l1.length - k ≤ kq ∧ Aside0 (runL (l1.drop k) k M = runL l1 0 (deskL l0 l0.length)) ∧ Aside0 (HasM w' ekP ev108 gm M) ∧ Aside0 (w'.heap[gd]? = some (.cells #[.map (some gm)] 103 (0, 0))) ∧ Aside0 (w'.heap[g4]? = some (.cells #[.slice none 0 0, .slice none 0 0, .slice none 0 0] 28 (0, 0))) ∧ Aside0 (Below w.heap.size w w'))
   case atStart => exact ⟨0, _, rfl, Nat.zero_le _, by omega, H0, HM, ae, aa, HB⟩
   case round =>
    clear HM ae aa HB H0
    obtain ⟨k, M, rfl, hk, hkx, HRUN, HM, ae, aa, HB⟩ := hrel
    by_cases q : k < l1.length
    ·
     have qz : (k : Int) < (l1.length : Int) := by omega
     obtain ⟨g1, rfl⟩ : ∃ g_, gk = g_ + 1 := ⟨gk - 1, by omega⟩
     have e0 := HRUN.out
     rw [runL_drop q] at e0
     obtain ⟨ad, e, h0, h1, h2, h3, h4, h5⟩ := at_T65 HR1.out (k : Int) (by omega) qz
     subst e
     rw [Int.toNat_natCast] at h0 h1 h2 h3 h4 h5
     replace h0 := (HB.out.cell (World.block_lt_of_cell? w _ h0)).trans h0
     replace h1 := (HB.out.cell (World.block_lt_of_cell? w _ h1)).trans h1
     replace h2 := (HB.out.cell (World.block_lt_of_cell? w _ h2)).trans h2
     replace h3 := (HB.out.cell (World.block_lt_of_cell? w _ h3)).trans h3
     replace h4 := (HB.out.cell (World.block_lt_of_cell? w _ h4)).trans h4
     replace h5 := (HB.out.cell (World.block_lt_of_cell? w _ h5)).trans h5
     obtain ⟨s, hs⟩ : ∃ s_, s_ = rd_T65 l1 (k : Int) := ⟨_, rfl⟩
     rw [← hs] at e0 h0 h1 h2 h3 h4 h5
     clear hs HRUN
     obtain ⟨kd, sa, sk, n0, n1, n2⟩ := s
     replace e0 : (if stepErr M kd sa sk n0 n1 n2 = 0 then runL (l1.drop (k + 1)) (k + 1) (doM M kd sa sk n0 n1 n2) else .inr (k, stepErr M kd sa sk n0 n1 n2)) = runL l1 0 (deskL l0 l0.length) := e0
     have HRUN := zA e0
     clear e0
     replace h0 : wr.cell? _ = some (.int .i64 kd) := h0
     replace h1 : wr.cell? _ = some (.int .i64 sa) := h1
     replace h2 : wr.cell? _ = some (.int .i64 sk) := h2
     replace h3 : wr.cell? _ = some (.int .i64 n0) := h3
     replace h4 : wr.cell? _ = some (.int .i64 n1) := h4
     replace h5 : wr.cell? _ = some (.int .i64 n2) := h5
     go_upto_region 10 with (first | ((with_reducible refine gate_dst (N := 10) rfl ?_); refine box_event ?hg (N := 10) ?hd (cs := #[.int .i64 0, .int .i64 0, .int .i64 0, .int .i64 0, .int .i64 0, .int .i64 0]) (t := 65) ?hr ?_; (case hd => rfl); (case hg => rfl); (case hr => first | (go_simp; done) | (go_simp; rfl)); intro g10 hg w10 hbox hb; have N4 : Aside0 (g4 ≠ g10) := ⟨by have := blk_lt aa.out; omega⟩; have ND : Aside0 (gd ≠ g10) := ⟨by have := blk_lt ae.out; omega⟩; have NM : Aside0 (gm ≠ g10) := ⟨by have := HM.out.lt; omega⟩; have GE : Aside0 (w.heap.size ≤ g10) := ⟨by rw [hg]; exact HB.out.size⟩; have l0 := World.block_lt_of_cell? wr _ h0; replace h0 := (hb.cell l0).trans h0; clear l0; have l1 := World.block_lt_of_cell? wr _ h1; replace h1 := (hb.cell l1).trans h1; clear l1; have l2 := World.block_lt_of_cell? wr _ h2; replace h2 := (hb.cell l2).trans h2; clear l2; have l3 := World.block_lt_of_cell? wr _ h3; replace h3 := (hb.cell l3).trans h3; clear l3; have l4 := World.block_lt_of_cell? wr _ h4; replace h4 := (hb.cell l4).trans h4; clear l4; have l5 := World.block_lt_of_cell? wr _ h5; replace h5 := (hb.cell l5).trans h5; clear l5; have ab := zA hbox; replace HB := zA (below_then HB.out HB.out.size hb); replace aa := zA (blk_keep aa.out hb); replace ae := zA (blk_keep ae.out hb); replace HM := zA (hasM_below HM.out hb); clear hb hbox hg; have t0 : w10.cell? ⟨g10, 0, none⟩ = some (.int .i64 0) := (blk_cell ab.out 0).trans rfl; have t1 : w10.cell? ⟨g10, 1, none⟩ = some (.int .i64 0) := (blk_cell ab.out 1).trans rfl; have t2 : w10.cell? ⟨g10, 2, none⟩ = some (.int .i64 0) := (blk_cell ab.out 2).trans rfl; have t3 : w10.cell? ⟨g10, 3, none⟩ = some (.int .i64 0) := (blk_cell ab.out 3).trans rfl; have t4 : w10.cell? ⟨g10, 4, none⟩ = some (.int .i64 0) := (blk_cell ab.out 4).trans rfl; have t5 : w10.cell? ⟨g10, 5, none⟩ = some (.int .i64 0) := (blk_cell ab.out 5).trans rfl; have tf0 := blk_frozen ab.out 0; have tf1 := blk_frozen ab.out 1; have tf2 := blk_frozen ab.out 2; have tf3 := blk_frozen ab.out 3; have tf4 := blk_frozen ab.out 4; have tf5 := blk_frozen ab.out 5))
     clear h0 h1 h2 h3 h4 h5 t0 tf0 t1 tf1 t2 tf2 t3 tf3 t4 tf4 t5 tf5
     have n0_ : Aside0 (((World.setCell (World.setCell (World.setCell (World.setCell (World.setCell (World.setCell w10 ⟨g10, 0, none⟩ (.int .i64 kd)) ⟨g10, 1, none⟩ (.int .i64 sa)) ⟨g10, 2, none⟩ (.int .i64 sk)) ⟨g10, 3, none⟩ (.int .i64 n0)) ⟨g10, 4, none⟩ (.int .i64 n1)) ⟨g10, 5, none⟩ (.int .i64 n2))).heap[g10]? = some (.cells #[.int .i64 kd, .int .i64 sa, .int .i64 sk, .int .i64 n0, .int .i64 n1, .int .i64 n2] 65 (0, 0))) := ⟨(blk_put (cs := #[.int .i64 kd, .int .i64 sa, .int .i64 sk, .int .i64 n0, .int .i64 n1, .int .i64 0]) (blk_put (cs := #[.int .i64 kd, .int .i64 sa, .int .i64 sk, .int .i64 n0, .int .i64 0, .int .i64 0]) (blk_put (cs := #[.int .i64 kd, .int .i64 sa, .int .i64 sk, .int .i64 0, .int .i64 0, .int .i64 0]) (blk_put (cs := #[.int .i64 kd, .int .i64 sa, .int .i64 0, .int .i64 0, .int .i64 0, .int .i64 0]) (blk_put (cs := #[.int .i64 kd, .int .i64 0, .int .i64 0, .int .i64 0, .int .i64 0, .int .i64 0]) (blk_put (cs := #[.int .i64 0, .int .i64 0, .int .i64 0, .int .i64 0, .int .i64 0, .int .i64 0]) ab.out 0 (.int .i64 kd) rfl) 1 (.int .i64 sa) rfl) 2 (.int .i64 sk) rfl) 3 (.int .i64 n0) rfl) 4 (.int .i64 n1) rfl) 5 (.int .i64 n2) rfl)⟩
     have n1_ : Aside0 (Below w.heap.size w (World.setCell (World.setCell (World.setCell (World.setCell (World.setCell (World.setCell w10 ⟨g10, 0, none⟩ (.int .i64 kd)) ⟨g10, 1, none⟩ (.int .i64 sa)) ⟨g10, 2, none⟩ (.int .i64 sk)) ⟨g10, 3, none⟩ (.int .i64 n0)) ⟨g10, 4, none⟩ (.int .i64 n1)) ⟨g10, 5, none⟩ (.int .i64 n2))) := ⟨(below_set (below_set (below_set (below_set (below_set (below_set HB.out GE.out) GE.out) GE.out) GE.out) GE.out) GE.out)⟩
     have n2_ := zA ((blk_far (blk_far (blk_far (blk_far (blk_far (blk_far aa.out (p := ⟨g10, 0, none⟩) (N4.out) (.int .i64 kd)) (p := ⟨g10, 1, none⟩) (N4.out) (.int .i64 sa)) (p := ⟨g10, 2, none⟩) (N4.out) (.int .i64 sk)) (p := ⟨g10, 3, none⟩) (N4.out) (.int .i64 n0)) (p := ⟨g10, 4, none⟩) (N4.out) (.int .i64 n1)) (p := ⟨g10, 5, none⟩) (N4.out) (.int .i64 n2))); have n3_ := zA ((blk_far (blk_far (blk_far (blk_far (blk_far (blk_far ae.out (p := ⟨g10, 0, none⟩) (ND.out) (.int .i64 kd)) (p := ⟨g10, 1, none⟩) (ND.out) (.int .i64 sa)) (p := ⟨g10, 2, none⟩) (ND.out) (.int .i64 sk)) (p := ⟨g10, 3, none⟩) (ND.out) (.int .i64 n0)) (p := ⟨g10, 4, none⟩) (ND.out) (.int .i64 n1)) (p := ⟨g10, 5, none⟩) (ND.out) (.int .i64 n2))); have n4_ := zA ((HasM.same (HasM.same (HasM.same (HasM.same (HasM.same (HasM.same HM.out (Below.heap_setCell _ ⟨g10, 0, none⟩ (.int .i64 kd) _ (NM.out))) (Below.heap_setCell _ ⟨g10, 1, none⟩ (.int .i64 sa) _ (NM.out))) (Below.heap_setCell _ ⟨g10, 2, none⟩ (.int .i64 sk) _ (NM.out))) (Below.heap_setCell _ ⟨g10, 3, none⟩ (.int .i64 n0) _ (NM.out))) (Below.heap_setCell _ ⟨g10, 4, none⟩ (.int .i64 n1) _ (NM.out))) (Below.heap_setCell _ ⟨g10, 5, none⟩ (.int .i64 n2) _ (NM.out)))); clear ab HB aa ae HM; generalize (World.setCell (World.setCell (World.setCell (World.setCell (World.setCell (World.setCell w10 ⟨g10, 0, none⟩ (.int .i64 kd)) ⟨g10, 1, none⟩ (.int .i64 sa)) ⟨g10, 2, none⟩ (.int .i64 sk)) ⟨g10, 3, none⟩ (.int .i64 n0)) ⟨g10, 4, none⟩ (.int .i64 n1)) ⟨g10, 5, none⟩ (.int .i64 n2)) = w11 at n0_ n1_ n2_ n3_ n4_ ⊢; have ab := n0_; have HB := n1_; have aa := n2_; have ae := n3_; have HM := n4_; clear n0_ n1_ n2_ n3_ n4_
     have t0 : w11.cell? ⟨g10, 0, none⟩ = some (.int .i64 kd) := (blk_cell ab.out 0).trans rfl
     have t1 : w11.cell? ⟨g10, 1, none⟩ = some (.int .i64 sa) := (blk_cell ab.out 1).trans rfl
     have t2 : w11.cell? ⟨g10, 2, none⟩ = some (.int .i64 sk) := (blk_cell ab.out 2).trans rfl
     have t3 : w11.cell? ⟨g10, 3, none⟩ = some (.int .i64 n0) := (blk_cell ab.out 3).trans rfl
     have t4 : w11.cell? ⟨g10, 4, none⟩ = some (.int .i64 n1) := (blk_cell ab.out 4).trans rfl
     have t5 : w11.cell? ⟨g10, 5, none⟩ = some (.int .i64 n2) := (blk_cell ab.out 5).trans rfl
     by_cases c : stepErr M kd sa sk n0 n1 n2 = 0
     ·
      have HKD := zA (stepErr_kind c)
      have HX := zA ((if_pos c).symm.trans HRUN.out)
      go_wp2_with (first | (go_at_call 46; refine (check46 gd gm M kd sa sk n0 n1 n2 _ ⟨ae.out, HM.out⟩).mono ?_; rintro e w9 ⟨rfl, hb⟩; replace HB := zA (below_then HB.out HB.out.size hb); replace aa := zA (blk_keep aa.out hb); replace ae := zA (blk_keep ae.out hb); replace HM := zA (hasM_below HM.out hb); replace ab := zA (blk_keep ab.out hb); clear hb; clear t0 t1 t2 t3 t4 t5; have t0 : w9.cell? ⟨g10, 0, none⟩ = some (.int .i64 kd) := (blk_cell ab.out 0).trans rfl; have t1 : w9.cell? ⟨g10, 1, none⟩ = some (.int .i64 sa) := (blk_cell ab.out 1).trans rfl; have t2 : w9.cell? ⟨g10, 2, none⟩ = some (.int .i64 sk) := (blk_cell ab.out 2).trans rfl; have t3 : w9.cell? ⟨g10, 3, none⟩ = some (.int .i64 n0) := (blk_cell ab.out 3).trans rfl; have t4 : w9.cell? ⟨g10, 4, none⟩ = some (.int .i64 n1) := (blk_cell ab.out 4).trans rfl; have t5 : w9.cell? ⟨g10, 5, none⟩ = some (.int .i64 n2) := (blk_cell ab.out 5).trans rfl; rw [c]) | (go_at_call 47; refine (do47 gd gm M kd sa sk n0 n1 n2 _ ⟨ae.out, HM.out⟩ HKD.out).mono ?_; rintro e w12 ⟨rfl, hD, hg⟩; have n0_ := zA (blk_row aa.out hg N4M.out); have n1_ := zA (below_grown HB.out hg GM.out HB.out.size); clear aa HB ae HM ab t0 t1 t2 t3 t4 t5; have aa := n0_; have HB := n1_; have ae := zA hD.1; have HM := zA hD.2; clear n0_ n1_ hD hg))
      go_roundg g1
      case measure => omega
      case rel => exact ⟨k + 1, _, by go_num, by omega, by omega, HX, HM, ae, aa, HB⟩
     ·
      have e1 : ranF l0 l1 = ([], [], [], (k : Int), stepErr M kd sa sk n0 n1 n2) := by
       unfold ranF
       rw [if_neg (by omega), ← HRUN.out, if_neg c]
      have e2 := e1.symm.trans H.out
      simp only [Prod.mk.injEq] at e2
      obtain ⟨rfl, rfl, rfl, rfl, rfl⟩ := e2
      have cb : (stepErr M kd sa sk n0 n1 n2 == 0) = false := beq_eq_false_iff_ne.mpr c
      go_wp2_with (first | (go_at_call 46; refine (check46 gd gm M kd sa sk n0 n1 n2 _ ⟨ae.out, HM.out⟩).mono ?_; rintro e w9 ⟨rfl, hb⟩; replace HB := zA (below_then HB.out HB.out.size hb); replace aa := zA (blk_keep aa.out hb); replace ae := zA (blk_keep ae.out hb); replace HM := zA (hasM_below HM.out hb); replace ab := zA (blk_keep ab.out hb); clear hb; clear t0 t1 t2 t3 t4 t5; have z0 : w9.cell? ⟨g4, 0, none⟩ = some (.slice none 0 0) := (blk_cell aa.out 0).trans rfl; have z1 : w9.cell? ⟨g4, 1, none⟩ = some (.slice none 0 0) := (blk_cell aa.out 1).trans rfl; have z2 : w9.cell? ⟨g4, 2, none⟩ = some (.slice none 0 0) := (blk_cell aa.out 2).trans rfl; have zf0 := blk_frozen aa.out 0; have zf1 := blk_frozen aa.out 1; have zf2 := blk_frozen aa.out 2))
      refine bodyPost_ret (results_ctt rfl _ _ g4 28 #[.slice none 0 0, .slice none 0 0, .slice none 0 0] (0, 0) _ rfl ((blk_put (cs := #[.slice none 0 0, .slice none 0 0, .slice none 0 0]) (blk_put (cs := #[.slice none 0 0, .slice none 0 0, .slice none 0 0]) (blk_put (cs := #[.slice none 0 0, .slice none 0 0, .slice none 0 0]) aa.out 0 (.slice none 0 0) rfl) 1 (.slice none 0 0) rfl) 2 (.slice none 0 0) rfl)) Try.underlying28 rfl (by kernel_rfl)) rfl ?_
      exact ⟨_, _, _, rfl, Kd.R_nil _ _ _ _ _, Kd.R_nil _ _ _ _ _, Kd.R_nil _ _ _ _ _, (below_set (below_set (below_set HB.out af.out) af.out) af.out)⟩
    ·
     obtain rfl : k = l1.length := by omega
     have e0 := HRUN.out
     rw [List.drop_length] at e0
     have HRUN := zA e0
     clear e0
     have hlen := HM.out.len Try.underlying101 3
     have d0 : wr.cell? ⟨gd, 0, none⟩ = some (.map (some gm)) := (blk_cell ae.out 0).trans rfl
     have z0 : wr.cell? ⟨g4, 0, none⟩ = some (.slice none 0 0) := (blk_cell aa.out 0).trans rfl
     have z1 : wr.cell? ⟨g4, 1, none⟩ = some (.slice none 0 0) := (blk_cell aa.out 1).trans rfl
     have z2 : wr.cell? ⟨g4, 2, none⟩ = some (.slice none 0 0) := (blk_cell aa.out 2).trans rfl
     have zf0 := blk_frozen aa.out 0
     have zf1 := blk_frozen aa.out 1
     have zf2 := blk_frozen aa.out 2
     by_cases c2 : 30 < M.length
     ·
      have e1 : ranF l0 l1 = ([], [], [], (l1.length : Int), 5) := by
       unfold ranF
       rw [if_neg (by omega), ← HRUN.out]
       exact if_pos c2
      have e2 := e1.symm.trans H.out
      simp only [Prod.mk.injEq] at e2
      obtain ⟨rfl, rfl, rfl, rfl, rfl⟩ := e2
      have q2 : (30 : Int) < (M.length : Int) := by omega
      go_wp2
      refine bodyPost_ret (results_ctt rfl _ _ g4 28 #[.slice none 0 0, .slice none 0 0, .slice none 0 0] (0, 0) _ rfl ((blk_put (cs := #[.slice none 0 0, .slice none 0 0, .slice none 0 0]) (blk_put (cs := #[.slice none 0 0, .slice none 0 0, .slice none 0 0]) (blk_put (cs := #[.slice none 0 0, .slice none 0 0, .slice none 0 0]) aa.out 0 (.slice none 0 0) rfl) 1 (.slice none 0 0) rfl) 2 (.slice none 0 0) rfl)) Try.underlying28 rfl (by kernel_rfl)) rfl ?_
      exact ⟨_, _, _, rfl, Kd.R_nil _ _ _ _ _, Kd.R_nil _ _ _ _ _, Kd.R_nil _ _ _ _ _, (below_set (below_set (below_set HB.out af.out) af.out) af.out)⟩
     ·
      have q2 : ¬ (30 : Int) < (M.length : Int) := by omega
      have HML : Aside0 (M.length ≤ 30) := ⟨by omega⟩
      clear c2
      have HOK := zA (runL_ok (DeskOk.desk l0 l0.length) HRUN.out.symm)
      have e1 : ranF l0 l1 = (l0, (sortP (M.map (·.2))).map S108.f0, (sortP (M.map (·.2))).map S108.f1, (l1.length : Int), 0) := by
       unfold ranF
       rw [if_neg (by omega), ← HRUN.out]
       exact if_neg (by omega)
      have e2 := e1.symm.trans H.out
      simp only [Prod.mk.injEq] at e2
      obtain ⟨rfl, rfl, rfl, rfl, rfl⟩ := e2
      clear e1
      obtain ⟨W2, an, hRM, hg2, hsz2⟩ := HM.out.range Try.underlying101
      obtain ⟨gr, hgr⟩ : ∃ g_ : Nat, g_ = wr.heap.size := ⟨_, rfl⟩
      rw [← hgr] at an hRM
      have NGR : Aside0 (g4 ≠ gr) := ⟨by have := blk_lt aa.out; omega⟩
      have GR : Aside0 (w.heap.size ≤ gr) := ⟨by rw [hgr]; exact HB.out.size⟩
      clear hgr zf0 zf1 zf2 z0 z1 z2
      go_wp2_with (first | ((with_reducible refine gate_dst (N := 59) rfl ?_); refine event_run (v := .pointer (some ⟨gr, 0, none⟩)) (w1 := W2) rfl (by go_simp) ?_))
      have n0_ : Aside0 (W2.heap[g4]? = some (.cells #[.slice none 0 0, .slice none 0 0, .slice none 0 0] 28 (0, 0))) := ⟨(hg2.block g4 (blk_lt aa.out) (by simp)).trans aa.out⟩
      have n1_ : Aside0 (Below w.heap.size w W2) := ⟨below_then HB.out HB.out.size ⟨hg2.os, hg2.tape, hg2.output, hg2.size, fun i hi => hg2.block i hi (by simp)⟩⟩
      have LGM : Aside0 (gm < W2.heap.size) := ⟨hRM.has.lt⟩
      have LGR : Aside0 (gr < W2.heap.size) := ⟨hRM.lt⟩
      have LG4 : Aside0 (g4 < W2.heap.size) := ⟨blk_lt n0_.out⟩
      have HRM := zA hRM
      clear aa HB ae HM hlen d0 an hRM hg2 hsz2; have aa := n0_; have HB := n1_; clear n0_ n1_
      obtain ⟨B, hB⟩ : ∃ B_ : Nat, B_ = W2.heap.size := ⟨_, rfl⟩
      rw [← hB] at LGM LGR LG4
      have HBB : Aside0 (B ≤ W2.heap.size) := ⟨by omega⟩
      have HWB : Aside0 (w.heap.size ≤ B) := ⟨by rw [hB]; exact HB.out.size⟩
      clear hB
      have HX0 : Aside0 ((([] : List S108) ++ M.map (·.2)).Perm (M.map (·.2))) := ⟨List.Perm.refl _⟩
      have ai : Aside0 (Kd.R k108 108 W2 B (fun k_ => B ≤ k_) (.slice none 0 0) []) := ⟨Kd.R_nil _ _ _ _ _⟩
      go_loopg [12] M.length (fun kq v12 w' => ∃ (x : List S108) (left : PM), left.length ≤ kq ∧ Aside0 ((x ++ left.map (·.2)).Perm (M.map (·.2))) ∧ Aside0 (Kd.R k108 108 w' B (fun k_ => B ≤ k_) v12 x) ∧ Aside0 (RunsM w' ekP ev108 gm gr M left) ∧ Aside0 (w'.heap[g4]? = some (.cells #[.slice none 0 0, .slice none 0 0, .slice none 0 0] 28 (0, 0))) ∧ Aside0 (Below w.heap.size w w') ∧ Aside0 (B ≤ w'.heap.size))
      case atStart => exact ⟨[], M, Nat.le_refl _, HX0, ai, HRM, aa, HB, HBB⟩
      case round =>
       clear HX0 ai HRM aa HB HBB
       obtain ⟨x, left, hlk, HX, HO, HRM, aa, HB, HBB⟩ := hrel
       have HXL : Aside0 (x.length + left.length ≤ 30) := ⟨by have := HX.out.length_eq; have := HML.out; simp at *; omega⟩
       rcases HRM.out.next (P := Try.prog) 0 with ⟨hl, hrun⟩ | ⟨pp, left', w2, hperm, hrun, hRM, hg, hsz, hent⟩
       ·
        subst hl
        have hx := HX.out
        rw [List.map_nil, List.append_nil] at hx
        have HX := zA hx
        clear hx
        have HBC := zA (below_cutW HB.out HWB.out HBB.out)
        have HCB := zA (cutW_below HBB.out)
        have HSZ := zA (cutW_size HBB.out)
        have HF : Aside0 (Kd.C k61 (cutW wr B) A0 l0.length l0) := ⟨Kd.C_below ag.out HBC.out⟩
        have G4C : Aside0 ((cutW wr B).heap[g4]? = some (.cells #[.slice none 0 0, .slice none 0 0, .slice none 0 0] 28 (0, 0))) := ⟨(cutW_at LG4.out).trans aa.out⟩
        generalize cutW wr B = wc at HBC HCB HSZ HF G4C
        have HL1 : Aside0 (l0.length < 1000000) := ⟨by have := HLM.out; omega⟩
        have HL2 : Aside0 (x.length ≤ 1000000) := ⟨by have := HXL.out; omega⟩
        have e9 := HO.out
        rw [← HSZ.out] at e9
        have ao := zA e9
        clear e9
        go_wp2_with (first | ((with_reducible refine gate_dst (N := 60) rfl ?_); refine event_run (v := .tuple #[.bool false]) (w1 := wr) rfl (by go_simp) ?_) | (go_at_call 48; refine (patch48 A0 c0 l0 _ _ x wc _ HCB.out HF.out ah.out HL1.out HL2.out ao.out).mono ?_; rintro e w9 ⟨v0, v1, v2, d, rfl, hp, hs, ho0, ho1, ho2, hb⟩; rw [HSZ.out] at ho0 ho1 ho2; obtain rfl : d = sortP (M.map (·.2)) := sorted_eq ((hp.trans HX.out).trans (sortP_perm _).symm) hs (sortP_sorted _) (((hp.trans HX.out).map plc).nodup_iff.2 HOK.out.plcs); have n0_ := zA (below_base HBC.out (below_less hb HBC.out.size)); have n1_ := zA ((hb.block g4 (by rw [HSZ.out]; exact LG4.out)).trans G4C.out); have ai := zA ho0; have ak := zA ho1; have al := zA ho2; clear HB aa hp hs ho0 ho1 ho2 hb HO ao HRM HCB HF HBC G4C; have HB := n0_; have aa := n1_; clear n0_ n1_; obtain ⟨ns, hns⟩ : ∃ x_, x_ = (sortP (M.map (·.2))).map S108.f0 := ⟨_, rfl⟩; obtain ⟨os, hos⟩ : ∃ x_, x_ = (sortP (M.map (·.2))).map S108.f1 := ⟨_, rfl⟩; rw [← hns] at ak; rw [← hos] at al; have HNS := zA hns; have HOS := zA hos; clear hns hos; obtain ⟨B0, b0, rfl⟩ := Kd.R_slice ai.out; obtain ⟨B1, b1, rfl⟩ := Kd.R_slice ak.out; obtain ⟨B2, b2, rfl⟩ := Kd.R_slice al.out; have z0 : w9.cell? ⟨g4, 0, none⟩ = some (.slice none 0 0) := (blk_cell aa.out 0).trans rfl; have z1 : w9.cell? ⟨g4, 1, none⟩ = some (.slice none 0 0) := (blk_cell aa.out 1).trans rfl; have z2 : w9.cell? ⟨g4, 2, none⟩ = some (.slice none 0 0) := (blk_cell aa.out 2).trans rfl; have zf0 := blk_frozen aa.out 0; have zf1 := blk_frozen aa.out 1; have zf2 := blk_frozen aa.out 2))
        rw [← HNS.out, ← HOS.out]
        refine bodyPost_ret (results_ctt rfl _ _ g4 28 #[.slice B0 l0.length b0, .slice B1 ns.length b1, .slice B2 os.length b2] (0, 0) _ rfl ((blk_put (cs := #[.slice B0 l0.length b0, .slice B1 ns.length b1, .slice none 0 0]) (blk_put (cs := #[.slice B0 l0.length b0, .slice none 0 0, .slice none 0 0]) (blk_put (cs := #[.slice none 0 0, .slice none 0 0, .slice none 0 0]) aa.out 0 (.slice B0 l0.length b0) rfl) 1 (.slice B1 ns.length b1) rfl) 2 (.slice B2 os.length b2) rfl)) Try.underlying28 rfl (by kernel_rfl)) rfl ?_
        exact ⟨_, _, _, rfl, Kd.R_mono (Kd.R_far (p := ⟨g4, 2, none⟩) (Kd.R_far (p := ⟨g4, 1, none⟩) (Kd.R_far (p := ⟨g4, 0, none⟩) (Kd.R_types (Kd.R_lower ai.out HWB.out) aa.out (by decide)) (fun _ hk => hk.2) (.slice B0 l0.length b0)) (fun _ hk => hk.2) (.slice B1 ns.length b1)) (fun _ hk => hk.2) (.slice B2 os.length b2)) (fun _ hk => hk.1), Kd.R_mono (Kd.R_far (p := ⟨g4, 2, none⟩) (Kd.R_far (p := ⟨g4, 1, none⟩) (Kd.R_far (p := ⟨g4, 0, none⟩) (Kd.R_types (Kd.R_lower ak.out HWB.out) aa.out (by decide)) (fun _ hk => hk.2) (.slice B0 l0.length b0)) (fun _ hk => hk.2) (.slice B1 ns.length b1)) (fun _ hk => hk.2) (.slice B2 os.length b2)) (fun _ hk => hk.1), Kd.R_mono (Kd.R_far (p := ⟨g4, 2, none⟩) (Kd.R_far (p := ⟨g4, 1, none⟩) (Kd.R_far (p := ⟨g4, 0, none⟩) (Kd.R_types (Kd.R_lower al.out HWB.out) aa.out (by decide)) (fun _ hk => hk.2) (.slice B0 l0.length b0)) (fun _ hk => hk.2) (.slice B1 ns.length b1)) (fun _ hk => hk.2) (.slice B2 os.length b2)) (fun _ hk => hk.1), (below_set (below_set (below_set HB.out af.out) af.out) af.out)⟩
       ·
        obtain ⟨g1, rfl⟩ : ∃ g_, gk = g_ + 1 := ⟨gk - 1, by have := hperm.length_eq; simp at this; omega⟩
        obtain ⟨key, ⟨a0, a1, a2⟩, ⟨b0, b1⟩, ⟨e0, e1⟩⟩ := pp
        have hev : ev108 ⟨⟨a0, a1, a2⟩, ⟨b0, b1⟩, ⟨e0, e1⟩⟩ = .agg #[.int .i64 a0, .int .i64 a1, .int .i64 a2, .int .i64 b0, .bool b1, .int .i64 e0, .bool e1] := rfl
        rw [hev] at hrun hent
        clear hev; have n0_ := zA (blk_row aa.out hg NGR.out); have n1_ := zA (below_grown HB.out hg GR.out HB.out.size)
        have n2_ := zA (Kd.R_grown HO.out hg (fun k_ hk_ e => by injection e with e; have := LGR.out; omega))
        have n3_ := zA hRM
        have n4_ : Aside0 (B ≤ w2.heap.size) := ⟨by rw [hsz]; exact HBB.out⟩
        have HLL : Aside0 (left.length = left'.length + 1) := ⟨by have := hperm.length_eq; simpa using this⟩
        have n5_ : Aside0 (((x ++ [(⟨⟨a0, a1, a2⟩, ⟨b0, b1⟩, ⟨e0, e1⟩⟩ : S108)]) ++ left'.map (·.2)).Perm (M.map (·.2))) := ⟨by rw [List.append_assoc]; exact ((hperm.map (·.2)).symm.append_left x).trans HX.out⟩
        clear aa HB HO HRM HBB HX hg hRM hperm hsz; have aa := n0_; have HB := n1_; have HO := n2_; have HRM := n3_; have HBB := n4_; have HX := n5_; clear n0_ n1_ n2_ n3_ n4_ n5_
        go_upto_region 21 with (first | ((with_reducible refine gate_dst (N := 60) rfl ?_); refine event_run (v := .tuple #[.bool true, ekP key, .agg #[.int .i64 a0, .int .i64 a1, .int .i64 a2, .int .i64 b0, .bool b1, .int .i64 e0, .bool e1]]) (w1 := w2) rfl (by go_simp) ?_) | ((with_reducible refine gate_dst (N := 62) rfl ?_); refine event_run (v := .tuple #[ekP key, .agg #[.int .i64 a0, .int .i64 a1, .int .i64 a2, .int .i64 b0, .bool b1, .int .i64 e0, .bool e1]]) (w1 := w2) rfl (by go_simp) ?_) | ((with_reducible refine gate_dst (N := 14) rfl ?_); refine box_event ?hg (N := 14) ?hd (cs := #[.int .i64 0, .int .i64 0, .int .i64 0, .int .i64 0, .bool false, .int .i64 0, .bool false]) (t := 108) ?hr ?_; (case hd => rfl); (case hg => rfl); (case hr => first | (go_simp; done) | (go_simp; rfl)); intro g14 hg w14 hbox hb; have N4 : Aside0 (g4 ≠ g14) := ⟨by have := blk_lt aa.out; omega⟩; have NM : Aside0 (gm ≠ g14) := ⟨by have := LGM.out; have := HBB.out; omega⟩; have NR : Aside0 (gr ≠ g14) := ⟨by have := LGR.out; have := HBB.out; omega⟩; have GE : Aside0 (w.heap.size ≤ g14) := ⟨by rw [hg]; exact HB.out.size⟩; have HBG : Aside0 (B ≤ g14) := ⟨by rw [hg]; exact HBB.out⟩; have n0_ := zA (below_then HB.out HB.out.size hb); have n1_ := zA (blk_keep aa.out hb); have n2_ : Aside0 (Kd.R k108 108 w14 B (fun k_ => B ≤ k_ ∧ k_ < g14) _ x) := ⟨Kd.R_below (Kd.R_mono (Kd.R_bound HO.out) (fun k_ hk_ => ⟨hk_.1, by rw [hg]; exact hk_.2.2.1⟩)) hb⟩; have n3_ := zA (HRM.out.same (hb.block _ HRM.out.has.lt) (hb.block _ HRM.out.lt)); have n4_ : Aside0 (B ≤ w14.heap.size) := ⟨Nat.le_trans HBB.out hb.size⟩; have ac := zA hbox; clear HB aa HO HRM HBB hb hbox hg; have HB := n0_; have aa := n1_; have HO := n2_; have HRM := n3_; have HBB := n4_; clear n0_ n1_ n2_ n3_ n4_; have t0 : w14.cell? ⟨g14, 0, none⟩ = some (.int .i64 0) := (blk_cell ac.out 0).trans rfl; have t1 : w14.cell? ⟨g14, 1, none⟩ = some (.int .i64 0) := (blk_cell ac.out 1).trans rfl; have t2 : w14.cell? ⟨g14, 2, none⟩ = some (.int .i64 0) := (blk_cell ac.out 2).trans rfl; have t3 : w14.cell? ⟨g14, 3, none⟩ = some (.int .i64 0) := (blk_cell ac.out 3).trans rfl; have t4 : w14.cell? ⟨g14, 4, none⟩ = some (.bool false) := (blk_cell ac.out 4).trans rfl; have t5 : w14.cell? ⟨g14, 5, none⟩ = some (.int .i64 0) := (blk_cell ac.out 5).trans rfl; have t6 : w14.cell? ⟨g14, 6, none⟩ = some (.bool false) := (blk_cell ac.out 6).trans rfl; have tf0 := blk_frozen ac.out 0; have tf1 := blk_frozen ac.out 1; have tf2 := blk_frozen ac.out 2; have tf3 := blk_frozen ac.out 3; have tf4 := blk_frozen ac.out 4; have tf5 := blk_frozen ac.out 5; have tf6 := blk_frozen ac.out 6))
        clear t0 tf0 t1 tf1 t2 tf2 t3 tf3 t4 tf4 t5 tf5 t6 tf6
        have n0_ : Aside0 (((World.setCell (World.setCell (World.setCell (World.setCell (World.setCell (World.setCell (World.setCell w14 ⟨g14, 0, none⟩ (.int .i64 a0)) ⟨g14, 1, none⟩ (.int .i64 a1)) ⟨g14, 2, none⟩ (.int .i64 a2)) ⟨g14, 3, none⟩ (.int .i64 b0)) ⟨g14, 4, none⟩ (.bool b1)) ⟨g14, 5, none⟩ (.int .i64 e0)) ⟨g14, 6, none⟩ (.bool e1))).heap[g14]? = some (.cells #[.int .i64 a0, .int .i64 a1, .int .i64 a2, .int .i64 b0, .bool b1, .int .i64 e0, .bool e1] 108 (0, 0))) := ⟨(blk_put (cs := #[.int .i64 a0, .int .i64 a1, .int .i64 a2, .int .i64 b0, .bool b1, .int .i64 e0, .bool false]) (blk_put (cs := #[.int .i64 a0, .int .i64 a1, .int .i64 a2, .int .i64 b0, .bool b1, .int .i64 0, .bool false]) (blk_put (cs := #[.int .i64 a0, .int .i64 a1, .int .i64 a2, .int .i64 b0, .bool false, .int .i64 0, .bool false]) (blk_put (cs := #[.int .i64 a0, .int .i64 a1, .int .i64 a2, .int .i64 0, .bool false, .int .i64 0, .bool false]) (blk_put (cs := #[.int .i64 a0, .int .i64 a1, .int .i64 0, .int .i64 0, .bool false, .int .i64 0, .bool false]) (blk_put (cs := #[.int .i64 a0, .int .i64 0, .int .i64 0, .int .i64 0, .bool false, .int .i64 0, .bool false]) (blk_put (cs := #[.int .i64 0, .int .i64 0, .int .i64 0, .int .i64 0, .bool false, .int .i64 0, .bool false]) ac.out 0 (.int .i64 a0) rfl) 1 (.int .i64 a1) rfl) 2 (.int .i64 a2) rfl) 3 (.int .i64 b0) rfl) 4 (.bool b1) rfl) 5 (.int .i64 e0) rfl) 6 (.bool e1) rfl)⟩
        have n1_ : Aside0 (Below w.heap.size w (World.setCell (World.setCell (World.setCell (World.setCell (World.setCell (World.setCell (World.setCell w14 ⟨g14, 0, none⟩ (.int .i64 a0)) ⟨g14, 1, none⟩ (.int .i64 a1)) ⟨g14, 2, none⟩ (.int .i64 a2)) ⟨g14, 3, none⟩ (.int .i64 b0)) ⟨g14, 4, none⟩ (.bool b1)) ⟨g14, 5, none⟩ (.int .i64 e0)) ⟨g14, 6, none⟩ (.bool e1))) := ⟨(below_set (below_set (below_set (below_set (below_set (below_set (below_set HB.out GE.out) GE.out) GE.out) GE.out) GE.out) GE.out) GE.out)⟩
        have n2_ := zA ((blk_far (blk_far (blk_far (blk_far (blk_far (blk_far (blk_far aa.out (p := ⟨g14, 0, none⟩) N4.out (.int .i64 a0)) (p := ⟨g14, 1, none⟩) N4.out (.int .i64 a1)) (p := ⟨g14, 2, none⟩) N4.out (.int .i64 a2)) (p := ⟨g14, 3, none⟩) N4.out (.int .i64 b0)) (p := ⟨g14, 4, none⟩) N4.out (.bool b1)) (p := ⟨g14, 5, none⟩) N4.out (.int .i64 e0)) (p := ⟨g14, 6, none⟩) N4.out (.bool e1)))
        have n3_ := zA (Kd.R_mono (Kd.R_far (p := ⟨g14, 6, none⟩) (Kd.R_far (p := ⟨g14, 5, none⟩) (Kd.R_far (p := ⟨g14, 4, none⟩) (Kd.R_far (p := ⟨g14, 3, none⟩) (Kd.R_far (p := ⟨g14, 2, none⟩) (Kd.R_far (p := ⟨g14, 1, none⟩) (Kd.R_far (p := ⟨g14, 0, none⟩) HO.out (fun k_ hk_ => by have := hk_.2; show k_ ≠ g14; omega) (.int .i64 a0)) (fun k_ hk_ => by have := hk_.2; show k_ ≠ g14; omega) (.int .i64 a1)) (fun k_ hk_ => by have := hk_.2; show k_ ≠ g14; omega) (.int .i64 a2)) (fun k_ hk_ => by have := hk_.2; show k_ ≠ g14; omega) (.int .i64 b0)) (fun k_ hk_ => by have := hk_.2; show k_ ≠ g14; omega) (.bool b1)) (fun k_ hk_ => by have := hk_.2; show k_ ≠ g14; omega) (.int .i64 e0)) (fun k_ hk_ => by have := hk_.2; show k_ ≠ g14; omega) (.bool e1)) (fun k_ hk_ => hk_.1) : Kd.R k108 108 (World.setCell (World.setCell (World.setCell (World.setCell (World.setCell (World.setCell (World.setCell w14 ⟨g14, 0, none⟩ (.int .i64 a0)) ⟨g14, 1, none⟩ (.int .i64 a1)) ⟨g14, 2, none⟩ (.int .i64 a2)) ⟨g14, 3, none⟩ (.int .i64 b0)) ⟨g14, 4, none⟩ (.bool b1)) ⟨g14, 5, none⟩ (.int .i64 e0)) ⟨g14, 6, none⟩ (.bool e1)) B (fun k_ => B ≤ k_) _ x)
        have n4_ := zA ((RunsM.same (RunsM.same (RunsM.same (RunsM.same (RunsM.same (RunsM.same (RunsM.same HRM.out (Below.heap_setCell _ ⟨g14, 0, none⟩ (.int .i64 a0) _ NM.out) (Below.heap_setCell _ ⟨g14, 0, none⟩ (.int .i64 a0) _ NR.out)) (Below.heap_setCell _ ⟨g14, 1, none⟩ (.int .i64 a1) _ NM.out) (Below.heap_setCell _ ⟨g14, 1, none⟩ (.int .i64 a1) _ NR.out)) (Below.heap_setCell _ ⟨g14, 2, none⟩ (.int .i64 a2) _ NM.out) (Below.heap_setCell _ ⟨g14, 2, none⟩ (.int .i64 a2) _ NR.out)) (Below.heap_setCell _ ⟨g14, 3, none⟩ (.int .i64 b0) _ NM.out) (Below.heap_setCell _ ⟨g14, 3, none⟩ (.int .i64 b0) _ NR.out)) (Below.heap_setCell _ ⟨g14, 4, none⟩ (.bool b1) _ NM.out) (Below.heap_setCell _ ⟨g14, 4, none⟩ (.bool b1) _ NR.out)) (Below.heap_setCell _ ⟨g14, 5, none⟩ (.int .i64 e0) _ NM.out) (Below.heap_setCell _ ⟨g14, 5, none⟩ (.int .i64 e0) _ NR.out)) (Below.heap_setCell _ ⟨g14, 6, none⟩ (.bool e1) _ NM.out) (Below.heap_setCell _ ⟨g14, 6, none⟩ (.bool e1) _ NR.out)))
        have n5_ : Aside0 (B ≤ ((World.setCell (World.setCell (World.setCell (World.setCell (World.setCell (World.setCell (World.setCell w14 ⟨g14, 0, none⟩ (.int .i64 a0)) ⟨g14, 1, none⟩ (.int .i64 a1)) ⟨g14, 2, none⟩ (.int .i64 a2)) ⟨g14, 3, none⟩ (.int .i64 b0)) ⟨g14, 4, none⟩ (.bool b1)) ⟨g14, 5, none⟩ (.int .i64 e0)) ⟨g14, 6, none⟩ (.bool e1))).heap.size) := ⟨by simpa [World.setCell] using HBB.out⟩
        clear ac HB aa HO HRM HBB; generalize (World.setCell (World.setCell (World.setCell (World.setCell (World.setCell (World.setCell (World.setCell w14 ⟨g14, 0, none⟩ (.int .i64 a0)) ⟨g14, 1, none⟩ (.int .i64 a1)) ⟨g14, 2, none⟩ (.int .i64 a2)) ⟨g14, 3, none⟩ (.int .i64 b0)) ⟨g14, 4, none⟩ (.bool b1)) ⟨g14, 5, none⟩ (.int .i64 e0)) ⟨g14, 6, none⟩ (.bool e1)) = w15 at n0_ n1_ n2_ n3_ n4_ n5_ ⊢; have ac := n0_; have HB := n1_; have aa := n2_; have HO := n3_; have HRM := n4_; have HBB := n5_; clear n0_ n1_ n2_ n3_ n4_ n5_
        have t0 : w15.cell? ⟨g14, 0, none⟩ = some (.int .i64 a0) := (blk_cell ac.out 0).trans rfl
        have t1 : w15.cell? ⟨g14, 1, none⟩ = some (.int .i64 a1) := (blk_cell ac.out 1).trans rfl
        have t2 : w15.cell? ⟨g14, 2, none⟩ = some (.int .i64 a2) := (blk_cell ac.out 2).trans rfl
        have t3 : w15.cell? ⟨g14, 3, none⟩ = some (.int .i64 b0) := (blk_cell ac.out 3).trans rfl
        have t4 : w15.cell? ⟨g14, 4, none⟩ = some (.bool b1) := (blk_cell ac.out 4).trans rfl
        have t5 : w15.cell? ⟨g14, 5, none⟩ = some (.int .i64 e0) := (blk_cell ac.out 5).trans rfl
        have t6 : w15.cell? ⟨g14, 6, none⟩ = some (.bool e1) := (blk_cell ac.out 6).trans rfl
        go_wp2_with (first | ((with_reducible refine gate_builtin (b := .append) (xs := #[.tmp 64, .tmp 66]) rfl ?_); at_builtin; refine Kd.R_append k108 (w0 := w15) B rfl (.tmp 64) (.tmp 66) 104 108 (.agg #[.int .i64 0, .int .i64 0, .int .i64 0, .int .i64 0, .bool false, .int .i64 0, .bool false]) 56 rfl Try.underlying104 info108 rfl (by decide) (by omega) _ x (⟨⟨a0, a1, a2⟩, ⟨b0, b1⟩, ⟨e0, e1⟩⟩ : S108) [.int .i64 a0, .int .i64 a1, .int .i64 a2, .int .i64 b0, .bool b1, .int .i64 e0, .bool e1] (fun k_ => B ≤ k_) (fun _ => False) rfl rfl ?aP (fun _ hk => hk.elim) ?aF ?aO ?aB ?aS ?aL ?_; (case aP => exact k108_mkM _ _ _ (⟨⟨a0, a1, a2⟩, ⟨b0, b1⟩, ⟨e0, e1⟩⟩ : S108)); (case aB => exact Below.refl _ _); (case aF => exact (fun k_ hk_ => Nat.le_trans HBB.out hk_)); (case aO => exact HO.out); (case aS => exact HBB.out); (case aL => have := HXL.out; omega); intro v16 w16 ho hb hg hat; replace HB := zA (below_base HB.out (below_less hb HWB.out)); replace aa := zA ((hb.block g4 LG4.out).trans aa.out); replace HO := zA ho; replace HRM := zA (HRM.out.same (hb.block _ LGM.out) (hb.block _ LGR.out)); replace HBB := zA (Nat.le_trans HBB.out hb.size); clear ho hb hg hat ac t0 t1 t2 t3 t4 t5 t6))
        go_roundg g1
        case measure => have := HLL.out; omega
        case rel => exact ⟨_, left', by have := HLL.out; omega, HX, HO, HRM, aa, HB, HBB⟩
 ·
  replace H := zA (Option.some.inj ((if_neg c0b).symm.trans H.out))
  have e2 := H.out
  simp only [Prod.mk.injEq] at e2
  obtain ⟨rfl, rfl, rfl, rfl, rfl⟩ := e2
  have q1 : (t0 == 0) = false := beq_eq_false_iff_ne.mpr c0b
  go_wp2_with (first | (go_at_call 19; refine (edit_Check.calls k A0 c0 l0 _ _ (Kd.C_below ag.out HB.out) ah.out A0_.out).mono ?_; rintro e w9 ⟨rfl, hb⟩; replace HB := zA (below_then HB.out HB.out.size hb); replace aa := zA (blk_keep aa.out hb); clear hb; have z0 : w9.cell? ⟨g4, 0, none⟩ = some (.slice none 0 0) := (blk_cell aa.out 0).trans rfl; have z1 : w9.cell? ⟨g4, 1, none⟩ = some (.slice none 0 0) := (blk_cell aa.out 1).trans rfl; have z2 : w9.cell? ⟨g4, 2, none⟩ = some (.slice none 0 0) := (blk_cell aa.out 2).trans rfl; have zf0 := blk_frozen aa.out 0; have zf1 := blk_frozen aa.out 1; have zf2 := blk_frozen aa.out 2))
  refine bodyPost_ret (results_ctt rfl _ _ g4 28 #[.slice none 0 0, .slice none 0 0, .slice none 0 0] (0, 0) _ rfl ((blk_put (cs := #[.slice none 0 0, .slice none 0 0, .slice none 0 0]) (blk_put (cs := #[.slice none 0 0, .slice none 0 0, .slice none 0 0]) (blk_put (cs := #[.slice none 0 0, .slice none 0 0, .slice none 0 0]) aa.out 0 (.slice none 0 0) rfl) 1 (.slice none 0 0) rfl) 2 (.slice none 0 0) rfl)) Try.underlying28 rfl (by kernel_rfl)) rfl ?_
  exact ⟨_, _, _, rfl, Kd.R_nil _ _ _ _ _, Kd.R_nil _ _ _ _ _, Kd.R_nil _ _ _ _ _, (below_set (below_set (below_set HB.out af.out) af.out) af.out)⟩
end Go.Proofs.Ytehpbmdphfbooaa.P
end
