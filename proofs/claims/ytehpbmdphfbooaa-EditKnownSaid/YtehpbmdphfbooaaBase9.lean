/- Words and contracts for a claim. -/
import Derived.Test.YtehpbmdphfbooaaBase8
import Derived.Shelf.SlSortCmp.QuietGrown
section
namespace Go.Proofs.Ytehpbmdphfbooaa.P
open Go.Shelf Go.RowKit Go.Lib Go.Sort Go.Proofs Go.Proofs.YtehpbmdphfbooaaW.PrintWords Go.Proofs.YtehpbmdphfbooaaW.PrintLast Go.Proofs.YtehpbmdphfbooaaW.PrintMore
set_option linter.unusedVariables false
set_option linter.unusedSimpArgs false
def cmpI (x y : Int) : Int := if x < y then -1 else if x > y then 1 else 0
theorem cmpI_f (x y : Int) : cmp_Compare_int.f x y = some (cmpI x y) := by
  have e : ∀ z, cmp_isNaN_int.f z = some false := fun z => by unfold cmp_isNaN_int.f; simp
  unfold cmp_Compare_int.f cmpI
  rw [e, e]
  show (if false = true then (if false = true then some (0 : Int) else some (-1)) else if false = true then some 1 else if x < y then some (-1) else if x > y then some 1 else some 0) = _
  rw [if_neg (by decide), if_neg (by decide)]
  by_cases c : x < y
  · rw [if_pos c, if_pos c]
  · rw [if_neg c, if_neg c]
    by_cases c2 : x > y
    · rw [if_pos c2, if_pos c2]
    · rw [if_neg c2, if_neg c2]
def orI (a b : Int) : Int := if a = 0 then b else a
theorem orI_f (k : Nat) (a b : Int) : cmp_Or_int.f (k + 3) [a, b] = some (orI a b) := by
  have w1 : wrap64 ((0 : Int) + 1) = 1 := by unfold wrap64; omega
  have w2 : wrap64 ((1 : Int) + 1) = 2 := by unfold wrap64; omega
  have r0 : rd [a, b] 0 = a := rfl
  have r1 : rd [a, b] 1 = b := rfl
  unfold cmp_Or_int.f orI
  show cmp_Or_int.l0 (k + 2 + 1) 0 [a, b] ((2 : Nat) : Int) 0 = _
  rw [cmp_Or_int.l0, if_pos (by decide), if_pos (by decide), if_pos (by simp), r0, w1]
  by_cases h : a = 0
  · rw [if_pos h, if_pos h]
    show cmp_Or_int.l0 (k + 1 + 1) 0 [a, b] ((2 : Nat) : Int) 1 = _
    rw [cmp_Or_int.l0, if_pos (by decide), if_pos (by decide), if_pos (by simp), r1, w2]
    by_cases h2 : b = 0
    · rw [if_pos h2, cmp_Or_int.l0, if_neg (by decide), h2]
    · rw [if_neg h2]
  · rw [if_neg h, if_neg h]
def cmpP (a b : Int × Int) : Int := orI (cmpI a.1 b.1) (cmpI a.2 b.2)
def Up (w w' : World) : Prop := ∃ q os', w' = grow (w.drewN q) os'
theorem up_refl (w : World) : Up w w := ⟨0, #[], rfl⟩
theorem up_drewN {w w' : World} (h : Up w w') (n : Nat) : Up w (w'.drewN n) := by
  obtain ⟨q, os, rfl⟩ := h
  exact ⟨q + n, os, by show grow ((w.drewN q).drewN n) os = _; rw [World.drewN_drewN]⟩
theorem up_drew {w w' : World} (h : Up w w') : Up w w'.drew := up_drewN h 1
theorem up_alloc {w w' : World} (h : Up w w') (o : Obj) : Up w (w'.alloc o) := by
  obtain ⟨q, os, rfl⟩ := h
  exact ⟨q, os ++ #[o], by rw [alloc_eq_grow, grow_grow]⟩
theorem up_trans {w w' w'' : World} (h : Up w w') (k : Up w' w'') : Up w w'' := by
  obtain ⟨q, os, rfl⟩ := h
  obtain ⟨q', os', rfl⟩ := k
  exact ⟨q + q', os ++ os', by show grow (grow ((w.drewN q).drewN q') os) os' = _; rw [grow_grow, World.drewN_drewN]⟩
set_option maxHeartbeats 2000000 in
set_option maxRecDepth 100000 in
theorem place52 (a b c : Int) (W : World) : Calls Try.prog 52 #[.agg #[.int .i64 a, .int .i64 b, .int .i64 c]] W fun e w' => e = .returned (.agg #[.int .i64 a, .int .i64 b]) ∧ Up W w' := by
  have hu61 := Try.underlying61
  have hu106 := Try.underlying106
  go_enter Try.func52, Try.ntmps52
  go_wp2
  refine bodyPost_ret (v := .agg #[.int .i64 a, .int .i64 b]) (by simp [results, Try.results52, go_sem]) rfl ⟨rfl, up_alloc (up_alloc (up_refl W) _) _⟩
theorem two_C (W : World) (x y : Int) : Kd.C (Kd.int .i64) (W.alloc (.cells #[.int .i64 x, .int .i64 y] 3)) (some ⟨W.heap.size, 0, none⟩) 2 [x, y] := by
  refine ⟨rfl, by omega, fun _ => ⟨_, rfl, fun j p hp => ?_⟩⟩
  match j, hp with
  | 0, hp =>
    obtain rfl := Option.some.inj hp
    refine ⟨[.int .i64 x], rfl, rfl, fun i u hu => ?_⟩
    match i, hu with
    | 0, hu => obtain rfl := Option.some.inj hu; show (W.alloc _).cell? ⟨W.heap.size, 0, none⟩ = _; simp
  | 1, hp =>
    obtain rfl := Option.some.inj hp
    refine ⟨[.int .i64 y], rfl, rfl, fun i u hu => ?_⟩
    match i, hu with
    | 0, hu => obtain rfl := Option.some.inj hu; show (W.alloc _).cell? ⟨W.heap.size, 1, none⟩ = _; simp
theorem or91 (W : World) (x y : Int) (c : Nat) (hc : 2 ≤ c) : Calls Try.prog 91 #[.slice (some ⟨W.heap.size, 0, none⟩) 2 c] (W.alloc (.cells #[.int .i64 x, .int .i64 y] 3)) fun e w' => e = .returned (.int .i64 (orI x y)) ∧ Drawn0 (W.alloc (.cells #[.int .i64 x, .int .i64 y] 3)) w' :=
  cmp_Or_int.calls 3 _ c [x, y] _ _ (two_C W x y) hc (orI_f 0 x y)
def comp53.T1 : Bool × List (List Nat × List Nat) := (true, [([], []), ([0], [0]), ([], []), ([2], [2]), ([1, 3], [1, 3]), ([], []), ([5], [5]), ([], []), ([7], [7]), ([6, 8, 4], [6, 8]), ([4, 9], [4, 9]), ([10, 9], [10]), ([11, 11, 0, 1, 2, 3, 4, 5, 6, 7, 8, 9, 10, 11], [11])])
def comp53.B1 : List Nat := [0, 1, 0, 4, 15, 0, 32, 0, 128, 511, 1023, 2047, 4095]
theorem comp53.tab1 : rtab .any (opsOf Try.f53 1) = comp53.T1 := by kernel_rfl
theorem comp53.bits1 : waitsOk comp53.T1.2 comp53.B1 = true := by kernel_rfl
set_option maxHeartbeats 4000000 in
set_option maxRecDepth 100000 in
theorem comp53 (a b c d : Int) (W : World) : Calls Try.prog 53 #[.agg #[.int .i64 a, .int .i64 b], .agg #[.int .i64 c, .int .i64 d]] W fun e w' => e = .returned (.int .i64 (cmpP (a, b) (c, d))) ∧ Up W w' := by
 have mixed : Try.prog.follows .mixedOrders = true := by kernel_rfl
 have hu106 := Try.underlying106
 have H1 := fun W => cmp_Compare_int.calls a c _ W (cmpI_f a c)
 have H2 := fun W => cmp_Compare_int.calls b d _ W (cmpI_f b d)
 have H3 := fun W => or91 W (cmpI a c) (cmpI b d) 2 (Nat.le_refl _)
 show Calls _ _ _ _ fun e w' => e = .returned (.int .i64 (orI (cmpI a c) (cmpI b d))) ∧ _
 generalize orI (cmpI a c) (cmpI b d) = r at H3 ⊢; generalize cmpI a c = r1 at H1 H3; generalize cmpI b d = r2 at H2 H3
 go_enter Try.func53, Try.ntmps53
 go_upto_region 1 with (fail)
 have HU := zA (up_alloc (up_alloc (up_refl W) (.cells #[.int .i64 a, .int .i64 b] 106)) (.cells #[.int .i64 c, .int .i64 d] 106))
 have HC : Aside0 (((W.alloc (.cells #[.int .i64 a, .int .i64 b] 106)).alloc (.cells #[.int .i64 c, .int .i64 d] 106)).cell? ⟨W.heap.size, 0, none⟩ = some (.int .i64 a) ∧ ((W.alloc (.cells #[.int .i64 a, .int .i64 b] 106)).alloc (.cells #[.int .i64 c, .int .i64 d] 106)).cell? ⟨W.heap.size, 1, none⟩ = some (.int .i64 b) ∧ ((W.alloc (.cells #[.int .i64 a, .int .i64 b] 106)).alloc (.cells #[.int .i64 c, .int .i64 d] 106)).cell? ⟨W.heap.size + 1, 0, none⟩ = some (.int .i64 c) ∧ ((W.alloc (.cells #[.int .i64 a, .int .i64 b] 106)).alloc (.cells #[.int .i64 c, .int .i64 d] 106)).cell? ⟨W.heap.size + 1, 1, none⟩ = some (.int .i64 d)) := ⟨by simp⟩
 obtain ⟨g2, hg2⟩ : ∃ g_ : Nat, g_ = W.heap.size := ⟨_, rfl⟩
 obtain ⟨g3, hg3⟩ : ∃ g_ : Nat, g_ = g2 + 1 := ⟨_, rfl⟩
 rw [← hg2, ← hg3] at HC ⊢
 clear hg3 hg2; generalize (W.alloc (.cells #[.int .i64 a, .int .i64 b] 106)).alloc (.cells #[.int .i64 c, .int .i64 d] 106) = W1 at HU HC ⊢
 refine start_ (n := 13) (S := fun w' => w'.cell? ⟨g2, 0, none⟩ = some (.int .i64 a) ∧ w'.cell? ⟨g2, 1, none⟩ = some (.int .i64 b) ∧ w'.cell? ⟨g3, 0, none⟩ = some (.int .i64 c) ∧ w'.cell? ⟨g3, 1, none⟩ = some (.int .i64 d)) (ds := []) #[false, false, false, false, false, false, false, false, false, false, false, false, false] (by kernel_rfl) rfl rfl ⟨HC.out.1, HC.out.2.1, HC.out.2.2.1, HC.out.2.2.2⟩ (fun hHeld => ?_); refine with_tabW comp53.tab1 comp53.bits1 (fun HT_ HW_ => ?_)
 replace HU := zA (up_drew HU.out)
 generalize W1.drew = W2 at HU hHeld ⊢
 refine pureQ 0 (some 5) HT_ ?_
 refine pureQ 2 (some 7) HT_ ?_
 refine pureQ 5 (some 10) HT_ ?_
 refine pureQ 7 (some 12) HT_ ?_
 refine takeQ (v := ?_) (a' := ?_) 1 (some 6) HT_ HW_ hHeld ?_ ?_ ?_
 rotate_left
 ·
  rintro w' ⟨s0, s1, s2, s3⟩
  go_simp
  with_reducible rfl
 rotate_left
 ·
  exact putQ
 refine takeQ (v := ?_) (a' := ?_) 3 (some 8) HT_ HW_ hHeld ?_ ?_ ?_
 rotate_left
 ·
  rintro w' ⟨s0, s1, s2, s3⟩
  go_simp
  with_reducible rfl
 rotate_left
 ·
  exact putQ
 refine takeQ (v := ?_) (a' := ?_) 6 (some 11) HT_ HW_ hHeld ?_ ?_ ?_
 rotate_left
 ·
  rintro w' ⟨s0, s1, s2, s3⟩
  go_simp
  with_reducible rfl
 rotate_left
 ·
  exact putQ
 refine takeQ (v := ?_) (a' := ?_) 8 (some 13) HT_ HW_ hHeld ?_ ?_ ?_
 rotate_left
 ·
  rintro w' ⟨s0, s1, s2, s3⟩
  go_simp
  with_reducible rfl
 rotate_left
 ·
  exact putQ
 refine one_ (i := 4) (N := (some 9)) #[true, true, true, true, true, true, true, true, true, false, false, false, false] rfl rfl (one_of HT_.out (by kernel_rfl)) (by decide) (fun K hK => ?_)
 refine goes_ Try.func92 (by kernel_rfl) rfl #[.int .i64 a, .int .i64 c] (by rfl) rfl rfl (by (try simp only [List.map_toArray, List.map_cons, List.map_nil]); first | done | rfl) ?_
 refine (H1 _).mono ?_
 rintro e w' ⟨rfl, n1, rfl⟩
 refine ⟨_, rfl, ?_⟩
 refine hK.out _ _ ⟨hHeld.1, hHeld.2.1, hHeld.2.2.1, hHeld.2.2.2⟩ (fun hHeld => ?_)
 clear hK K
 replace HU := zA (up_drewN HU.out n1)
 refine normQ ?_
 generalize W2.drewN n1 = W3 at HU hHeld ⊢
 refine one_ (i := 9) (N := (some 14)) #[true, true, true, true, true, true, true, true, true, true, false, false, false] rfl rfl (one_of HT_.out (by kernel_rfl)) (by decide) (fun K hK => ?_)
 refine goes_ Try.func92 (by kernel_rfl) rfl #[.int .i64 b, .int .i64 d] (by rfl) rfl rfl (by (try simp only [List.map_toArray, List.map_cons, List.map_nil]); first | done | rfl) ?_
 refine (H2 _).mono ?_
 rintro e w' ⟨rfl, n1, rfl⟩
 refine ⟨_, rfl, ?_⟩
 refine hK.out _ _ ⟨hHeld.1, hHeld.2.1, hHeld.2.2.1, hHeld.2.2.2⟩ (fun hHeld => ?_)
 clear hK K
 replace HU := zA (up_drewN HU.out n1)
 refine normQ ?_
 generalize W3.drewN n1 = W4 at HU hHeld ⊢
 refine one_ (i := 10) (N := (some 15)) #[true, true, true, true, true, true, true, true, true, true, true, false, false] rfl rfl (one_of HT_.out (by kernel_rfl)) (by decide) (fun K hK => ?_)
 refine value_ (v := .slice (some ⟨W4.heap.size, 0, none⟩) 2 2) (w1 := W4.alloc (.cells #[.int .i64 r1, .int .i64 r2] 3)) (by rfl) rfl (by first | (go_simp; done) | (go_simp; rfl)) ?_
 refine hK.out _ _ ⟨Lib.cell?_alloc_some _ hHeld.1, Lib.cell?_alloc_some _ hHeld.2.1, Lib.cell?_alloc_some _ hHeld.2.2.1, Lib.cell?_alloc_some _ hHeld.2.2.2⟩ (fun hHeld => ?_)
 clear hK K
 replace HU := zA (up_alloc HU.out (.cells #[.int .i64 r1, .int .i64 r2] 3))
 refine normQ ?_
 refine one_ (i := 11) (N := (some 16)) #[true, true, true, true, true, true, true, true, true, true, true, true, false] rfl rfl (one_of HT_.out (by kernel_rfl)) (by decide) (fun K hK => ?_)
 refine goes_ Try.func91 (by kernel_rfl) rfl #[.slice (some ⟨W4.heap.size, 0, none⟩) 2 2] (by rfl) rfl rfl (by (try simp only [List.map_toArray, List.map_cons, List.map_nil]); first | done | rfl) ?_
 refine (H3 _).mono ?_
 rintro e w' ⟨rfl, n1, rfl⟩
 refine ⟨_, rfl, ?_⟩
 refine hK.out _ _ ⟨hHeld.1, hHeld.2.1, hHeld.2.2.1, hHeld.2.2.2⟩ (fun hHeld => ?_)
 clear hK K
 replace HU := zA (up_drewN HU.out n1)
 refine normQ ?_
 refine pureQ 12 (some 4) HT_ ?_
 refine done_ (done_of HT_.out (by kernel_rfl)) ?_
 go_wp2
 go_ret
 exact ⟨rfl, HU.out⟩
end Go.Proofs.Ytehpbmdphfbooaa.P
end
section
namespace Go.Proofs.Ytehpbmdphfbooaa.P
open Go.Shelf Go.RowKit Go.Lib Go.Sort Go.Proofs Go.Proofs.YtehpbmdphfbooaaW.PrintWords Go.Proofs.YtehpbmdphfbooaaW.PrintLast Go.Proofs.YtehpbmdphfbooaaW.PrintMore
set_option linter.unusedVariables false
set_option linter.unusedSimpArgs false
theorem cell_up {W W' : World} {p : Addr} {v : Value} (h : Up W W') (hc : W.cell? p = some v) : W'.cell? p = some v := by
  obtain ⟨q, os, rfl⟩ := h
  have := World.block_lt_of_cell? W _ hc
  rw [cell?_grow _ _ _ (by simpa using this)]
  exact hc
def cmp86.T1 : Bool × List (List Nat × List Nat) := (true, [([], []), ([0], [0]), ([1], [1]), ([], []), ([3], [3]), ([4, 2], [4]), ([2, 5, 5], [2, 5]), ([6, 6, 0, 1, 2, 3, 4, 5, 6], [6])])
def cmp86.B1 : List Nat := [0, 1, 3, 0, 8, 31, 63, 127]
theorem cmp86.tab1 : rtab .any (opsOf Try.f86 1) = cmp86.T1 := by kernel_rfl
theorem cmp86.bits1 : waitsOk cmp86.T1.2 cmp86.B1 = true := by kernel_rfl
def cf108 (x y : S108) : Int := cmpP (x.f0.f0, x.f0.f1) (y.f0.f0, y.f0.f1)
set_option maxHeartbeats 4000000 in
set_option maxRecDepth 100000 in
theorem cmp86 (a0 a1 a2 a3 a5 : Int) (a4 a6 : Bool) (b0 b1 b2 b3 b5 : Int) (b4 b6 : Bool) (W : World) : Calls Try.prog 86 #[.agg #[.int .i64 a0, .int .i64 a1, .int .i64 a2, .int .i64 a3, .bool a4, .int .i64 a5, .bool a6], .agg #[.int .i64 b0, .int .i64 b1, .int .i64 b2, .int .i64 b3, .bool b4, .int .i64 b5, .bool b6]] W fun e w' => e = .returned (.int .i64 (cmpP (a0, a1) (b0, b1))) ∧ Up W w' := by
 have mixed : Try.prog.follows .mixedOrders = true := by kernel_rfl
 have hu108 := Try.underlying108
 have hu61 := Try.underlying61
 go_enter Try.func86, Try.ntmps86
 go_upto_region 1 with (fail)
 have HU := zA (up_alloc (up_alloc (up_refl W) (.cells #[.int .i64 a0, .int .i64 a1, .int .i64 a2, .int .i64 a3, .bool a4, .int .i64 a5, .bool a6] 108)) (.cells #[.int .i64 b0, .int .i64 b1, .int .i64 b2, .int .i64 b3, .bool b4, .int .i64 b5, .bool b6] 108))
 have HC : Aside0 (((W.alloc (.cells #[.int .i64 a0, .int .i64 a1, .int .i64 a2, .int .i64 a3, .bool a4, .int .i64 a5, .bool a6] 108)).alloc (.cells #[.int .i64 b0, .int .i64 b1, .int .i64 b2, .int .i64 b3, .bool b4, .int .i64 b5, .bool b6] 108)).cell? ⟨W.heap.size, 0, none⟩ = some (.int .i64 a0) ∧ ((W.alloc (.cells #[.int .i64 a0, .int .i64 a1, .int .i64 a2, .int .i64 a3, .bool a4, .int .i64 a5, .bool a6] 108)).alloc (.cells #[.int .i64 b0, .int .i64 b1, .int .i64 b2, .int .i64 b3, .bool b4, .int .i64 b5, .bool b6] 108)).cell? ⟨W.heap.size, 1, none⟩ = some (.int .i64 a1) ∧ ((W.alloc (.cells #[.int .i64 a0, .int .i64 a1, .int .i64 a2, .int .i64 a3, .bool a4, .int .i64 a5, .bool a6] 108)).alloc (.cells #[.int .i64 b0, .int .i64 b1, .int .i64 b2, .int .i64 b3, .bool b4, .int .i64 b5, .bool b6] 108)).cell? ⟨W.heap.size, 2, none⟩ = some (.int .i64 a2) ∧ ((W.alloc (.cells #[.int .i64 a0, .int .i64 a1, .int .i64 a2, .int .i64 a3, .bool a4, .int .i64 a5, .bool a6] 108)).alloc (.cells #[.int .i64 b0, .int .i64 b1, .int .i64 b2, .int .i64 b3, .bool b4, .int .i64 b5, .bool b6] 108)).cell? ⟨W.heap.size + 1, 0, none⟩ = some (.int .i64 b0) ∧ ((W.alloc (.cells #[.int .i64 a0, .int .i64 a1, .int .i64 a2, .int .i64 a3, .bool a4, .int .i64 a5, .bool a6] 108)).alloc (.cells #[.int .i64 b0, .int .i64 b1, .int .i64 b2, .int .i64 b3, .bool b4, .int .i64 b5, .bool b6] 108)).cell? ⟨W.heap.size + 1, 1, none⟩ = some (.int .i64 b1) ∧ ((W.alloc (.cells #[.int .i64 a0, .int .i64 a1, .int .i64 a2, .int .i64 a3, .bool a4, .int .i64 a5, .bool a6] 108)).alloc (.cells #[.int .i64 b0, .int .i64 b1, .int .i64 b2, .int .i64 b3, .bool b4, .int .i64 b5, .bool b6] 108)).cell? ⟨W.heap.size + 1, 2, none⟩ = some (.int .i64 b2)) := ⟨by simp⟩
 obtain ⟨g2, hg2⟩ : ∃ g_ : Nat, g_ = W.heap.size := ⟨_, rfl⟩
 obtain ⟨g3, hg3⟩ : ∃ g_ : Nat, g_ = g2 + 1 := ⟨_, rfl⟩
 rw [← hg2, ← hg3] at HC ⊢
 clear hg3 hg2; generalize ((W.alloc (.cells #[.int .i64 a0, .int .i64 a1, .int .i64 a2, .int .i64 a3, .bool a4, .int .i64 a5, .bool a6] 108)).alloc (.cells #[.int .i64 b0, .int .i64 b1, .int .i64 b2, .int .i64 b3, .bool b4, .int .i64 b5, .bool b6] 108)) = W1 at HU HC ⊢
 refine start_ (n := 8) (S := fun w' => w'.cell? ⟨g2, 0, none⟩ = some (.int .i64 a0) ∧ w'.cell? ⟨g2, 1, none⟩ = some (.int .i64 a1) ∧ w'.cell? ⟨g2, 2, none⟩ = some (.int .i64 a2) ∧ w'.cell? ⟨g3, 0, none⟩ = some (.int .i64 b0) ∧ w'.cell? ⟨g3, 1, none⟩ = some (.int .i64 b1) ∧ w'.cell? ⟨g3, 2, none⟩ = some (.int .i64 b2)) (ds := []) #[false, false, false, false, false, false, false, false] (by kernel_rfl) rfl rfl HC.out (fun hHeld => ?_); refine with_tabW cmp86.tab1 cmp86.bits1 (fun HT_ HW_ => ?_)
 replace HU := zA (up_drew HU.out)
 generalize W1.drew = W2 at HU hHeld ⊢
 refine pureQ 0 (some 5) HT_ ?_
 refine pureQ 3 (some 8) HT_ ?_
 refine takeQ (v := ?_) (a' := ?_) 1 (some 6) HT_ HW_ hHeld ?_ ?_ ?_
 rotate_left
 ·
  rintro w' ⟨s0, s1, s2, s3, s4, s5⟩
  go_simp
  with_reducible rfl
 rotate_left
 ·
  exact putQ
 refine takeQ (v := ?_) (a' := ?_) 4 (some 9) HT_ HW_ hHeld ?_ ?_ ?_
 rotate_left
 ·
  rintro w' ⟨s0, s1, s2, s3, s4, s5⟩
  go_simp
  with_reducible rfl
 rotate_left
 ·
  exact putQ
 refine one_ (i := 2) (N := (some 7)) #[true, true, true, true, true, false, false, false] rfl rfl (one_of HT_.out (by kernel_rfl)) (by decide) (fun K hK => ?_)
 refine goes_ Try.func52 (by kernel_rfl) rfl #[.agg #[.int .i64 a0, .int .i64 a1, .int .i64 a2]] (by rfl) rfl rfl (by (try simp only [List.map_toArray, List.map_cons, List.map_nil]); first | done | rfl) ?_
 refine (place52 a0 a1 a2 _).mono ?_
 rintro e W3 ⟨rfl, hup⟩
 refine ⟨_, rfl, ?_⟩
 refine hK.out _ _ ⟨cell_up hup (hHeld.1), cell_up hup (hHeld.2.1), cell_up hup (hHeld.2.2.1), cell_up hup (hHeld.2.2.2.1), cell_up hup (hHeld.2.2.2.2.1), cell_up hup (hHeld.2.2.2.2.2)⟩ (fun hHeld => ?_)
 clear hK K
 replace HU := zA (up_trans HU.out hup)
 clear hup
 refine normQ ?_
 refine one_ (i := 5) (N := (some 10)) #[true, true, true, true, true, true, false, false] rfl rfl (one_of HT_.out (by kernel_rfl)) (by decide) (fun K hK => ?_)
 refine goes_ Try.func52 (by kernel_rfl) rfl #[.agg #[.int .i64 b0, .int .i64 b1, .int .i64 b2]] (by rfl) rfl rfl (by (try simp only [List.map_toArray, List.map_cons, List.map_nil]); first | done | rfl) ?_
 refine (place52 b0 b1 b2 _).mono ?_
 rintro e W4 ⟨rfl, hup⟩
 refine ⟨_, rfl, ?_⟩
 refine hK.out _ _ ⟨cell_up hup (hHeld.1), cell_up hup (hHeld.2.1), cell_up hup (hHeld.2.2.1), cell_up hup (hHeld.2.2.2.1), cell_up hup (hHeld.2.2.2.2.1), cell_up hup (hHeld.2.2.2.2.2)⟩ (fun hHeld => ?_)
 clear hK K
 replace HU := zA (up_trans HU.out hup)
 clear hup
 refine normQ ?_
 refine one_ (i := 6) (N := (some 11)) #[true, true, true, true, true, true, true, false] rfl rfl (one_of HT_.out (by kernel_rfl)) (by decide) (fun K hK => ?_)
 refine goes_ Try.func53 (by kernel_rfl) rfl #[.agg #[.int .i64 a0, .int .i64 a1], .agg #[.int .i64 b0, .int .i64 b1]] (by rfl) rfl rfl (by (try simp only [List.map_toArray, List.map_cons, List.map_nil]); first | done | rfl) ?_
 refine (comp53 a0 a1 b0 b1 _).mono ?_
 rintro e W5 ⟨rfl, hup⟩
 refine ⟨_, rfl, ?_⟩
 refine hK.out _ _ ⟨cell_up hup (hHeld.1), cell_up hup (hHeld.2.1), cell_up hup (hHeld.2.2.1), cell_up hup (hHeld.2.2.2.1), cell_up hup (hHeld.2.2.2.2.1), cell_up hup (hHeld.2.2.2.2.2)⟩ (fun hHeld => ?_)
 clear hK K
 replace HU := zA (up_trans HU.out hup)
 clear hup
 refine normQ ?_
 refine pureQ 7 (some 4) HT_ ?_
 refine done_ (done_of HT_.out (by kernel_rfl)) ?_
 go_wp2
 go_ret
 exact ⟨rfl, HU.out⟩
def ltP (a b : Int × Int) : Prop := a.1 < b.1 ∨ a.1 = b.1 ∧ a.2 < b.2
instance (a b : Int × Int) : Decidable (ltP a b) := by unfold ltP; infer_instance
theorem cmpP_lt (a b : Int × Int) : decide (cmpP a b < 0) = decide (ltP a b) := by
  unfold cmpP orI ltP cmpI
  rcases Int.lt_trichotomy a.1 b.1 with h | h | h
  · simp [h]
  · have h1 : ¬ a.1 < b.1 := by omega
    have h2 : ¬ a.1 > b.1 := by omega
    rw [if_neg h1, if_neg h2, if_pos rfl]
    by_cases c : a.2 < b.2
    · simp [c, h]
    · by_cases c2 : a.2 > b.2 <;> simp [c, c2, h1]
  · have h1 : ¬ a.1 < b.1 := by omega
    have h3 : ¬ a.1 = b.1 := by omega
    simp [h, h1, h3]
theorem cf108_swo : SWO (ltOf cf108) where
  irrefl x := by unfold ltOf cf108; rw [cmpP_lt]; exact decide_eq_false (by unfold ltP; omega)
  trans x y z h1 h2 := by
    unfold ltOf cf108 at *
    rw [cmpP_lt] at *
    have a := of_decide_eq_true h1
    have b := of_decide_eq_true h2
    unfold ltP at *
    exact decide_eq_true (by dsimp only at *; omega)
  ntrans x y z h1 h2 := by
    unfold ltOf cf108 at *
    rw [cmpP_lt] at *
    have a := of_decide_eq_false h1
    have b := of_decide_eq_false h2
    unfold ltP at *
    exact decide_eq_false (by dsimp only at *; omega)
end Go.Proofs.Ytehpbmdphfbooaa.P
end
section
namespace Go.Proofs.Ytehpbmdphfbooaa.P
open Go.Shelf Go.RowKit Go.Lib Go.Sort Go.Proofs Go.Proofs.YtehpbmdphfbooaaW.PrintWords Go.Proofs.YtehpbmdphfbooaaW.PrintLast Go.Proofs.YtehpbmdphfbooaaW.PrintMore
set_option linter.unusedVariables false
set_option linter.unusedSimpArgs false
theorem results_none {fn : Func} (h : fn.results = #[]) (P : Program) (tm : Array Value) (W : World) : (results fn tm).run P W = .ok (.tuple #[]) W := by simp [results, h]
theorem sw_grown {α : Type} [Inhabited α] {enc : α → Value} {W W' : World} {blk off : Nat} {dk : Array α} (S : SW enc W blk off dk W') : W.grownBy W' (some blk) := by
  obtain ⟨n, os, rfl⟩ := S
  unfold sortWorld
  refine ⟨rfl, rfl, rfl, ?_, fun k hk hne => ?_⟩
  · rw [size_grow, size_putRow]
    exact Nat.le_add_right _ _
  · rw [heap_grow_old _ _ (by simpa using hk)]
    have : blk ≠ k := fun e => hne (by rw [e])
    simp [putRow, mapBlock, Sort.ahead, Array.getElem?_modify, this]
instance inh108 : Inhabited S108 := ⟨z108⟩
theorem addr_at (b n : Nat) : (⟨b, 0, none⟩ : Addr).add n = ⟨b, 0 + n, none⟩ := by
  unfold Addr.add
  by_cases h : n = 0
  · subst h; rfl
  · rw [if_neg h]
theorem holds_of_C {W : World} {g : Nat} {l : List S108} (hC : Kd.C k108 W (some ⟨g, 0, none⟩) l.length l) {cur : Array Value} {e : Nat} (hg : W.heap[g]? = some (.cells cur e (0, 0))) : HoldsK cells108 7 W g 0 l.toArray := by
  intro t ht
  rw [size_flatK] at ht
  rw [get_flatK _ _ _ _ ht]
  have hj : t / 7 < l.length := by simp at ht; omega
  obtain ⟨ad, e1, hall⟩ := hC.2.2 (by omega)
  injection e1 with e1
  subst e1
  obtain ⟨c, hs, hK, hcell⟩ := hall (t / 7) l[t / 7] (List.getElem?_eq_getElem hj)
  obtain rfl := k108_open hK
  have hi : t % 7 < 7 := Nat.mod_lt _ (by omega)
  have hu : (cells108 l[t / 7])[t % 7]? = some ((cells108 l[t / 7])[t % 7]!) := by
    rw [getElem!_pos (cells108 l[t / 7]) (t % 7) (by simpa [cells108] using hi)]
    exact List.getElem?_eq_getElem (by simpa [cells108] using hi)
  have := hcell (t % 7) _ hu
  have e3 := addr_at g (t / 7 * 7 + t % 7)
  rw [show k108.sz = 7 from by kernel_rfl, e3, show 0 + (t / 7 * 7 + t % 7) = 0 + t by omega] at this
  refine ⟨?_, blk_frozen hg _⟩
  rw [this]
  rw [getElem!_pos l.toArray (t / 7) (by simpa using hj)]
  simp
set_option maxHeartbeats 4000000 in
set_option maxRecDepth 100000 in
theorem sort85 (blk cap : Nat) (l : List S108) (w : World) (h0 : 0 < l.length) (hl : l.length ≤ 1000000) (hH : HoldsK cells108 7 w blk 0 l.toArray) (hlt : blk < w.heap.size) :
  Calls Try.prog 85 #[.slice (some ⟨blk, 0, none⟩) l.length cap, .func (.func 86) #[] #[]] w fun e w' => e = .returned (.tuple #[]) ∧
   ∃ d : List S108, d.Perm l ∧ d.Pairwise (fun x y => ¬ ltP (y.f0.f0, y.f0.f1) (x.f0.f0, x.f0.f1)) ∧ Kd.C k108 w' (some ⟨blk, 0, none⟩) l.length d ∧ w.grownBy w' (some blk) := by
 have hc : CmpLays Try.prog 86 #[] cells108 7 cf108 blk 0 l.toArray.size w := fun m os dk hdk x y => cmp86 x.f0.f0 x.f0.f1 x.f0.f2 x.f1.f0 x.f2.f0 x.f1.f1 x.f2.f1 y.f0.f0 y.f0.f1 y.f0.f2 y.f1.f0 y.f2.f0 y.f1.f1 y.f2.f1 _
 have h := AnyQ.slices_SortFunc Try.lsrt 7 Try.isAgg108 Try.sizeOf108 cells108 (fun _ => rfl) (fun x v hv => by simp [cells108] at hv; rcases hv with rfl | rfl | rfl | rfl | rfl | rfl | rfl <;> rfl) cf108 cf108_swo 86 #[] blk 0 cap l.toArray w
  (enters_of Try.func86 (by kernel_rfl) rfl) hc hH hlt (by simp; omega)
 rw [List.size_toArray] at h
 refine h.mono ?_
 rintro e w' ⟨rfl, d', n, os, hp, hs, rfl⟩
 have hz : d'.size = l.length := by have := hp.1; simpa using this
 have S : SW (id : Value → Value) w blk 0 (flatK cells108 7 d') (sortWorldK cells108 7 w blk 0 n d' os) := ⟨n, os, rfl⟩
 have hperm : d'.toList.Perm l := by
  have := hp.2.2
  have e1 : d'.extract 0 l.length = d' := by rw [← hz]; simp
  have e2 : l.toArray.extract 0 l.length = l.toArray := by simp
  rw [e1, e2] at this
  simpa using this
 have hH' : HoldsK cells108 7 (sortWorldK cells108 7 w blk 0 n d' os) blk 0 d' :=
  holdsK_grow cells108 7 _ os blk 0 d' (by simpa [putRowK] using hlt) (holdsK_putRowK cells108 7 _ blk 0 l.toArray d' (holdsK_ahead cells108 7 w n blk 0 _ hH) (by simpa using hz))
 refine ⟨rfl, d'.toList, hperm, ?_, ?_, sw_grown S⟩
 ·
  rw [List.pairwise_iff_getElem]
  intro i j hi hj hij
  have := hs i j (Nat.zero_le _) hij (by simp at hj; omega)
  unfold ltOf cf108 at this
  rw [cmpP_lt, getElem!_pos d' j (by simpa using hj), getElem!_pos d' i (by simpa using hi)] at this
  simpa using this
 ·
  refine ⟨by simpa using hz, by omega, fun _ => ⟨⟨blk, 0, none⟩, rfl, fun j p hp => ?_⟩⟩
  obtain ⟨hj, e⟩ := List.getElem?_eq_some_iff.1 hp
  have hj2 : j < d'.size := by simpa using hj
  refine ⟨cells108 p, rfl, k108_mk _ p, fun i u hu => ?_⟩
  have hi : i < 7 := by
   have := (List.getElem?_eq_some_iff.1 hu).1
   simpa [cells108] using this
  have := (hH'.cell hj2 hi).1
  rw [getElem!_pos d' j hj2] at this
  rw [show (d'[j]'hj2) = p by rw [← e]; simp] at this
  refine Eq.trans ?_ (this.trans ?_)
  ·
   rw [show k108.sz = 7 from by kernel_rfl]
   have e3 := addr_at blk (j * 7 + i)
   rw [e3, show 0 + (j * 7 + i) = 0 + j * 7 + i by omega]
  ·
   rw [← hu, getElem!_pos (cells108 p) i (by simpa [cells108] using hi)]
   exact (List.getElem?_eq_getElem _).symm
set_option maxHeartbeats 4000000 in
set_option maxRecDepth 100000 in
theorem ins114_none (v f : Value) (w : World) : Calls Try.prog 114 #[v, .int .i64 0, .int .i64 0, f] w fun e w' => e = .returned (.tuple #[]) ∧ w' = w := by
  go_enter Try.func114, Try.ntmps114
  go_wp2
  refine wp_loop_rounds 1 ?_
  rw [rounds_succ]
  go_wp2
  go_end0
  exact ⟨rfl, rfl⟩
set_option maxHeartbeats 4000000 in
set_option maxRecDepth 100000 in
theorem pdq106_none (p : Option Addr) (cap : Nat) (lim : Int) (f : Value) (w : World) : Calls Try.prog 106 #[.slice p 0 cap, .int .i64 0, .int .i64 0, .int .i64 lim, f] w fun e w' => e = .returned (.tuple #[]) ∧ w' = w := by
  go_enter Try.func106, Try.ntmps106
  go_wp2
  refine wp_loop_rounds 1 ?_
  rw [rounds_succ]
  go_wp2_with fail
  refine (ins114_none _ f w).mono ?_
  rintro e w1 ⟨rfl, rfl⟩
  go_wp2
  (try simp only [Exit.inBlock, Exit.then])
  refine bodyPost_ret (results_none rfl _ _ _) rfl ?_
  exact ⟨rfl, rfl⟩
set_option maxHeartbeats 4000000 in
set_option maxRecDepth 100000 in
theorem sort85_none (p : Option Addr) (cap : Nat) (f : Value) (w : World) : Calls Try.prog 85 #[.slice p 0 cap, f] w fun e w' => e = .returned (.tuple #[]) ∧ w' = w := by
  have hl : ∀ W, Calls Try.prog 107 #[.int .u64 0] W fun e w' => e = .returned (.int .i64 (Lib.bitLen 0 : Nat)) ∧ w' = W := fun W => by
    have h := Any.bits_Len (SlLaysF0.n15.bits (P := Try.prog) (ρ := Try.lsrt_ren) { Try.lsrt with }) 0 W (by omega) (by omega)
    exact h
  go_enter Try.func85, Try.ntmps85
  go_wp2_with (first | (go_at_call 107; refine (hl _).mono ?_; rintro e w' ⟨rfl, rfl⟩) | (go_at_call 106; refine (pdq106_none _ _ _ _ _).mono ?_; rintro e w' ⟨rfl, rfl⟩))
  go_end0
  exact ⟨rfl, rfl⟩
end Go.Proofs.Ytehpbmdphfbooaa.P
end
section
namespace Go.Proofs.Ytehpbmdphfbooaa.P
open Go.RowKit Go.Proofs Go.Proofs.YtehpbmdphfbooaaW.PrintWords Go.Proofs.YtehpbmdphfbooaaW.PrintLast Go.Proofs.YtehpbmdphfbooaaW.PrintMore
set_option linter.unusedVariables false
set_option linter.unusedSimpArgs false
def plc (x : S108) : Int × Int := (x.f0.f0, x.f0.f1)
def SortedP (d : List S108) : Prop := d.Pairwise fun x y => ¬ ltP (plc y) (plc x)
theorem sort_any (B : Nat) (ok : Nat → Prop) (v : Value) (l : List S108) (w : World) (hl : l.length ≤ 1000000) (HO : Kd.R k108 108 w B ok v l) :
    ∃ A c, v = .slice A l.length c ∧ l.length ≤ c ∧ Calls Try.prog 85 #[v, .func (.func 86) #[] #[]] w fun e w' => e = .returned (.tuple #[]) ∧ ∃ d : List S108, d.Perm l ∧ SortedP d ∧ Kd.C k108 w' A d.length d ∧ Below B w w' ∧ w.grownBy w' v.ownBlock := by
  obtain ⟨A, c, rfl, hc, hC⟩ := Kd.R_reads HO
  refine ⟨A, c, rfl, hc, ?_⟩
  by_cases h0 : 0 < l.length
  · obtain ⟨inner, _, hown⟩ := Kd.R_own HO
    rcases hown with ⟨e, h2⟩ | ⟨g, cap, cur, e, hb, hg, _⟩
    · injection e with e1 e2 e3
      omega
    · injection e with e1 e2 e3
      subst e1; subst e3
      refine (sort85 g _ l w h0 hl (holds_of_C hC hg) (blk_lt hg)).mono ?_
      rintro e w' ⟨rfl, d, hp, hs, hC', hgr⟩
      exact ⟨rfl, d, hp, hs, by rw [hp.length_eq]; exact hC', ⟨hgr.os, hgr.tape, hgr.output, hgr.size, fun k hk => hgr.block k (Nat.lt_of_lt_of_le hk (Nat.le_trans hb (Nat.le_of_lt (blk_lt hg)))) (fun e => by injection e with e; omega)⟩, hgr⟩
  · have hn : l = [] := List.eq_nil_of_length_eq_zero (by omega)
    subst hn
    refine (sort85_none A c _ w).mono ?_
    rintro e w' ⟨rfl, rfl⟩
    exact ⟨rfl, [], List.Perm.refl _, List.Pairwise.nil, hC, Below.refl _ _, ⟨rfl, rfl, rfl, Nat.le_refl _, fun _ _ _ => rfl⟩⟩
theorem each_note (x : S108) (i : Nat) (W : World) : Calls Try.prog 88 #[.int .i64 (i : Int), .agg #[.int .i64 x.f0.f0, .int .i64 x.f0.f1, .int .i64 x.f0.f2, .int .i64 x.f1.f0, .bool x.f1.f1, .int .i64 x.f2.f0, .bool x.f2.f1]] W fun e w' => e = .returned (.agg #[.int .i64 x.f0.f0, .int .i64 x.f0.f1, .int .i64 x.f0.f2]) ∧ Below W.heap.size W w' :=
  edit_patchNote.calls _ _ _ _ _ _ _ _ _ _ _ W rfl
theorem each_origin (x : S108) (i : Nat) (W : World) : Calls Try.prog 90 #[.int .i64 (i : Int), .agg #[.int .i64 x.f0.f0, .int .i64 x.f0.f1, .int .i64 x.f0.f2, .int .i64 x.f1.f0, .bool x.f1.f1, .int .i64 x.f2.f0, .bool x.f2.f1]] W fun e w' => e = .returned (.agg #[.int .i64 x.f1.f0, .bool x.f1.f1]) ∧ Below W.heap.size W w' :=
  edit_patchOrigin.calls _ _ _ _ _ _ _ _ _ _ W rfl
theorem below_base {B : Nat} {A W W' : World} (h : Below B A W) (k : Below B W W') : Below B A W' := h.trans k
set_option maxHeartbeats 4000000 in
set_option maxRecDepth 100000 in
theorem patch48 (A : Option Addr) (c : Nat) (F : List S61) (ok : Nat → Prop) (v : Value) (l : List S108) (w0 w : World) (hb : Below w0.heap.size w0 w) (hF : Kd.C k61 w0 A F.length F) (hc : F.length ≤ c) (hFl : F.length < 1000000) (hl : l.length ≤ 1000000) (HO : Kd.R k108 108 w w0.heap.size ok v l) :
  Calls Try.prog 48 #[.slice A F.length c, v] w fun e w' => ∃ (v0 v1 v2 : Value) (d : List S108), e = .returned (.agg #[v0, v1, v2]) ∧ d.Perm l ∧ SortedP d ∧ Kd.R k61 61 w' w0.heap.size (fun k_ => some k_ ≠ v1.ownBlock) v0 F ∧ Kd.R k61 61 w' w0.heap.size (fun k_ => some k_ ≠ v0.ownBlock) v1 (d.map S108.f0) ∧ Kd.R k67 67 w' w0.heap.size (fun _ => True) v2 (d.map S108.f1) ∧ Below w0.heap.size w0 w' := by
 have hu28 := Try.underlying28
 have HB := zA hb
 have HOl := zA HO
 have HF := zA hF
 have HC9 := zA hc
 have SRT : Aside0 (∀ W, Kd.R k108 108 W w0.heap.size ok v l → ∃ A c, v = .slice A l.length c ∧ l.length ≤ c ∧ Calls Try.prog 85 #[v, .func (.func 86) #[] #[]] W fun e w' => e = .returned (.tuple #[]) ∧ ∃ d : List S108, d.Perm l ∧ SortedP d ∧ Kd.C k108 w' A d.length d ∧ Below w0.heap.size W w' ∧ W.grownBy w' v.ownBlock) := ⟨fun W h => sort_any _ ok v l W hl h⟩
 obtain ⟨Al, cl, hv, hcl, _⟩ := SRT.out _ HO
 subst hv; clear hb HO hF hc
 go_enter Try.func48, Try.ntmps48
 go_upto_region 1 with (first | ((with_reducible refine gate_dst (N := 4) rfl ?_); refine box_event ?hg (N := 4) ?hd (cs := #[.slice none 0 0, .slice none 0 0, .slice none 0 0]) (t := 28) ?hr ?_; (case hd => rfl); (case hg => rfl); (case hr => first | (go_simp; done) | (go_simp; rfl)); intro g4 hg w4 hbox hb; have n0_ := zA (below_then HB.out HB.out.size hb); have n1_ := zA (Kd.R_below HOl.out hb); have ad : Aside0 (w0.heap.size ≤ g4) := ⟨by rw [hg]; exact HB.out.size⟩; have aa := zA hbox; clear HB HOl hb hbox hg; have HB := n0_; have HOl := n1_; clear n0_ n1_))
 have HNE : Aside0 (some g4 ≠ (Value.slice Al l.length cl).ownBlock) := ⟨Kd.R_ne HOl.out aa.out (by decide)⟩
 obtain ⟨A', c', hv', _, K85⟩ := SRT.out _ HOl.out
 injection hv' with e1 e2 e3
 subst e1; subst e3
 have K85' := zA K85
 clear K85 SRT e2
 go_upto_region 2 with (first | (go_at_call 85; refine K85'.out.mono ?_; rintro e w5 ⟨rfl, d, hp, hs, hC5, hb5, hg5⟩; have n0_ := zA (below_base HB.out hb5); have n1_ := zA (blk_grown aa.out hg5 HNE.out); have HD := zA hC5; have HP := zA hp; have HS := zA hs; clear HB aa hp hs hC5 hb5 hg5 HOl K85'; have HB := n0_; have aa := n1_; clear n0_ n1_))
 have hdl : d.length = l.length := HP.out.length_eq
 have HDL := zA hdl
 rw [← hdl]
 clear hdl
 go_wp2_with fail
 refine (clone62 A c F w5 (Kd.C_below HF.out HB.out) HC9.out hFl).mono ?_
 rintro e w6 ⟨v0, rfl, ho0, hb6⟩
 have ab : Aside0 (Kd.R k61 61 w6 w0.heap.size (fun k => k < w6.heap.size) v0 F) := ⟨Kd.R_mono (Kd.R_bound (Kd.R_lower ho0 HB.out.size)) (fun k hk => hk.2.2.1)⟩
 have n0_ := zA (below_then HB.out HB.out.size hb6); have n1_ := zA (blk_keep aa.out hb6); have n2_ := zA (Kd.C_below HD.out hb6)
 have HS6 : Aside0 (w0.heap.size ≤ w6.heap.size) := ⟨n0_.out.size⟩
 clear HB aa HD ho0 hb6; have HB := n0_; have aa := n1_; have HD := n2_; clear n0_ n1_ n2_
 go_wp2_with fail
 refine (each87 Al cl d (fun _ x => x.f0) w6 HD.out (by rw [HDL.out]; exact hcl) (by rw [HDL.out]; exact hl) (fun i W _ _ => each_note _ i W)).mono ?_
 rintro e w7 ⟨v1, rfl, ho1, hb7⟩
 rw [show mapI (fun _ (x : S108) => x.f0) (fun i => rd_T108 d (i : Int)) d.length = d.map S108.f0 from mapI_map _ z108 d] at ho1
 have ac : Aside0 (Kd.R k61 61 w7 w0.heap.size (fun k => w6.heap.size ≤ k) v1 (d.map S108.f0)) := ⟨Kd.R_mono (Kd.R_lower (Kd.R_mono (Kd.R_bound ho1) (fun k hk => hk.2.1)) HS6.out) (fun k hk => hk)⟩
 replace HB := zA (below_then HB.out HB.out.size hb7)
 replace aa := zA (blk_keep aa.out hb7)
 replace HD := zA (Kd.C_below HD.out hb7)
 replace ab := zA (Kd.R_below ab.out hb7)
 clear ho1 hb7
 go_wp2_with fail
 refine (each89 Al cl d (fun _ x => x.f1) w7 HD.out (by rw [HDL.out]; exact hcl) (by rw [HDL.out]; exact hl) (fun i W _ _ => each_origin _ i W)).mono ?_
 rintro e w8 ⟨v2, rfl, ho2, hb8⟩
 rw [show mapI (fun _ (x : S108) => x.f1) (fun i => rd_T108 d (i : Int)) d.length = d.map S108.f1 from mapI_map _ z108 d] at ho2
 have ae : Aside0 (Kd.R k67 67 w8 w0.heap.size (fun _ => True) v2 (d.map S108.f1)) := ⟨Kd.R_lower ho2 HB.out.size⟩
 replace HB := zA (below_then HB.out HB.out.size hb8)
 replace aa := zA (blk_keep aa.out hb8)
 replace ac := zA (Kd.R_below ac.out hb8)
 replace ab := zA (Kd.R_below ab.out hb8)
 clear HD ho2 hb8
 obtain ⟨ns, hns⟩ : ∃ x_, x_ = d.map S108.f0 := ⟨_, rfl⟩
 obtain ⟨os, hos⟩ : ∃ x_, x_ = d.map S108.f1 := ⟨_, rfl⟩
 rw [← hns] at ac
 rw [← hos] at ae
 have HNS := zA hns
 have HOS := zA hos
 clear hns hos
 obtain ⟨B0, b0, rfl⟩ := Kd.R_slice ab.out
 obtain ⟨B1, b1, rfl⟩ := Kd.R_slice ac.out
 obtain ⟨B2, b2, rfl⟩ := Kd.R_slice ae.out
 have z0 : w8.cell? ⟨g4, 0, none⟩ = some (.slice none 0 0) := (blk_cell aa.out 0).trans rfl
 have z1 : w8.cell? ⟨g4, 1, none⟩ = some (.slice none 0 0) := (blk_cell aa.out 1).trans rfl
 have z2 : w8.cell? ⟨g4, 2, none⟩ = some (.slice none 0 0) := (blk_cell aa.out 2).trans rfl
 have zf0 := blk_frozen aa.out 0
 have zf1 := blk_frozen aa.out 1
 have zf2 := blk_frozen aa.out 2
 go_wp2
 have hne0 : some g4 ≠ (Value.slice B0 F.length b0).ownBlock := Kd.R_ne ab.out aa.out (by decide)
 have hne1 : some g4 ≠ (Value.slice B1 ns.length b1).ownBlock := Kd.R_ne ac.out aa.out (by decide)
 have OTH : ∀ k, w6.heap.size ≤ k → some k = (Value.slice B0 F.length b0).ownBlock → False := fun k hk e => by have h1 := ab.out.1 k e.symm; omega
 refine bodyPost_ret (results_cell_row rfl _ _ g4 28 #[.slice B0 F.length b0, .slice B1 ns.length b1, .slice B2 os.length b2] (0, 0) _ rfl ((blk_put (cs := #[.slice B0 F.length b0, .slice B1 ns.length b1, .slice none 0 0]) (blk_put (cs := #[.slice B0 F.length b0, .slice none 0 0, .slice none 0 0]) (blk_put (cs := #[.slice none 0 0, .slice none 0 0, .slice none 0 0]) aa.out 0 (.slice B0 F.length b0) rfl) 1 (.slice B1 ns.length b1) rfl) 2 (.slice B2 os.length b2) rfl)) Try.underlying28 rfl (by kernel_rfl)) rfl ?_
 refine ⟨_, _, _, d, rfl, HP.out, HS.out, Kd.R_mono (Kd.R_set (Kd.R_set (Kd.R_set ab.out aa.out (by decide) 0 (.slice B0 F.length b0)) ((blk_put (cs := #[.slice none 0 0, .slice none 0 0, .slice none 0 0]) aa.out 0 (.slice B0 F.length b0) rfl)) (by decide) 1 (.slice B1 ns.length b1)) ((blk_put (cs := #[.slice B0 F.length b0, .slice none 0 0, .slice none 0 0]) (blk_put (cs := #[.slice none 0 0, .slice none 0 0, .slice none 0 0]) aa.out 0 (.slice B0 F.length b0) rfl) 1 (.slice B1 ns.length b1) rfl)) (by decide) 2 (.slice B2 os.length b2)) (fun k hk e => ?_), by rw [← HNS.out]; exact Kd.R_mono (Kd.R_set (Kd.R_set (Kd.R_set ac.out aa.out (by decide) 0 (.slice B0 F.length b0)) ((blk_put (cs := #[.slice none 0 0, .slice none 0 0, .slice none 0 0]) aa.out 0 (.slice B0 F.length b0) rfl)) (by decide) 1 (.slice B1 ns.length b1)) ((blk_put (cs := #[.slice B0 F.length b0, .slice none 0 0, .slice none 0 0]) (blk_put (cs := #[.slice none 0 0, .slice none 0 0, .slice none 0 0]) aa.out 0 (.slice B0 F.length b0) rfl) 1 (.slice B1 ns.length b1) rfl)) (by decide) 2 (.slice B2 os.length b2)) (fun k hk e => OTH k hk e), by rw [← HOS.out]; exact (Kd.R_set (Kd.R_set (Kd.R_set ae.out aa.out (by decide) 0 (.slice B0 F.length b0)) ((blk_put (cs := #[.slice none 0 0, .slice none 0 0, .slice none 0 0]) aa.out 0 (.slice B0 F.length b0) rfl)) (by decide) 1 (.slice B1 ns.length b1)) ((blk_put (cs := #[.slice B0 F.length b0, .slice none 0 0, .slice none 0 0]) (blk_put (cs := #[.slice none 0 0, .slice none 0 0, .slice none 0 0]) aa.out 0 (.slice B0 F.length b0) rfl) 1 (.slice B1 ns.length b1) rfl)) (by decide) 2 (.slice B2 os.length b2)), (((HB.out.setCell ad.out _).setCell ad.out _).setCell ad.out _)⟩
 have h1 := ac.out.1 k e.symm
 omega
end Go.Proofs.Ytehpbmdphfbooaa.P
end
section
namespace Go.Proofs.Ytehpbmdphfbooaa.P
open Go.RowKit Go.Proofs Go.Proofs.YtehpbmdphfbooaaW.PrintWords Go.Proofs.YtehpbmdphfbooaaW.PrintLast Go.Proofs.YtehpbmdphfbooaaW.PrintMore
set_option linter.unusedVariables false
set_option linter.unusedSimpArgs false
def ev108 (x : S108) : Value := .agg #[.int .i64 x.f0.f0, .int .i64 x.f0.f1, .int .i64 x.f0.f2, .int .i64 x.f1.f0, .bool x.f1.f1, .int .i64 x.f2.f0, .bool x.f2.f1]
abbrev PM := List ((Int × Int) × S108)
def putM (M : PM) (a : Int × Int) (v : S108) : PM := (a, v) :: M.filter fun p => decide (p.1 ≠ a)
def delM (M : PM) (a : Int × Int) : PM := M.filter fun p => decide (p.1 ≠ a)
def lookP (M : PM) (a : Int × Int) : S108 := (getM M a).getD z108
theorem up_below {W W' : World} (h : Up W W') : Below W.heap.size W W' := by
  obtain ⟨q, os, rfl⟩ := h
  exact ⟨rfl, rfl, rfl, by simp [Sort.grow, World.drewN], fun k hk => Sort.heap_grow_old _ _ (by simpa using hk)⟩
theorem place52b (a b c : Int) (W : World) : Calls Try.prog 52 #[.agg #[.int .i64 a, .int .i64 b, .int .i64 c]] W fun e w' => e = .returned (.agg #[.int .i64 a, .int .i64 b]) ∧ Below W.heap.size W w' :=
  (place52 a b c W).mono fun _ _ ⟨h, k⟩ => ⟨h, up_below k⟩
theorem grown_below {A W W' : World} {row : Option Nat} (h : A.grownBy W row) (k : Below W.heap.size W W') : A.grownBy W' row :=
  ⟨k.os.trans h.os, k.tape.trans h.tape, k.output.trans h.output, Nat.le_trans h.size k.size, fun i hi hne => (k.block i (Nat.lt_of_lt_of_le hi h.size)).trans (h.block i hi hne)⟩
theorem grown_refl (W : World) (row : Option Nat) : W.grownBy W row := ⟨rfl, rfl, rfl, Nat.le_refl _, fun _ _ _ => rfl⟩
theorem grown_turn {A W W' : World} {b : Nat} (h : A.grownBy W (some b)) (k : W.mapTurned W' b) : A.grownBy W' (some b) :=
  ⟨k.grown.os.trans h.os, k.grown.tape.trans h.tape, k.grown.output.trans h.output, Nat.le_trans h.size k.grown.size, fun i hi hne => (k.grown.block i (Nat.lt_of_lt_of_le hi h.size) hne).trans (h.block i hi hne)⟩
theorem hasM_below {w w' : World} {gm : Nat} {M : PM} (h : HasM w ekP ev108 gm M) (hb : Below w.heap.size w w') : HasM w' ekP ev108 gm M := h.same (hb.block gm h.lt)
theorem turned_blk {w w' : World} {b g : Nat} {o : Obj} (h : w.mapTurned w' b) (hne : g ≠ b) (hg : w.heap[g]? = some o) : w'.heap[g]? = some o := (h.grown.block g (blk_lt hg) (fun e => by injection e with e; exact hne e)).trans hg
theorem grown_set {A W : World} {row : Option Nat} {g j : Nat} (h : A.grownBy W row) (hg : A.heap.size ≤ g) (u : Value) (_t : True) : A.grownBy (W.setCell ⟨g, j, none⟩ u) row :=
  ⟨h.os, h.tape, h.output, by simpa [World.setCell] using h.size, fun i hi hne => (Below.heap_setCell W ⟨g, j, none⟩ u i (fun e => by have : i = g := e; omega)).trans (h.block i hi hne)⟩
def Desk (w : World) (gd gm : Nat) (M : PM) : Prop := w.heap[gd]? = some (.cells #[.map (some gm)] 103 (0, 0)) ∧ HasM w ekP ev108 gm M
theorem Desk.ne {w : World} {gd gm : Nat} {M : PM} (h : Desk w gd gm M) : gd ≠ gm := by
  intro e
  obtain ⟨h1, es, c, M0, h2, _⟩ := h
  rw [e, h2] at h1
  cases h1
theorem storeP {w : World} {gm : Nat} {M : PM} (h : HasM w ekP ev108 gm M) (a b : Int) (x : S108) : ∃ w', (Instr.mapUpdate 101 (.map (some gm)) (.agg #[.int .i64 a, .int .i64 b]) (.agg #[.int .i64 x.f0.f0, .int .i64 x.f0.f1, .int .i64 x.f0.f2, .int .i64 x.f1.f0, .bool x.f1.f1, .int .i64 x.f2.f0, .bool x.f2.f1])).run Try.prog w = .ok () w' ∧ HasM w' ekP ev108 gm (putM M (a, b) x) ∧ w.mapTurned w' gm :=
  h.store keyP Try.underlying101 (a, b) x
theorem dropP {w : World} {gm : Nat} {M : PM} (h : HasM w ekP ev108 gm M) (a b : Int) (ty : TypeId) : ∃ w', (Builtin.delete_ #[101, 106] ty #[.map (some gm), .agg #[.int .i64 a, .int .i64 b]]).run Try.prog w = .ok (.tuple #[]) w' ∧ HasM w' ekP ev108 gm (delM M (a, b)) ∧ w.mapTurned w' gm :=
  h.drop keyP Try.underlying101 (a, b) ty
theorem zeroP (w : World) : (zeroValue 108).run Try.prog w = .ok (ev108 z108) w := by kernel_rfl
theorem lookP_run {w : World} {gm : Nat} {M : PM} (h : HasM w ekP ev108 gm M) (a b : Int) : (Instr.lookup 101 (.map (some gm)) (.agg #[.int .i64 a, .int .i64 b]) false).run Try.prog w = .ok (ev108 (lookP M (a, b))) w := by
  refine (h.look keyP Try.underlying101 (zeroP w) (a, b)).trans ?_
  unfold lookP
  cases getM M (a, b) <;> rfl
theorem lookP_ok {w : World} {gm : Nat} {M : PM} (h : HasM w ekP ev108 gm M) (a b : Int) : (Instr.lookup 101 (.map (some gm)) (.agg #[.int .i64 a, .int .i64 b]) true).run Try.prog w = .ok (.tuple #[ev108 (lookP M (a, b)), .bool (getM M (a, b)).isSome]) w := by
  refine (h.look_ok keyP Try.underlying101 (zeroP w) (a, b)).trans ?_
  unfold lookP
  cases getM M (a, b) <;> rfl
def delete81.T1 : Bool × List (List Nat × List Nat) := (true, [([], []), ([0], [0]), ([1], [1]), ([2], [2]), ([], []), ([4], [4]), ([], []), ([6], [6]), ([5, 7], [5, 7]), ([3, 8], [3, 8])])
def delete81.B1 : List Nat := [0, 1, 3, 7, 0, 16, 0, 64, 240, 511]
theorem delete81.tab1 : rtab .any (opsOf Try.f81 1) = delete81.T1 := by kernel_rfl
theorem delete81.bits1 : waitsOk delete81.T1.2 delete81.B1 = true := by kernel_rfl
set_option maxHeartbeats 4000000 in
set_option maxRecDepth 100000 in
theorem delete81 (gd gm : Nat) (M : PM) (kd sa sk n0 n1 n2 x0 x1 x2 x3 x5 : Int) (x4 x6 : Bool) (w : World) (hd : Desk w gd gm M) :
  Calls Try.prog 81 #[.pointer (some ⟨gd, 0, none⟩), .agg #[.int .i64 kd, .int .i64 sa, .int .i64 sk, .int .i64 n0, .int .i64 n1, .int .i64 n2], .agg #[.int .i64 x0, .int .i64 x1, .int .i64 x2, .int .i64 x3, .bool x4, .int .i64 x5, .bool x6]] w fun e w' => e = .returned (.tuple #[]) ∧ Desk w' gd gm (delM M (sa, sk)) ∧ w.grownBy w' (some gm) := by
 have mixed : Try.prog.follows .mixedOrders = true := by kernel_rfl
 have hu65 := Try.underlying65
 have hu108 := Try.underlying108
 have hu103 := Try.underlying103
 have hu61 := Try.underlying61
 have hu106 := Try.underlying106
 have hu67 := Try.underlying67
 have aa := zA hd.1
 have HM := zA hd.2
 have NGM := zA hd.ne
 have HG := zA (grown_refl w (some gm))
 clear hd
 go_enter Try.func81, Try.ntmps81
 go_upto_region 1 with (first | ((with_reducible refine gate_dst (N := 4) rfl ?_); refine box_event ?hg (N := 4) ?hd (cs := #[.int .i64 kd, .int .i64 sa, .int .i64 sk, .int .i64 n0, .int .i64 n1, .int .i64 n2]) (t := 65) ?hr ?_; (case hd => rfl); (case hg => rfl); (case hr => first | (go_simp; done) | (go_simp; rfl)); intro g4 hg w4 hbox hb; have NM4 : Aside0 (gm ≠ g4) := ⟨by have := HM.out.lt; omega⟩; have ND4 : Aside0 (gd ≠ g4) := ⟨by have := blk_lt aa.out; omega⟩; replace HG := zA (grown_below HG.out hb); replace aa := zA (blk_keep aa.out hb); replace HM := zA (hasM_below HM.out hb); have ab := zA hbox; clear hb hbox hg) | ((with_reducible refine gate_dst (N := 5) rfl ?_); refine box_event ?hg (N := 5) ?hd (cs := #[.int .i64 x0, .int .i64 x1, .int .i64 x2, .int .i64 x3, .bool x4, .int .i64 x5, .bool x6]) (t := 108) ?hr ?_; (case hd => rfl); (case hg => rfl); (case hr => first | (go_simp; done) | (go_simp; rfl)); intro g5 hg w5 hbox hb; have NS : Aside0 (g4 ≠ g5) := ⟨by have := blk_lt ab.out; omega⟩; have NM5 : Aside0 (gm ≠ g5) := ⟨by have := HM.out.lt; omega⟩; have ND5 : Aside0 (gd ≠ g5) := ⟨by have := blk_lt aa.out; omega⟩; have G5 : Aside0 (w.heap.size ≤ g5) := ⟨by rw [hg]; exact HG.out.size⟩; replace HG := zA (grown_below HG.out hb); replace aa := zA (blk_keep aa.out hb); replace HM := zA (hasM_below HM.out hb); replace ab := zA (blk_keep ab.out hb); have BKx := zA hbox; clear hb hbox hg))
 replace HG := zA (grown_below HG.out (below_drew1 (Below.refl _ _)))
 replace aa := zA (blk_drew aa.out)
 replace HM := zA ((HasM.same HM.out rfl : HasM w5.drew ekP ev108 gm M))
 replace ab := zA (blk_drew ab.out)
 refine start_ (n := 10) (S := fun w' => w'.heap[g4]? = some (.cells #[.int .i64 kd, .int .i64 sa, .int .i64 sk, .int .i64 n0, .int .i64 n1, .int .i64 n2] 65 (0, 0)) ∧ w'.heap[gd]? = some (.cells #[.map (some gm)] 103 (0, 0)) ∧ HasM w' ekP ev108 gm M) (ds := [9]) #[false, false, false, false, false, false, false, false, false, false] (by kernel_rfl) rfl rfl ⟨ab.out, aa.out, HM.out⟩ (fun hHeld => ?_); refine with_tabW delete81.tab1 delete81.bits1 (fun HT_ HW_ => ?_)
 generalize World.drew w5 = W2 at HG aa HM ab hHeld ⊢
 refine pureQ 0 (some 6) HT_ ?_
 refine pureQ 1 (some 7) HT_ ?_
 refine pureQ 2 (some 8) HT_ ?_
 refine pureQ 4 (some 10) HT_ ?_
 refine pureQ 6 (some 12) HT_ ?_
 refine takeQ (v := ?_) (a' := ?_) 3 (some 9) HT_ HW_ hHeld ?_ ?_ ?_
 rotate_left
 ·
  rintro w' ⟨s0, s1, s2⟩
  have y0_0 : w'.cell? ⟨g4, 0, none⟩ = some (.int .i64 kd) := (blk_cell s0 0).trans rfl
  have y0_1 : w'.cell? ⟨g4, 1, none⟩ = some (.int .i64 sa) := (blk_cell s0 1).trans rfl
  have y0_2 : w'.cell? ⟨g4, 2, none⟩ = some (.int .i64 sk) := (blk_cell s0 2).trans rfl
  have y0_3 : w'.cell? ⟨g4, 3, none⟩ = some (.int .i64 n0) := (blk_cell s0 3).trans rfl
  have y0_4 : w'.cell? ⟨g4, 4, none⟩ = some (.int .i64 n1) := (blk_cell s0 4).trans rfl
  have y0_5 : w'.cell? ⟨g4, 5, none⟩ = some (.int .i64 n2) := (blk_cell s0 5).trans rfl
  have y1_0 : w'.cell? ⟨gd, 0, none⟩ = some (.map (some gm)) := (blk_cell s1 0).trans rfl
  go_simp
  with_reducible rfl
 rotate_left
 ·
  exact putQ
 refine takeQ (v := ?_) (a' := ?_) 5 (some 11) HT_ HW_ hHeld ?_ ?_ ?_
 rotate_left
 ·
  rintro w' ⟨s0, s1, s2⟩
  have y0_0 : w'.cell? ⟨g4, 0, none⟩ = some (.int .i64 kd) := (blk_cell s0 0).trans rfl
  have y0_1 : w'.cell? ⟨g4, 1, none⟩ = some (.int .i64 sa) := (blk_cell s0 1).trans rfl
  have y0_2 : w'.cell? ⟨g4, 2, none⟩ = some (.int .i64 sk) := (blk_cell s0 2).trans rfl
  have y0_3 : w'.cell? ⟨g4, 3, none⟩ = some (.int .i64 n0) := (blk_cell s0 3).trans rfl
  have y0_4 : w'.cell? ⟨g4, 4, none⟩ = some (.int .i64 n1) := (blk_cell s0 4).trans rfl
  have y0_5 : w'.cell? ⟨g4, 5, none⟩ = some (.int .i64 n2) := (blk_cell s0 5).trans rfl
  have y1_0 : w'.cell? ⟨gd, 0, none⟩ = some (.map (some gm)) := (blk_cell s1 0).trans rfl
  go_simp
  with_reducible rfl
 rotate_left
 ·
  exact putQ
 refine takeQ (v := ?_) (a' := ?_) 7 (some 13) HT_ HW_ hHeld ?_ ?_ ?_
 rotate_left
 ·
  rintro w' ⟨s0, s1, s2⟩
  have y0_0 : w'.cell? ⟨g4, 0, none⟩ = some (.int .i64 kd) := (blk_cell s0 0).trans rfl
  have y0_1 : w'.cell? ⟨g4, 1, none⟩ = some (.int .i64 sa) := (blk_cell s0 1).trans rfl
  have y0_2 : w'.cell? ⟨g4, 2, none⟩ = some (.int .i64 sk) := (blk_cell s0 2).trans rfl
  have y0_3 : w'.cell? ⟨g4, 3, none⟩ = some (.int .i64 n0) := (blk_cell s0 3).trans rfl
  have y0_4 : w'.cell? ⟨g4, 4, none⟩ = some (.int .i64 n1) := (blk_cell s0 4).trans rfl
  have y0_5 : w'.cell? ⟨g4, 5, none⟩ = some (.int .i64 n2) := (blk_cell s0 5).trans rfl
  have y1_0 : w'.cell? ⟨gd, 0, none⟩ = some (.map (some gm)) := (blk_cell s1 0).trans rfl
  go_simp
  with_reducible rfl
 rotate_left
 ·
  exact putQ
 refine pureQ 8 (some 14) HT_ ?_
 refine last_ (i := 9) (N := none) #[true, true, true, true, true, true, true, true, true, true] rfl rfl (one_of HT_.out (by kernel_rfl)) (by decide) (fun K hK => ?_)
 obtain ⟨W3, hrun3, hM3, ht3⟩ := dropP HM.out sa sk 0
 refine value_ (v := .tuple #[]) (w1 := W3) (by rfl) rfl (by go_simp) ?_
 refine hK.out _ _ ?_
 clear hK K
 refine done_ (done_of HT_.out (by kernel_rfl)) ?_
 go_end0
 exact ⟨rfl, ⟨turned_blk ht3 NGM.out aa.out, hM3⟩, grown_turn HG.out ht3⟩
def insert82.T1 : Bool × List (List Nat × List Nat) := (true, [([], []), ([0], [0]), ([1], [1]), ([2], [2]), ([], []), ([4], [4]), ([5], [5]), ([], []), ([7], [7]), ([], []), ([8, 9], [8, 9]), ([3, 6, 10, 6, 0, 1, 2, 3, 4, 5, 6, 7, 8, 9, 10], [3, 6, 10])])
def insert82.B1 : List Nat := [0, 1, 3, 7, 0, 16, 48, 0, 128, 0, 896, 2047]
theorem insert82.tab1 : rtab .any (opsOf Try.f82 1) = insert82.T1 := by kernel_rfl
theorem insert82.bits1 : waitsOk insert82.T1.2 insert82.B1 = true := by kernel_rfl
set_option maxHeartbeats 4000000 in
set_option maxRecDepth 100000 in
theorem insert82 (gd gm : Nat) (M : PM) (kd sa sk n0 n1 n2 x0 x1 x2 x3 x5 : Int) (x4 x6 : Bool) (w : World) (hd : Desk w gd gm M) :
  Calls Try.prog 82 #[.pointer (some ⟨gd, 0, none⟩), .agg #[.int .i64 kd, .int .i64 sa, .int .i64 sk, .int .i64 n0, .int .i64 n1, .int .i64 n2], .agg #[.int .i64 x0, .int .i64 x1, .int .i64 x2, .int .i64 x3, .bool x4, .int .i64 x5, .bool x6]] w fun e w' => e = .returned (.tuple #[]) ∧ Desk w' gd gm (putM M (n0, n1) ⟨⟨n0, n1, n2⟩, ⟨-1, false⟩, ⟨0, false⟩⟩) ∧ w.grownBy w' (some gm) := by
 have mixed : Try.prog.follows .mixedOrders = true := by kernel_rfl
 have hu65 := Try.underlying65
 have hu108 := Try.underlying108
 have hu103 := Try.underlying103
 have hu61 := Try.underlying61
 have hu106 := Try.underlying106
 have hu67 := Try.underlying67
 have aa := zA hd.1
 have HM := zA hd.2
 have NGM := zA hd.ne
 have HG := zA (grown_refl w (some gm))
 clear hd
 go_enter Try.func82, Try.ntmps82
 go_upto_region 1 with (first | ((with_reducible refine gate_dst (N := 4) rfl ?_); refine box_event ?hg (N := 4) ?hd (cs := #[.int .i64 kd, .int .i64 sa, .int .i64 sk, .int .i64 n0, .int .i64 n1, .int .i64 n2]) (t := 65) ?hr ?_; (case hd => rfl); (case hg => rfl); (case hr => first | (go_simp; done) | (go_simp; rfl)); intro g4 hg w4 hbox hb; have NM4 : Aside0 (gm ≠ g4) := ⟨by have := HM.out.lt; omega⟩; have ND4 : Aside0 (gd ≠ g4) := ⟨by have := blk_lt aa.out; omega⟩; replace HG := zA (grown_below HG.out hb); replace aa := zA (blk_keep aa.out hb); replace HM := zA (hasM_below HM.out hb); have ab := zA hbox; clear hb hbox hg) | ((with_reducible refine gate_dst (N := 5) rfl ?_); refine box_event ?hg (N := 5) ?hd (cs := #[.int .i64 x0, .int .i64 x1, .int .i64 x2, .int .i64 x3, .bool x4, .int .i64 x5, .bool x6]) (t := 108) ?hr ?_; (case hd => rfl); (case hg => rfl); (case hr => first | (go_simp; done) | (go_simp; rfl)); intro g5 hg w5 hbox hb; have NS : Aside0 (g4 ≠ g5) := ⟨by have := blk_lt ab.out; omega⟩; have NM5 : Aside0 (gm ≠ g5) := ⟨by have := HM.out.lt; omega⟩; have ND5 : Aside0 (gd ≠ g5) := ⟨by have := blk_lt aa.out; omega⟩; have G5 : Aside0 (w.heap.size ≤ g5) := ⟨by rw [hg]; exact HG.out.size⟩; replace HG := zA (grown_below HG.out hb); replace aa := zA (blk_keep aa.out hb); replace HM := zA (hasM_below HM.out hb); replace ab := zA (blk_keep ab.out hb); have BKx := zA hbox; clear hb hbox hg))
 replace HG := zA (grown_below HG.out (below_drew1 (Below.refl _ _)))
 replace aa := zA (blk_drew aa.out)
 replace HM := zA ((HasM.same HM.out rfl : HasM w5.drew ekP ev108 gm M))
 replace ab := zA (blk_drew ab.out)
 refine start_ (n := 12) (S := fun w' => w'.heap[g4]? = some (.cells #[.int .i64 kd, .int .i64 sa, .int .i64 sk, .int .i64 n0, .int .i64 n1, .int .i64 n2] 65 (0, 0)) ∧ w'.heap[gd]? = some (.cells #[.map (some gm)] 103 (0, 0)) ∧ HasM w' ekP ev108 gm M) (ds := [11]) #[false, false, false, false, false, false, false, false, false, false, false, false] (by kernel_rfl) rfl rfl ⟨ab.out, aa.out, HM.out⟩ (fun hHeld => ?_); refine with_tabW insert82.tab1 insert82.bits1 (fun HT_ HW_ => ?_)
 generalize World.drew w5 = W2 at HG aa HM ab hHeld ⊢
 refine pureQ 0 (some 6) HT_ ?_
 refine pureQ 1 (some 7) HT_ ?_
 refine pureQ 2 (some 8) HT_ ?_
 refine pureQ 4 (some 10) HT_ ?_
 refine pureQ 7 (some 13) HT_ ?_
 refine pureQ 9 (some 15) HT_ ?_
 refine takeQ (v := ?_) (a' := ?_) 3 (some 9) HT_ HW_ hHeld ?_ ?_ ?_
 rotate_left
 ·
  rintro w' ⟨s0, s1, s2⟩
  have y0_0 : w'.cell? ⟨g4, 0, none⟩ = some (.int .i64 kd) := (blk_cell s0 0).trans rfl
  have y0_1 : w'.cell? ⟨g4, 1, none⟩ = some (.int .i64 sa) := (blk_cell s0 1).trans rfl
  have y0_2 : w'.cell? ⟨g4, 2, none⟩ = some (.int .i64 sk) := (blk_cell s0 2).trans rfl
  have y0_3 : w'.cell? ⟨g4, 3, none⟩ = some (.int .i64 n0) := (blk_cell s0 3).trans rfl
  have y0_4 : w'.cell? ⟨g4, 4, none⟩ = some (.int .i64 n1) := (blk_cell s0 4).trans rfl
  have y0_5 : w'.cell? ⟨g4, 5, none⟩ = some (.int .i64 n2) := (blk_cell s0 5).trans rfl
  have y1_0 : w'.cell? ⟨gd, 0, none⟩ = some (.map (some gm)) := (blk_cell s1 0).trans rfl
  go_simp
  with_reducible rfl
 rotate_left
 ·
  exact putQ
 refine takeQ (v := ?_) (a' := ?_) 5 (some 11) HT_ HW_ hHeld ?_ ?_ ?_
 rotate_left
 ·
  rintro w' ⟨s0, s1, s2⟩
  have y0_0 : w'.cell? ⟨g4, 0, none⟩ = some (.int .i64 kd) := (blk_cell s0 0).trans rfl
  have y0_1 : w'.cell? ⟨g4, 1, none⟩ = some (.int .i64 sa) := (blk_cell s0 1).trans rfl
  have y0_2 : w'.cell? ⟨g4, 2, none⟩ = some (.int .i64 sk) := (blk_cell s0 2).trans rfl
  have y0_3 : w'.cell? ⟨g4, 3, none⟩ = some (.int .i64 n0) := (blk_cell s0 3).trans rfl
  have y0_4 : w'.cell? ⟨g4, 4, none⟩ = some (.int .i64 n1) := (blk_cell s0 4).trans rfl
  have y0_5 : w'.cell? ⟨g4, 5, none⟩ = some (.int .i64 n2) := (blk_cell s0 5).trans rfl
  have y1_0 : w'.cell? ⟨gd, 0, none⟩ = some (.map (some gm)) := (blk_cell s1 0).trans rfl
  go_simp
  with_reducible rfl
 rotate_left
 ·
  exact putQ
 refine takeQ (v := ?_) (a' := ?_) 8 (some 14) HT_ HW_ hHeld ?_ ?_ ?_
 rotate_left
 ·
  rintro w' ⟨s0, s1, s2⟩
  have y0_0 : w'.cell? ⟨g4, 0, none⟩ = some (.int .i64 kd) := (blk_cell s0 0).trans rfl
  have y0_1 : w'.cell? ⟨g4, 1, none⟩ = some (.int .i64 sa) := (blk_cell s0 1).trans rfl
  have y0_2 : w'.cell? ⟨g4, 2, none⟩ = some (.int .i64 sk) := (blk_cell s0 2).trans rfl
  have y0_3 : w'.cell? ⟨g4, 3, none⟩ = some (.int .i64 n0) := (blk_cell s0 3).trans rfl
  have y0_4 : w'.cell? ⟨g4, 4, none⟩ = some (.int .i64 n1) := (blk_cell s0 4).trans rfl
  have y0_5 : w'.cell? ⟨g4, 5, none⟩ = some (.int .i64 n2) := (blk_cell s0 5).trans rfl
  have y1_0 : w'.cell? ⟨gd, 0, none⟩ = some (.map (some gm)) := (blk_cell s1 0).trans rfl
  go_simp
  with_reducible rfl
 rotate_left
 ·
  exact putQ
 refine pureQ 10 (some 16) HT_ ?_
 refine one_ (i := 6) (N := (some 12)) #[true, true, true, true, true, true, true, true, true, true, true, false] rfl rfl (one_of HT_.out (by kernel_rfl)) (by decide) (fun K hK => ?_)
 refine goes_ Try.func52 (by kernel_rfl) rfl #[.agg #[.int .i64 n0, .int .i64 n1, .int .i64 n2]] (by rfl) rfl rfl (by (try simp only [List.map_toArray, List.map_cons, List.map_nil]); first | done | rfl) ?_
 refine (place52b n0 n1 n2 _).mono ?_
 rintro e w' ⟨rfl, hb⟩
 replace HG := zA (grown_below HG.out hb)
 replace aa := zA (blk_keep aa.out hb)
 replace HM := zA (hasM_below HM.out hb)
 replace ab := zA (blk_keep ab.out hb)
 clear hb
 refine ⟨_, rfl, ?_⟩
 refine hK.out _ _ ⟨ab.out, aa.out, HM.out⟩ (fun hHeld => ?_)
 clear hK K
 refine normQ ?_
 refine last_ (i := 11) (N := none) #[true, true, true, true, true, true, true, true, true, true, true, true] rfl rfl (one_of HT_.out (by kernel_rfl)) (by decide) (fun K hK => ?_)
 obtain ⟨W3, hrun3, hM3, ht3⟩ := storeP HM.out n0 n1 ⟨⟨n0, n1, n2⟩, ⟨-1, false⟩, ⟨0, false⟩⟩
 refine skip_ (w1 := W3) (by rfl) rfl (by go_simp) ?_
 refine hK.out _ _ ?_
 clear hK K
 refine done_ (done_of HT_.out (by kernel_rfl)) ?_
 go_end0
 exact ⟨rfl, ⟨turned_blk ht3 NGM.out aa.out, hM3⟩, grown_turn HG.out ht3⟩
def change83.T1 : Bool × List (List Nat × List Nat) := (true, [([], []), ([0], [0]), ([1], [1]), ([2], [2]), ([], []), ([4], [4]), ([5], [5]), ([3, 6, 6], [3, 6])])
def change83.B1 : List Nat := [0, 1, 3, 7, 0, 16, 48, 127]
theorem change83.tab1 : rtab .any (opsOf Try.f83 1) = change83.T1 := by kernel_rfl
theorem change83.bits1 : waitsOk change83.T1.2 change83.B1 = true := by kernel_rfl
def change83.T3 : Bool × List (List Nat × List Nat) := (true, [([], []), ([0], [0]), ([1], [1]), ([2], [2]), ([], []), ([4], [4]), ([5], [5]), ([], []), ([3, 6, 7, 6, 0, 1, 2, 3, 4, 5, 6, 7], [3, 6, 7])])
def change83.B3 : List Nat := [0, 1, 3, 7, 0, 16, 48, 0, 255]
theorem change83.tab3 : rtab .any (opsOf Try.f83 3) = change83.T3 := by kernel_rfl
theorem change83.bits3 : waitsOk change83.T3.2 change83.B3 = true := by kernel_rfl
set_option maxHeartbeats 4000000 in
set_option maxRecDepth 100000 in
theorem change83 (gd gm : Nat) (M : PM) (kd sa sk n0 n1 n2 x0 x1 x2 x3 x5 : Int) (x4 x6 : Bool) (w : World) (hd : Desk w gd gm M) :
  Calls Try.prog 83 #[.pointer (some ⟨gd, 0, none⟩), .agg #[.int .i64 kd, .int .i64 sa, .int .i64 sk, .int .i64 n0, .int .i64 n1, .int .i64 n2], .agg #[.int .i64 x0, .int .i64 x1, .int .i64 x2, .int .i64 x3, .bool x4, .int .i64 x5, .bool x6]] w fun e w' => e = .returned (.tuple #[]) ∧ Desk w' gd gm (putM (delM M (x0, x1)) (n0, n1) ⟨⟨n0, n1, n2⟩, ⟨x3, x4⟩, ⟨x5, x6⟩⟩) ∧ w.grownBy w' (some gm) := by
 have mixed : Try.prog.follows .mixedOrders = true := by kernel_rfl
 have hu65 := Try.underlying65
 have hu108 := Try.underlying108
 have hu103 := Try.underlying103
 have hu61 := Try.underlying61
 have hu106 := Try.underlying106
 have hu67 := Try.underlying67
 have ab := zA hd.1
 have HM := zA hd.2
 have NGM := zA hd.ne
 have HG := zA (grown_refl w (some gm))
 clear hd
 go_enter Try.func83, Try.ntmps83
 go_upto_region 1 with (first | ((with_reducible refine gate_dst (N := 4) rfl ?_); refine box_event ?hg (N := 4) ?hd (cs := #[.int .i64 kd, .int .i64 sa, .int .i64 sk, .int .i64 n0, .int .i64 n1, .int .i64 n2]) (t := 65) ?hr ?_; (case hd => rfl); (case hg => rfl); (case hr => first | (go_simp; done) | (go_simp; rfl)); intro g4 hg w4 hbox hb; have NM4 : Aside0 (gm ≠ g4) := ⟨by have := HM.out.lt; omega⟩; have ND4 : Aside0 (gd ≠ g4) := ⟨by have := blk_lt ab.out; omega⟩; replace HG := zA (grown_below HG.out hb); replace ab := zA (blk_keep ab.out hb); replace HM := zA (hasM_below HM.out hb); have ac := zA hbox; clear hb hbox hg) | ((with_reducible refine gate_dst (N := 5) rfl ?_); refine box_event ?hg (N := 5) ?hd (cs := #[.int .i64 x0, .int .i64 x1, .int .i64 x2, .int .i64 x3, .bool x4, .int .i64 x5, .bool x6]) (t := 108) ?hr ?_; (case hd => rfl); (case hg => rfl); (case hr => first | (go_simp; done) | (go_simp; rfl)); intro g5 hg w5 hbox hb; have NS : Aside0 (g4 ≠ g5) := ⟨by have := blk_lt ac.out; omega⟩; have NM5 : Aside0 (gm ≠ g5) := ⟨by have := HM.out.lt; omega⟩; have ND5 : Aside0 (gd ≠ g5) := ⟨by have := blk_lt ab.out; omega⟩; have G5 : Aside0 (w.heap.size ≤ g5) := ⟨by rw [hg]; exact HG.out.size⟩; replace HG := zA (grown_below HG.out hb); replace ab := zA (blk_keep ab.out hb); replace HM := zA (hasM_below HM.out hb); replace ac := zA (blk_keep ac.out hb); have aa := zA hbox; clear hb hbox hg))
 replace HG := zA (grown_below HG.out (below_drew1 (Below.refl _ _)))
 replace ab := zA (blk_drew ab.out)
 replace HM := zA ((HasM.same HM.out rfl : HasM w5.drew ekP ev108 gm M))
 replace ac := zA (blk_drew ac.out)
 replace aa := zA (blk_drew aa.out)
 refine start_ (n := 8) (S := fun w' => w'.heap[g4]? = some (.cells #[.int .i64 kd, .int .i64 sa, .int .i64 sk, .int .i64 n0, .int .i64 n1, .int .i64 n2] 65 (0, 0)) ∧ w'.heap[g5]? = some (.cells #[.int .i64 x0, .int .i64 x1, .int .i64 x2, .int .i64 x3, .bool x4, .int .i64 x5, .bool x6] 108 (0, 0)) ∧ w'.heap[gd]? = some (.cells #[.map (some gm)] 103 (0, 0)) ∧ HasM w' ekP ev108 gm M) (ds := [7]) #[false, false, false, false, false, false, false, false] (by kernel_rfl) rfl rfl ⟨ac.out, aa.out, ab.out, HM.out⟩ (fun hHeld => ?_); refine with_tabW change83.tab1 change83.bits1 (fun HT_ HW_ => ?_)
 generalize World.drew w5 = W2 at HG ab HM ac aa hHeld ⊢
 refine pureQ 0 (some 6) HT_ ?_
 refine pureQ 1 (some 7) HT_ ?_
 refine pureQ 2 (some 8) HT_ ?_
 refine pureQ 4 (some 10) HT_ ?_
 refine takeQ (v := ?_) (a' := ?_) 3 (some 9) HT_ HW_ hHeld ?_ ?_ ?_
 rotate_left
 ·
  rintro w' ⟨s0, s1, s2, s3⟩
  have y0_0 : w'.cell? ⟨g4, 0, none⟩ = some (.int .i64 kd) := (blk_cell s0 0).trans rfl
  have y0_1 : w'.cell? ⟨g4, 1, none⟩ = some (.int .i64 sa) := (blk_cell s0 1).trans rfl
  have y0_2 : w'.cell? ⟨g4, 2, none⟩ = some (.int .i64 sk) := (blk_cell s0 2).trans rfl
  have y0_3 : w'.cell? ⟨g4, 3, none⟩ = some (.int .i64 n0) := (blk_cell s0 3).trans rfl
  have y0_4 : w'.cell? ⟨g4, 4, none⟩ = some (.int .i64 n1) := (blk_cell s0 4).trans rfl
  have y0_5 : w'.cell? ⟨g4, 5, none⟩ = some (.int .i64 n2) := (blk_cell s0 5).trans rfl
  have y1_0 : w'.cell? ⟨g5, 0, none⟩ = some (.int .i64 x0) := (blk_cell s1 0).trans rfl
  have y1_1 : w'.cell? ⟨g5, 1, none⟩ = some (.int .i64 x1) := (blk_cell s1 1).trans rfl
  have y1_2 : w'.cell? ⟨g5, 2, none⟩ = some (.int .i64 x2) := (blk_cell s1 2).trans rfl
  have y1_3 : w'.cell? ⟨g5, 3, none⟩ = some (.int .i64 x3) := (blk_cell s1 3).trans rfl
  have y1_4 : w'.cell? ⟨g5, 4, none⟩ = some (.bool x4) := (blk_cell s1 4).trans rfl
  have y1_5 : w'.cell? ⟨g5, 5, none⟩ = some (.int .i64 x5) := (blk_cell s1 5).trans rfl
  have y1_6 : w'.cell? ⟨g5, 6, none⟩ = some (.bool x6) := (blk_cell s1 6).trans rfl
  have y2_0 : w'.cell? ⟨gd, 0, none⟩ = some (.map (some gm)) := (blk_cell s2 0).trans rfl
  go_simp
  with_reducible rfl
 rotate_left
 ·
  exact putQ
 refine takeQ (v := ?_) (a' := ?_) 5 (some 11) HT_ HW_ hHeld ?_ ?_ ?_
 rotate_left
 ·
  rintro w' ⟨s0, s1, s2, s3⟩
  have y0_0 : w'.cell? ⟨g4, 0, none⟩ = some (.int .i64 kd) := (blk_cell s0 0).trans rfl
  have y0_1 : w'.cell? ⟨g4, 1, none⟩ = some (.int .i64 sa) := (blk_cell s0 1).trans rfl
  have y0_2 : w'.cell? ⟨g4, 2, none⟩ = some (.int .i64 sk) := (blk_cell s0 2).trans rfl
  have y0_3 : w'.cell? ⟨g4, 3, none⟩ = some (.int .i64 n0) := (blk_cell s0 3).trans rfl
  have y0_4 : w'.cell? ⟨g4, 4, none⟩ = some (.int .i64 n1) := (blk_cell s0 4).trans rfl
  have y0_5 : w'.cell? ⟨g4, 5, none⟩ = some (.int .i64 n2) := (blk_cell s0 5).trans rfl
  have y1_0 : w'.cell? ⟨g5, 0, none⟩ = some (.int .i64 x0) := (blk_cell s1 0).trans rfl
  have y1_1 : w'.cell? ⟨g5, 1, none⟩ = some (.int .i64 x1) := (blk_cell s1 1).trans rfl
  have y1_2 : w'.cell? ⟨g5, 2, none⟩ = some (.int .i64 x2) := (blk_cell s1 2).trans rfl
  have y1_3 : w'.cell? ⟨g5, 3, none⟩ = some (.int .i64 x3) := (blk_cell s1 3).trans rfl
  have y1_4 : w'.cell? ⟨g5, 4, none⟩ = some (.bool x4) := (blk_cell s1 4).trans rfl
  have y1_5 : w'.cell? ⟨g5, 5, none⟩ = some (.int .i64 x5) := (blk_cell s1 5).trans rfl
  have y1_6 : w'.cell? ⟨g5, 6, none⟩ = some (.bool x6) := (blk_cell s1 6).trans rfl
  have y2_0 : w'.cell? ⟨gd, 0, none⟩ = some (.map (some gm)) := (blk_cell s2 0).trans rfl
  go_simp
  with_reducible rfl
 rotate_left
 ·
  exact putQ
 refine one_ (i := 6) (N := (some 12)) #[true, true, true, true, true, true, true, false] rfl rfl (one_of HT_.out (by kernel_rfl)) (by decide) (fun K hK => ?_)
 refine goes_ Try.func52 (by kernel_rfl) rfl #[.agg #[.int .i64 x0, .int .i64 x1, .int .i64 x2]] (by rfl) rfl rfl (by (try simp only [List.map_toArray, List.map_cons, List.map_nil]); first | done | rfl) ?_
 refine (place52b x0 x1 x2 _).mono ?_
 rintro e w' ⟨rfl, hb⟩
 replace HG := zA (grown_below HG.out hb)
 replace ab := zA (blk_keep ab.out hb)
 replace HM := zA (hasM_below HM.out hb)
 replace ac := zA (blk_keep ac.out hb)
 replace aa := zA (blk_keep aa.out hb)
 clear hb
 refine ⟨_, rfl, ?_⟩
 refine hK.out _ _ ⟨ac.out, aa.out, ab.out, HM.out⟩ (fun hHeld => ?_)
 clear hK K
 refine normQ ?_
 refine last_ (i := 7) (N := none) #[true, true, true, true, true, true, true, true] rfl rfl (one_of HT_.out (by kernel_rfl)) (by decide) (fun K hK => ?_)
 obtain ⟨W3, hrun3, hM3, ht3⟩ := dropP HM.out x0 x1 0
 refine value_ (v := .tuple #[]) (w1 := W3) (by rfl) rfl (by go_simp) ?_
 refine hK.out _ _ ?_
 clear hK K
 refine done_ (done_of HT_.out (by kernel_rfl)) ?_
 have n0_ := zA (turned_blk ht3 NGM.out ab.out); have n1_ := zA (turned_blk ht3 (Ne.symm NM4.out) ac.out); have n2_ := zA (turned_blk ht3 (Ne.symm NM5.out) aa.out); have n3_ := zA (grown_turn HG.out ht3); clear ab ac aa HG HM hrun3 ht3; have ab := n0_; have ac := n1_; have aa := n2_; have HG := n3_
 have HM := zA hM3
 clear n0_ n1_ n2_ n3_ hM3
 have p0 : W3.cell? ⟨g4, 0, none⟩ = some (.int .i64 kd) := (blk_cell ac.out 0).trans rfl
 have p1 : W3.cell? ⟨g4, 1, none⟩ = some (.int .i64 sa) := (blk_cell ac.out 1).trans rfl
 have p2 : W3.cell? ⟨g4, 2, none⟩ = some (.int .i64 sk) := (blk_cell ac.out 2).trans rfl
 have p3 : W3.cell? ⟨g4, 3, none⟩ = some (.int .i64 n0) := (blk_cell ac.out 3).trans rfl
 have p4 : W3.cell? ⟨g4, 4, none⟩ = some (.int .i64 n1) := (blk_cell ac.out 4).trans rfl
 have p5 : W3.cell? ⟨g4, 5, none⟩ = some (.int .i64 n2) := (blk_cell ac.out 5).trans rfl
 have r0 : W3.cell? ⟨g5, 0, none⟩ = some (.int .i64 x0) := (blk_cell aa.out 0).trans rfl
 have r1 : W3.cell? ⟨g5, 1, none⟩ = some (.int .i64 x1) := (blk_cell aa.out 1).trans rfl
 have r2 : W3.cell? ⟨g5, 2, none⟩ = some (.int .i64 x2) := (blk_cell aa.out 2).trans rfl
 have r3 : W3.cell? ⟨g5, 3, none⟩ = some (.int .i64 x3) := (blk_cell aa.out 3).trans rfl
 have r4 : W3.cell? ⟨g5, 4, none⟩ = some (.bool x4) := (blk_cell aa.out 4).trans rfl
 have r5 : W3.cell? ⟨g5, 5, none⟩ = some (.int .i64 x5) := (blk_cell aa.out 5).trans rfl
 have r6 : W3.cell? ⟨g5, 6, none⟩ = some (.bool x6) := (blk_cell aa.out 6).trans rfl
 have rf0 := blk_frozen aa.out 0
 have rf1 := blk_frozen aa.out 1
 have rf2 := blk_frozen aa.out 2
 have rf3 := blk_frozen aa.out 3
 have rf4 := blk_frozen aa.out 4
 have rf5 := blk_frozen aa.out 5
 have rf6 := blk_frozen aa.out 6
 go_upto_region 3 with (fail)
 have n0_ : Aside0 (((World.setCell (World.setCell (World.setCell W3 ⟨g5, 0, none⟩ (.int .i64 n0)) ⟨g5, 1, none⟩ (.int .i64 n1)) ⟨g5, 2, none⟩ (.int .i64 n2))).heap[g5]? = some (.cells #[.int .i64 n0, .int .i64 n1, .int .i64 n2, .int .i64 x3, .bool x4, .int .i64 x5, .bool x6] 108 (0, 0))) := ⟨(blk_put (cs := #[.int .i64 n0, .int .i64 n1, .int .i64 x2, .int .i64 x3, .bool x4, .int .i64 x5, .bool x6]) (blk_put (cs := #[.int .i64 n0, .int .i64 x1, .int .i64 x2, .int .i64 x3, .bool x4, .int .i64 x5, .bool x6]) (blk_put (cs := #[.int .i64 x0, .int .i64 x1, .int .i64 x2, .int .i64 x3, .bool x4, .int .i64 x5, .bool x6]) aa.out 0 (.int .i64 n0) rfl) 1 (.int .i64 n1) rfl) 2 (.int .i64 n2) rfl)⟩
 have n1_ : Aside0 (((World.setCell (World.setCell (World.setCell W3 ⟨g5, 0, none⟩ (.int .i64 n0)) ⟨g5, 1, none⟩ (.int .i64 n1)) ⟨g5, 2, none⟩ (.int .i64 n2))).heap[g4]? = some (.cells #[.int .i64 kd, .int .i64 sa, .int .i64 sk, .int .i64 n0, .int .i64 n1, .int .i64 n2] 65 (0, 0))) := ⟨(blk_far (p := ⟨g5, 2, none⟩) (blk_far (p := ⟨g5, 1, none⟩) (blk_far (p := ⟨g5, 0, none⟩) ac.out (NS.out) (.int .i64 n0)) (NS.out) (.int .i64 n1)) (NS.out) (.int .i64 n2))⟩
 have n2_ : Aside0 (((World.setCell (World.setCell (World.setCell W3 ⟨g5, 0, none⟩ (.int .i64 n0)) ⟨g5, 1, none⟩ (.int .i64 n1)) ⟨g5, 2, none⟩ (.int .i64 n2))).heap[gd]? = some (.cells #[.map (some gm)] 103 (0, 0))) := ⟨(blk_far (p := ⟨g5, 2, none⟩) (blk_far (p := ⟨g5, 1, none⟩) (blk_far (p := ⟨g5, 0, none⟩) ab.out (ND5.out) (.int .i64 n0)) (ND5.out) (.int .i64 n1)) (ND5.out) (.int .i64 n2))⟩
 have n3_ : Aside0 (HasM ((World.setCell (World.setCell (World.setCell W3 ⟨g5, 0, none⟩ (.int .i64 n0)) ⟨g5, 1, none⟩ (.int .i64 n1)) ⟨g5, 2, none⟩ (.int .i64 n2))) ekP ev108 gm (delM M (x0, x1))) := ⟨HM.out.same (by rw [Below.heap_setCell _ ⟨g5, 2, none⟩ _ gm NM5.out, Below.heap_setCell _ ⟨g5, 1, none⟩ _ gm NM5.out, Below.heap_setCell _ ⟨g5, 0, none⟩ _ gm NM5.out])⟩
 have n4_ : Aside0 (w.grownBy ((World.setCell (World.setCell (World.setCell W3 ⟨g5, 0, none⟩ (.int .i64 n0)) ⟨g5, 1, none⟩ (.int .i64 n1)) ⟨g5, 2, none⟩ (.int .i64 n2))) (some gm)) := ⟨grown_set (grown_set (grown_set HG.out G5.out _ trivial) G5.out _ trivial) G5.out _ trivial⟩
 clear ac aa ab HM HG p0 p1 p2 p3 p4 p5 r0 rf0 r1 rf1 r2 rf2 r3 rf3 r4 rf4 r5 rf5 r6 rf6; generalize (World.setCell (World.setCell (World.setCell W3 ⟨g5, 0, none⟩ (.int .i64 n0)) ⟨g5, 1, none⟩ (.int .i64 n1)) ⟨g5, 2, none⟩ (.int .i64 n2)) = W4 at n0_ n1_ n2_ n3_ n4_ ⊢; have aa := n0_; have ac := n1_; have ab := n2_; have HM := n3_; have HG := n4_; clear n0_ n1_ n2_ n3_ n4_
 replace HG := zA (grown_below HG.out (below_drew1 (Below.refl _ _)))
 replace ab := zA (blk_drew ab.out)
 replace HM := zA ((HasM.same HM.out rfl : HasM W4.drew ekP ev108 gm (delM M (x0, x1))))
 replace aa := zA (blk_drew aa.out)
 refine start_ (n := 9) (S := fun w' => w'.heap[g5]? = some (.cells #[.int .i64 n0, .int .i64 n1, .int .i64 n2, .int .i64 x3, .bool x4, .int .i64 x5, .bool x6] 108 (0, 0)) ∧ w'.heap[gd]? = some (.cells #[.map (some gm)] 103 (0, 0)) ∧ HasM w' ekP ev108 gm (delM M (x0, x1))) (ds := [8]) #[false, false, false, false, false, false, false, false, false] (by kernel_rfl) rfl rfl ⟨aa.out, ab.out, HM.out⟩ (fun hHeld => ?_); refine with_tabW change83.tab3 change83.bits3 (fun HT_ HW_ => ?_)
 generalize World.drew W4 = W5 at HG ab HM aa hHeld ⊢
 refine pureQ 0 (some 16) HT_ ?_
 refine pureQ 1 (some 17) HT_ ?_
 refine pureQ 2 (some 18) HT_ ?_
 refine pureQ 4 (some 20) HT_ ?_
 refine takeQ (v := ?_) (a' := ?_) 3 (some 19) HT_ HW_ hHeld ?_ ?_ ?_
 rotate_left
 ·
  rintro w' ⟨s0, s1, s2⟩
  have y0_0 : w'.cell? ⟨g5, 0, none⟩ = some (.int .i64 n0) := (blk_cell s0 0).trans rfl
  have y0_1 : w'.cell? ⟨g5, 1, none⟩ = some (.int .i64 n1) := (blk_cell s0 1).trans rfl
  have y0_2 : w'.cell? ⟨g5, 2, none⟩ = some (.int .i64 n2) := (blk_cell s0 2).trans rfl
  have y0_3 : w'.cell? ⟨g5, 3, none⟩ = some (.int .i64 x3) := (blk_cell s0 3).trans rfl
  have y0_4 : w'.cell? ⟨g5, 4, none⟩ = some (.bool x4) := (blk_cell s0 4).trans rfl
  have y0_5 : w'.cell? ⟨g5, 5, none⟩ = some (.int .i64 x5) := (blk_cell s0 5).trans rfl
  have y0_6 : w'.cell? ⟨g5, 6, none⟩ = some (.bool x6) := (blk_cell s0 6).trans rfl
  have y1_0 : w'.cell? ⟨gd, 0, none⟩ = some (.map (some gm)) := (blk_cell s1 0).trans rfl
  go_simp
  with_reducible rfl
 rotate_left
 ·
  exact putQ
 refine takeQ (v := ?_) (a' := ?_) 5 (some 21) HT_ HW_ hHeld ?_ ?_ ?_
 rotate_left
 ·
  rintro w' ⟨s0, s1, s2⟩
  have y0_0 : w'.cell? ⟨g5, 0, none⟩ = some (.int .i64 n0) := (blk_cell s0 0).trans rfl
  have y0_1 : w'.cell? ⟨g5, 1, none⟩ = some (.int .i64 n1) := (blk_cell s0 1).trans rfl
  have y0_2 : w'.cell? ⟨g5, 2, none⟩ = some (.int .i64 n2) := (blk_cell s0 2).trans rfl
  have y0_3 : w'.cell? ⟨g5, 3, none⟩ = some (.int .i64 x3) := (blk_cell s0 3).trans rfl
  have y0_4 : w'.cell? ⟨g5, 4, none⟩ = some (.bool x4) := (blk_cell s0 4).trans rfl
  have y0_5 : w'.cell? ⟨g5, 5, none⟩ = some (.int .i64 x5) := (blk_cell s0 5).trans rfl
  have y0_6 : w'.cell? ⟨g5, 6, none⟩ = some (.bool x6) := (blk_cell s0 6).trans rfl
  have y1_0 : w'.cell? ⟨gd, 0, none⟩ = some (.map (some gm)) := (blk_cell s1 0).trans rfl
  go_simp
  with_reducible rfl
 rotate_left
 ·
  exact putQ
 refine takeQ (v := ?_) (a' := ?_) 7 (some 23) HT_ HW_ hHeld ?_ ?_ ?_
 rotate_left
 ·
  rintro w' ⟨s0, s1, s2⟩
  have y0_0 : w'.cell? ⟨g5, 0, none⟩ = some (.int .i64 n0) := (blk_cell s0 0).trans rfl
  have y0_1 : w'.cell? ⟨g5, 1, none⟩ = some (.int .i64 n1) := (blk_cell s0 1).trans rfl
  have y0_2 : w'.cell? ⟨g5, 2, none⟩ = some (.int .i64 n2) := (blk_cell s0 2).trans rfl
  have y0_3 : w'.cell? ⟨g5, 3, none⟩ = some (.int .i64 x3) := (blk_cell s0 3).trans rfl
  have y0_4 : w'.cell? ⟨g5, 4, none⟩ = some (.bool x4) := (blk_cell s0 4).trans rfl
  have y0_5 : w'.cell? ⟨g5, 5, none⟩ = some (.int .i64 x5) := (blk_cell s0 5).trans rfl
  have y0_6 : w'.cell? ⟨g5, 6, none⟩ = some (.bool x6) := (blk_cell s0 6).trans rfl
  have y1_0 : w'.cell? ⟨gd, 0, none⟩ = some (.map (some gm)) := (blk_cell s1 0).trans rfl
  go_simp
  with_reducible rfl
 rotate_left
 ·
  exact putQ
 refine one_ (i := 6) (N := (some 22)) #[true, true, true, true, true, true, true, true, false] rfl rfl (one_of HT_.out (by kernel_rfl)) (by decide) (fun K hK => ?_)
 refine goes_ Try.func52 (by kernel_rfl) rfl #[.agg #[.int .i64 n0, .int .i64 n1, .int .i64 n2]] (by rfl) rfl rfl (by (try simp only [List.map_toArray, List.map_cons, List.map_nil]); first | done | rfl) ?_
 refine (place52b n0 n1 n2 _).mono ?_
 rintro e w' ⟨rfl, hb⟩
 replace HG := zA (grown_below HG.out hb)
 replace ab := zA (blk_keep ab.out hb)
 replace HM := zA (hasM_below HM.out hb)
 replace aa := zA (blk_keep aa.out hb)
 clear hb
 refine ⟨_, rfl, ?_⟩
 refine hK.out _ _ ⟨aa.out, ab.out, HM.out⟩ (fun hHeld => ?_)
 clear hK K
 refine normQ ?_
 refine last_ (i := 8) (N := none) #[true, true, true, true, true, true, true, true, true] rfl rfl (one_of HT_.out (by kernel_rfl)) (by decide) (fun K hK => ?_)
 obtain ⟨W3, hrun3, hM3, ht3⟩ := storeP HM.out n0 n1 ⟨⟨n0, n1, n2⟩, ⟨x3, x4⟩, ⟨x5, x6⟩⟩
 refine skip_ (w1 := W3) (by rfl) rfl (by go_simp) ?_
 refine hK.out _ _ ?_
 clear hK K
 refine done_ (done_of HT_.out (by kernel_rfl)) ?_
 go_end0
 exact ⟨rfl, ⟨turned_blk ht3 NGM.out ab.out, hM3⟩, grown_turn HG.out ht3⟩
def repeat84.T2 : Bool × List (List Nat × List Nat) := (true, [([], []), ([0], [0]), ([1], [1]), ([2], [2]), ([], []), ([4], [4]), ([5], [5]), ([], []), ([7], [7]), ([], []), ([], []), ([10], [10]), ([9, 11], [9, 11]), ([8, 12], [8, 12]), ([3, 6, 13, 6, 0, 1, 2, 3, 4, 5, 6, 7, 8, 9, 10, 11, 12, 13], [3, 6, 13])])
def repeat84.B2 : List Nat := [0, 1, 3, 7, 0, 16, 48, 0, 128, 0, 0, 1024, 3584, 8064, 16383]
theorem repeat84.tab2 : rtab .any (opsOf Try.f84 2) = repeat84.T2 := by kernel_rfl
theorem repeat84.bits2 : waitsOk repeat84.T2.2 repeat84.B2 = true := by kernel_rfl
set_option maxHeartbeats 4000000 in
set_option maxRecDepth 100000 in
theorem repeat84 (gd gm : Nat) (M : PM) (kd sa sk n0 n1 n2 x0 x1 x2 x3 x5 : Int) (x4 x6 : Bool) (w : World) (hd : Desk w gd gm M) :
  Calls Try.prog 84 #[.pointer (some ⟨gd, 0, none⟩), .agg #[.int .i64 kd, .int .i64 sa, .int .i64 sk, .int .i64 n0, .int .i64 n1, .int .i64 n2], .agg #[.int .i64 x0, .int .i64 x1, .int .i64 x2, .int .i64 x3, .bool x4, .int .i64 x5, .bool x6]] w fun e w' => e = .returned (.tuple #[]) ∧ Desk w' gd gm (putM M (n0, n1) ⟨⟨n0, n1, n2⟩, ⟨x3, decide (0 ≤ x3)⟩, ⟨0, false⟩⟩) ∧ w.grownBy w' (some gm) := by
 have mixed : Try.prog.follows .mixedOrders = true := by kernel_rfl
 have hu65 := Try.underlying65
 have hu108 := Try.underlying108
 have hu103 := Try.underlying103
 have hu61 := Try.underlying61
 have hu106 := Try.underlying106
 have hu67 := Try.underlying67
 have aa := zA hd.1
 have HM := zA hd.2
 have NGM := zA hd.ne
 have HG := zA (grown_refl w (some gm))
 clear hd
 go_enter Try.func84, Try.ntmps84
 go_upto_region 1 with (first | ((with_reducible refine gate_dst (N := 4) rfl ?_); refine box_event ?hg (N := 4) ?hd (cs := #[.int .i64 kd, .int .i64 sa, .int .i64 sk, .int .i64 n0, .int .i64 n1, .int .i64 n2]) (t := 65) ?hr ?_; (case hd => rfl); (case hg => rfl); (case hr => first | (go_simp; done) | (go_simp; rfl)); intro g4 hg w4 hbox hb; have NM4 : Aside0 (gm ≠ g4) := ⟨by have := HM.out.lt; omega⟩; have ND4 : Aside0 (gd ≠ g4) := ⟨by have := blk_lt aa.out; omega⟩; replace HG := zA (grown_below HG.out hb); replace aa := zA (blk_keep aa.out hb); replace HM := zA (hasM_below HM.out hb); have ab := zA hbox; clear hb hbox hg) | ((with_reducible refine gate_dst (N := 5) rfl ?_); refine box_event ?hg (N := 5) ?hd (cs := #[.int .i64 x0, .int .i64 x1, .int .i64 x2, .int .i64 x3, .bool x4, .int .i64 x5, .bool x6]) (t := 108) ?hr ?_; (case hd => rfl); (case hg => rfl); (case hr => first | (go_simp; done) | (go_simp; rfl)); intro g5 hg w5 hbox hb; have NS : Aside0 (g4 ≠ g5) := ⟨by have := blk_lt ab.out; omega⟩; have NM5 : Aside0 (gm ≠ g5) := ⟨by have := HM.out.lt; omega⟩; have ND5 : Aside0 (gd ≠ g5) := ⟨by have := blk_lt aa.out; omega⟩; have G5 : Aside0 (w.heap.size ≤ g5) := ⟨by rw [hg]; exact HG.out.size⟩; replace HG := zA (grown_below HG.out hb); replace aa := zA (blk_keep aa.out hb); replace HM := zA (hasM_below HM.out hb); replace ab := zA (blk_keep ab.out hb); have ac := zA hbox; clear hb hbox hg))
 have r0 : w5.cell? ⟨g5, 0, none⟩ = some (.int .i64 x0) := (blk_cell ac.out 0).trans rfl
 have r1 : w5.cell? ⟨g5, 1, none⟩ = some (.int .i64 x1) := (blk_cell ac.out 1).trans rfl
 have r2 : w5.cell? ⟨g5, 2, none⟩ = some (.int .i64 x2) := (blk_cell ac.out 2).trans rfl
 have r3 : w5.cell? ⟨g5, 3, none⟩ = some (.int .i64 x3) := (blk_cell ac.out 3).trans rfl
 have r4 : w5.cell? ⟨g5, 4, none⟩ = some (.bool x4) := (blk_cell ac.out 4).trans rfl
 have r5 : w5.cell? ⟨g5, 5, none⟩ = some (.int .i64 x5) := (blk_cell ac.out 5).trans rfl
 have r6 : w5.cell? ⟨g5, 6, none⟩ = some (.bool x6) := (blk_cell ac.out 6).trans rfl
 go_upto_region 2 with (fail)
 clear r0 r1 r2 r3 r4 r5 r6
 replace HG := zA (grown_below HG.out (below_drew1 (Below.refl _ _)))
 replace aa := zA (blk_drew aa.out)
 replace HM := zA ((HasM.same HM.out rfl : HasM w5.drew ekP ev108 gm M))
 replace ab := zA (blk_drew ab.out)
 refine start_ (n := 15) (S := fun w' => w'.heap[g4]? = some (.cells #[.int .i64 kd, .int .i64 sa, .int .i64 sk, .int .i64 n0, .int .i64 n1, .int .i64 n2] 65 (0, 0)) ∧ w'.heap[gd]? = some (.cells #[.map (some gm)] 103 (0, 0)) ∧ HasM w' ekP ev108 gm M) (ds := [14]) #[false, false, false, false, false, false, false, false, false, false, false, false, false, false, false] (by kernel_rfl) rfl rfl ⟨ab.out, aa.out, HM.out⟩ (fun hHeld => ?_); refine with_tabW repeat84.tab2 repeat84.bits2 (fun HT_ HW_ => ?_)
 generalize World.drew w5 = W2 at HG aa HM ab hHeld ⊢
 refine pureQ 0 (some 10) HT_ ?_
 refine pureQ 1 (some 11) HT_ ?_
 refine pureQ 2 (some 12) HT_ ?_
 refine pureQ 4 (some 14) HT_ ?_
 refine pureQ 7 (some 17) HT_ ?_
 refine pureQ 9 (some 19) HT_ ?_
 refine pureQ 10 (some 20) HT_ ?_
 refine pureQ 11 (some 21) HT_ ?_
 refine pureQ 12 (some 22) HT_ ?_
 refine takeQ (v := ?_) (a' := ?_) 3 (some 13) HT_ HW_ hHeld ?_ ?_ ?_
 rotate_left
 ·
  rintro w' ⟨s0, s1, s2⟩
  have y0_0 : w'.cell? ⟨g4, 0, none⟩ = some (.int .i64 kd) := (blk_cell s0 0).trans rfl
  have y0_1 : w'.cell? ⟨g4, 1, none⟩ = some (.int .i64 sa) := (blk_cell s0 1).trans rfl
  have y0_2 : w'.cell? ⟨g4, 2, none⟩ = some (.int .i64 sk) := (blk_cell s0 2).trans rfl
  have y0_3 : w'.cell? ⟨g4, 3, none⟩ = some (.int .i64 n0) := (blk_cell s0 3).trans rfl
  have y0_4 : w'.cell? ⟨g4, 4, none⟩ = some (.int .i64 n1) := (blk_cell s0 4).trans rfl
  have y0_5 : w'.cell? ⟨g4, 5, none⟩ = some (.int .i64 n2) := (blk_cell s0 5).trans rfl
  have y1_0 : w'.cell? ⟨gd, 0, none⟩ = some (.map (some gm)) := (blk_cell s1 0).trans rfl
  go_simp
  with_reducible rfl
 rotate_left
 ·
  exact putQ
 refine takeQ (v := ?_) (a' := ?_) 5 (some 15) HT_ HW_ hHeld ?_ ?_ ?_
 rotate_left
 ·
  rintro w' ⟨s0, s1, s2⟩
  have y0_0 : w'.cell? ⟨g4, 0, none⟩ = some (.int .i64 kd) := (blk_cell s0 0).trans rfl
  have y0_1 : w'.cell? ⟨g4, 1, none⟩ = some (.int .i64 sa) := (blk_cell s0 1).trans rfl
  have y0_2 : w'.cell? ⟨g4, 2, none⟩ = some (.int .i64 sk) := (blk_cell s0 2).trans rfl
  have y0_3 : w'.cell? ⟨g4, 3, none⟩ = some (.int .i64 n0) := (blk_cell s0 3).trans rfl
  have y0_4 : w'.cell? ⟨g4, 4, none⟩ = some (.int .i64 n1) := (blk_cell s0 4).trans rfl
  have y0_5 : w'.cell? ⟨g4, 5, none⟩ = some (.int .i64 n2) := (blk_cell s0 5).trans rfl
  have y1_0 : w'.cell? ⟨gd, 0, none⟩ = some (.map (some gm)) := (blk_cell s1 0).trans rfl
  go_simp
  with_reducible rfl
 rotate_left
 ·
  exact putQ
 refine takeQ (v := ?_) (a' := ?_) 8 (some 18) HT_ HW_ hHeld ?_ ?_ ?_
 rotate_left
 ·
  rintro w' ⟨s0, s1, s2⟩
  have y0_0 : w'.cell? ⟨g4, 0, none⟩ = some (.int .i64 kd) := (blk_cell s0 0).trans rfl
  have y0_1 : w'.cell? ⟨g4, 1, none⟩ = some (.int .i64 sa) := (blk_cell s0 1).trans rfl
  have y0_2 : w'.cell? ⟨g4, 2, none⟩ = some (.int .i64 sk) := (blk_cell s0 2).trans rfl
  have y0_3 : w'.cell? ⟨g4, 3, none⟩ = some (.int .i64 n0) := (blk_cell s0 3).trans rfl
  have y0_4 : w'.cell? ⟨g4, 4, none⟩ = some (.int .i64 n1) := (blk_cell s0 4).trans rfl
  have y0_5 : w'.cell? ⟨g4, 5, none⟩ = some (.int .i64 n2) := (blk_cell s0 5).trans rfl
  have y1_0 : w'.cell? ⟨gd, 0, none⟩ = some (.map (some gm)) := (blk_cell s1 0).trans rfl
  go_simp
  with_reducible rfl
 rotate_left
 ·
  exact putQ
 refine pureQ 13 (some 23) HT_ ?_
 refine one_ (i := 6) (N := (some 16)) #[true, true, true, true, true, true, true, true, true, true, true, true, true, true, false] rfl rfl (one_of HT_.out (by kernel_rfl)) (by decide) (fun K hK => ?_)
 refine goes_ Try.func52 (by kernel_rfl) rfl #[.agg #[.int .i64 n0, .int .i64 n1, .int .i64 n2]] (by rfl) rfl rfl (by (try simp only [List.map_toArray, List.map_cons, List.map_nil]); first | done | rfl) ?_
 refine (place52b n0 n1 n2 _).mono ?_
 rintro e w' ⟨rfl, hb⟩
 replace HG := zA (grown_below HG.out hb)
 replace aa := zA (blk_keep aa.out hb)
 replace HM := zA (hasM_below HM.out hb)
 replace ab := zA (blk_keep ab.out hb)
 clear hb
 refine ⟨_, rfl, ?_⟩
 refine hK.out _ _ ⟨ab.out, aa.out, HM.out⟩ (fun hHeld => ?_)
 clear hK K
 refine normQ ?_
 refine last_ (i := 14) (N := none) #[true, true, true, true, true, true, true, true, true, true, true, true, true, true, true] rfl rfl (one_of HT_.out (by kernel_rfl)) (by decide) (fun K hK => ?_)
 obtain ⟨W3, hrun3, hM3, ht3⟩ := storeP HM.out n0 n1 ⟨⟨n0, n1, n2⟩, ⟨x3, decide (0 ≤ x3)⟩, ⟨0, false⟩⟩
 refine skip_ (w1 := W3) (by rfl) rfl (by go_simp) ?_
 refine hK.out _ _ ?_
 clear hK K
 refine done_ (done_of HT_.out (by kernel_rfl)) ?_
 go_end0
 exact ⟨rfl, ⟨turned_blk ht3 NGM.out aa.out, hM3⟩, grown_turn HG.out ht3⟩
end Go.Proofs.Ytehpbmdphfbooaa.P
end
section
namespace Go.Proofs.Ytehpbmdphfbooaa.P
open Go.RowKit Go.Proofs Go.Proofs.YtehpbmdphfbooaaW.PrintWords Go.Proofs.YtehpbmdphfbooaaW.PrintLast Go.Proofs.YtehpbmdphfbooaaW.PrintMore
set_option linter.unusedVariables false
set_option linter.unusedSimpArgs false
theorem goesC_ {P : Program} {ops : Array Oper} {Q : Exit → Act → World → Prop} {oi : Oper} {N : Option Tmp} {a : Act} {w : World} {K : Act → World → Prop} {f : FuncId} {fn : Func} {t : Operand} {xs : Array Operand} {ts : Array TypeId} (cap : Array Value) (ht : a.eval t = .func (.func f) #[] cap) (hf : P.funcs[f]? = some fn) (hname : (fn.name == "runtime.NumGoroutine") = false) (hb : fn.body.isSome = true) (args : Array Value)
    (hw : Region.wanted oi (yielded ops a.tmps) = true) (hN : oi.dst = N) (hop : oi.op = .call { callee := .value t, args := xs, argTypes := ts }) (hargs : xs.map a.eval = args)
    (h : Calls P f (args ++ cap) w fun e w' => ∃ v, e = .returned v ∧ K (a.put N v) w') : if Region.wanted oi (yielded ops a.tmps) = true then Oper.wp P oi a w K Q else K (a.put N undef) w := by
  refine call_ f (args ++ cap) hw hN ?_ h
  have he := enters_ hf hname hb (args ++ cap) w
  unfold execOp
  simp [hop, resolve, Deferred.ofValue, invoke, ht, hargs, he]
theorem grown_both {A W W' : World} {row : Option Nat} (h : A.grownBy W row) (k : W.grownBy W' row) : A.grownBy W' row :=
  ⟨k.os.trans h.os, k.tape.trans h.tape, k.output.trans h.output, Nat.le_trans h.size k.size, fun i hi hne => (k.block i (Nat.lt_of_lt_of_le hi h.size) hne).trans (h.block i hi hne)⟩
def doM (M : PM) (kd sa sk n0 n1 n2 : Int) : PM :=
  if kd = 1 then delM M (sa, sk)
  else if kd = 2 then putM M (n0, n1) ⟨⟨n0, n1, n2⟩, ⟨-1, false⟩, ⟨0, false⟩⟩
  else if kd = 3 then putM (delM M (plc (lookP M (sa, sk)))) (n0, n1) ⟨⟨n0, n1, n2⟩, (lookP M (sa, sk)).f1, (lookP M (sa, sk)).f2⟩
  else putM M (n0, n1) ⟨⟨n0, n1, n2⟩, ⟨(lookP M (sa, sk)).f1.f0, decide (0 ≤ (lookP M (sa, sk)).f1.f0)⟩, ⟨0, false⟩⟩
def do47.T2 : Bool × List (List Nat × List Nat) := (true, [([], []), ([], []), ([1], [1]), ([0, 2], [0, 2]), ([3], [3]), ([], []), ([], []), ([], []), ([7], [7]), ([8], [8]), ([9], [9]), ([], []), ([11], [11]), ([], []), ([13], [13]), ([12, 14], [12, 14]), ([10, 15], [10, 15]), ([4, 5, 6, 16], [4, 5, 6, 16])])
def do47.B2 : List Nat := [0, 0, 2, 7, 15, 0, 0, 0, 128, 384, 896, 0, 2048, 0, 8192, 30720, 65408, 131071]
theorem do47.tab2 : rtab .any (opsOf Try.f47 2) = do47.T2 := by kernel_rfl
theorem do47.bits2 : waitsOk do47.T2.2 do47.B2 = true := by kernel_rfl
set_option maxHeartbeats 4000000 in
set_option maxRecDepth 100000 in
theorem do47 (gd gm : Nat) (M : PM) (kd sa sk n0 n1 n2 : Int) (w : World) (hd : Desk w gd gm M) (hk : 1 ≤ kd ∧ kd ≤ 4) :
  Calls Try.prog 47 #[.pointer (some ⟨gd, 0, none⟩), .agg #[.int .i64 kd, .int .i64 sa, .int .i64 sk, .int .i64 n0, .int .i64 n1, .int .i64 n2]] w fun e w' => e = .returned (.tuple #[]) ∧ Desk w' gd gm (doM M kd sa sk n0 n1 n2) ∧ w.grownBy w' (some gm) := by
 have mixed : Try.prog.follows .mixedOrders = true := by kernel_rfl
 have hu65 := Try.underlying65
 have hu103 := Try.underlying103
 have hu106 := Try.underlying106
 have aa := zA hd.1
 have HM := zA hd.2
 have NGM := zA hd.ne
 have HG := zA (grown_refl w (some gm))
 clear hd
 have hcase : kd = 1 ∨ kd = 2 ∨ kd = 3 ∨ kd = 4 := by omega
 clear hk
 rcases hcase with rfl | rfl | rfl | rfl
 ·
  go_enter Try.func47, Try.ntmps47
  go_upto_region 1 with (first | ((with_reducible refine gate_dst (N := 3) rfl ?_); refine box_event ?hg (N := 3) ?hd (cs := #[.int .i64 1, .int .i64 sa, .int .i64 sk, .int .i64 n0, .int .i64 n1, .int .i64 n2]) (t := 65) ?hr ?_; (case hd => rfl); (case hg => rfl); (case hr => first | (go_simp; done) | (go_simp; rfl)); intro g3 hg w3 hbox hb; have NM3 : Aside0 (gm ≠ g3) := ⟨by have := HM.out.lt; omega⟩; have ND3 : Aside0 (gd ≠ g3) := ⟨by have := blk_lt aa.out; omega⟩; replace HG := zA (grown_below HG.out hb); replace aa := zA (blk_keep aa.out hb); replace HM := zA (hasM_below HM.out hb); have ab := zA hbox; clear hb hbox hg))
  go_upto_region 2 with (fail)
  obtain ⟨gf, hgf⟩ : ∃ g_ : Nat, g_ = w3.heap.size := ⟨_, rfl⟩
  have hb := below_alloc (Below.refl w3.heap.size w3) (.cells #[.nilFunc, .func (.func 81) #[] #[], .func (.func 82) #[] #[], .func (.func 83) #[] #[], .func (.func 84) #[] #[]] 153)
  have ac := zA (heap_alloc_new w3 (.cells #[.nilFunc, .func (.func 81) #[] #[], .func (.func 82) #[] #[], .func (.func 83) #[] #[], .func (.func 84) #[] #[]] 153))
  rw [← hgf] at ac ⊢
  replace HG := zA (grown_below HG.out hb)
  replace aa := zA (blk_keep aa.out hb)
  replace HM := zA (hasM_below HM.out hb)
  replace ab := zA (blk_keep ab.out hb)
  clear hb hgf; generalize w3.alloc (.cells #[.nilFunc, .func (.func 81) #[] #[], .func (.func 82) #[] #[], .func (.func 83) #[] #[], .func (.func 84) #[] #[]] 153) = w4 at ac HG aa HM ab ⊢
  replace HG := zA (grown_below HG.out (below_drew1 (Below.refl _ _)))
  replace aa := zA (blk_drew aa.out)
  replace HM := zA ((HasM.same HM.out rfl : HasM w4.drew ekP ev108 gm M))
  replace ab := zA (blk_drew ab.out)
  replace ac := zA (blk_drew ac.out)
  refine start_ (n := 18) (S := fun w' => w'.heap[g3]? = some (.cells #[.int .i64 1, .int .i64 sa, .int .i64 sk, .int .i64 n0, .int .i64 n1, .int .i64 n2] 65 (0, 0)) ∧ w'.heap[gf]? = some (.cells #[.nilFunc, .func (.func 81) #[] #[], .func (.func 82) #[] #[], .func (.func 83) #[] #[], .func (.func 84) #[] #[]] 153 (0, 0)) ∧ w'.heap[gd]? = some (.cells #[.map (some gm)] 103 (0, 0)) ∧ HasM w' ekP ev108 gm M) (ds := [17]) #[false, false, false, false, false, false, false, false, false, false, false, false, false, false, false, false, false, false] (by kernel_rfl) rfl rfl ⟨ab.out, ac.out, aa.out, HM.out⟩ (fun hHeld => ?_); refine with_tabW do47.tab2 do47.bits2 (fun HT_ HW_ => ?_)
  generalize World.drew w4 = w5 at HG aa HM ab ac hHeld ⊢
  refine pureQ 0 (some 6) HT_ ?_
  refine pureQ 1 (some 7) HT_ ?_
  refine pureQ 5 (some 11) HT_ ?_
  refine pureQ 7 (some 13) HT_ ?_
  refine pureQ 8 (some 14) HT_ ?_
  refine pureQ 9 (some 15) HT_ ?_
  refine pureQ 11 (some 17) HT_ ?_
  refine pureQ 13 (some 19) HT_ ?_
  refine takeQ (v := ?_) (a' := ?_) 2 (some 8) HT_ HW_ hHeld ?_ ?_ ?_
  rotate_left
  ·
   rintro w' ⟨s0, s1, s2, s3⟩
   have y0_0 : w'.cell? ⟨g3, 0, none⟩ = some (.int .i64 1) := (blk_cell s0 0).trans rfl
   have y0_1 : w'.cell? ⟨g3, 1, none⟩ = some (.int .i64 sa) := (blk_cell s0 1).trans rfl
   have y0_2 : w'.cell? ⟨g3, 2, none⟩ = some (.int .i64 sk) := (blk_cell s0 2).trans rfl
   have y0_3 : w'.cell? ⟨g3, 3, none⟩ = some (.int .i64 n0) := (blk_cell s0 3).trans rfl
   have y0_4 : w'.cell? ⟨g3, 4, none⟩ = some (.int .i64 n1) := (blk_cell s0 4).trans rfl
   have y0_5 : w'.cell? ⟨g3, 5, none⟩ = some (.int .i64 n2) := (blk_cell s0 5).trans rfl
   have y1_0 : w'.cell? ⟨gf, 0, none⟩ = some (.nilFunc) := (blk_cell s1 0).trans rfl
   have y1_1 : w'.cell? ⟨gf, 1, none⟩ = some (.func (.func 81) #[] #[]) := (blk_cell s1 1).trans rfl
   have y1_2 : w'.cell? ⟨gf, 2, none⟩ = some (.func (.func 82) #[] #[]) := (blk_cell s1 2).trans rfl
   have y1_3 : w'.cell? ⟨gf, 3, none⟩ = some (.func (.func 83) #[] #[]) := (blk_cell s1 3).trans rfl
   have y1_4 : w'.cell? ⟨gf, 4, none⟩ = some (.func (.func 84) #[] #[]) := (blk_cell s1 4).trans rfl
   have y2_0 : w'.cell? ⟨gd, 0, none⟩ = some (.map (some gm)) := (blk_cell s2 0).trans rfl
   go_simp
   with_reducible rfl
  rotate_left
  ·
   exact putQ
  refine pureQ 3 (some 9) HT_ ?_
  refine takeQ (v := ?_) (a' := ?_) 4 (some 10) HT_ HW_ hHeld ?_ ?_ ?_
  rotate_left
  ·
   rintro w' ⟨s0, s1, s2, s3⟩
   have y0_0 : w'.cell? ⟨g3, 0, none⟩ = some (.int .i64 1) := (blk_cell s0 0).trans rfl
   have y0_1 : w'.cell? ⟨g3, 1, none⟩ = some (.int .i64 sa) := (blk_cell s0 1).trans rfl
   have y0_2 : w'.cell? ⟨g3, 2, none⟩ = some (.int .i64 sk) := (blk_cell s0 2).trans rfl
   have y0_3 : w'.cell? ⟨g3, 3, none⟩ = some (.int .i64 n0) := (blk_cell s0 3).trans rfl
   have y0_4 : w'.cell? ⟨g3, 4, none⟩ = some (.int .i64 n1) := (blk_cell s0 4).trans rfl
   have y0_5 : w'.cell? ⟨g3, 5, none⟩ = some (.int .i64 n2) := (blk_cell s0 5).trans rfl
   have y1_0 : w'.cell? ⟨gf, 0, none⟩ = some (.nilFunc) := (blk_cell s1 0).trans rfl
   have y1_1 : w'.cell? ⟨gf, 1, none⟩ = some (.func (.func 81) #[] #[]) := (blk_cell s1 1).trans rfl
   have y1_2 : w'.cell? ⟨gf, 2, none⟩ = some (.func (.func 82) #[] #[]) := (blk_cell s1 2).trans rfl
   have y1_3 : w'.cell? ⟨gf, 3, none⟩ = some (.func (.func 83) #[] #[]) := (blk_cell s1 3).trans rfl
   have y1_4 : w'.cell? ⟨gf, 4, none⟩ = some (.func (.func 84) #[] #[]) := (blk_cell s1 4).trans rfl
   have y2_0 : w'.cell? ⟨gd, 0, none⟩ = some (.map (some gm)) := (blk_cell s2 0).trans rfl
   go_simp
   with_reducible rfl
  rotate_left
  ·
   exact putQ
  refine takeQ (v := ?_) (a' := ?_) 6 (some 12) HT_ HW_ hHeld ?_ ?_ ?_
  rotate_left
  ·
   rintro w' ⟨s0, s1, s2, s3⟩
   have y0_0 : w'.cell? ⟨g3, 0, none⟩ = some (.int .i64 1) := (blk_cell s0 0).trans rfl
   have y0_1 : w'.cell? ⟨g3, 1, none⟩ = some (.int .i64 sa) := (blk_cell s0 1).trans rfl
   have y0_2 : w'.cell? ⟨g3, 2, none⟩ = some (.int .i64 sk) := (blk_cell s0 2).trans rfl
   have y0_3 : w'.cell? ⟨g3, 3, none⟩ = some (.int .i64 n0) := (blk_cell s0 3).trans rfl
   have y0_4 : w'.cell? ⟨g3, 4, none⟩ = some (.int .i64 n1) := (blk_cell s0 4).trans rfl
   have y0_5 : w'.cell? ⟨g3, 5, none⟩ = some (.int .i64 n2) := (blk_cell s0 5).trans rfl
   have y1_0 : w'.cell? ⟨gf, 0, none⟩ = some (.nilFunc) := (blk_cell s1 0).trans rfl
   have y1_1 : w'.cell? ⟨gf, 1, none⟩ = some (.func (.func 81) #[] #[]) := (blk_cell s1 1).trans rfl
   have y1_2 : w'.cell? ⟨gf, 2, none⟩ = some (.func (.func 82) #[] #[]) := (blk_cell s1 2).trans rfl
   have y1_3 : w'.cell? ⟨gf, 3, none⟩ = some (.func (.func 83) #[] #[]) := (blk_cell s1 3).trans rfl
   have y1_4 : w'.cell? ⟨gf, 4, none⟩ = some (.func (.func 84) #[] #[]) := (blk_cell s1 4).trans rfl
   have y2_0 : w'.cell? ⟨gd, 0, none⟩ = some (.map (some gm)) := (blk_cell s2 0).trans rfl
   go_simp
   with_reducible rfl
  rotate_left
  ·
   exact putQ
  refine takeQ (v := ?_) (a' := ?_) 10 (some 16) HT_ HW_ hHeld ?_ ?_ ?_
  rotate_left
  ·
   rintro w' ⟨s0, s1, s2, s3⟩
   have y0_0 : w'.cell? ⟨g3, 0, none⟩ = some (.int .i64 1) := (blk_cell s0 0).trans rfl
   have y0_1 : w'.cell? ⟨g3, 1, none⟩ = some (.int .i64 sa) := (blk_cell s0 1).trans rfl
   have y0_2 : w'.cell? ⟨g3, 2, none⟩ = some (.int .i64 sk) := (blk_cell s0 2).trans rfl
   have y0_3 : w'.cell? ⟨g3, 3, none⟩ = some (.int .i64 n0) := (blk_cell s0 3).trans rfl
   have y0_4 : w'.cell? ⟨g3, 4, none⟩ = some (.int .i64 n1) := (blk_cell s0 4).trans rfl
   have y0_5 : w'.cell? ⟨g3, 5, none⟩ = some (.int .i64 n2) := (blk_cell s0 5).trans rfl
   have y1_0 : w'.cell? ⟨gf, 0, none⟩ = some (.nilFunc) := (blk_cell s1 0).trans rfl
   have y1_1 : w'.cell? ⟨gf, 1, none⟩ = some (.func (.func 81) #[] #[]) := (blk_cell s1 1).trans rfl
   have y1_2 : w'.cell? ⟨gf, 2, none⟩ = some (.func (.func 82) #[] #[]) := (blk_cell s1 2).trans rfl
   have y1_3 : w'.cell? ⟨gf, 3, none⟩ = some (.func (.func 83) #[] #[]) := (blk_cell s1 3).trans rfl
   have y1_4 : w'.cell? ⟨gf, 4, none⟩ = some (.func (.func 84) #[] #[]) := (blk_cell s1 4).trans rfl
   have y2_0 : w'.cell? ⟨gd, 0, none⟩ = some (.map (some gm)) := (blk_cell s2 0).trans rfl
   go_simp
   with_reducible rfl
  rotate_left
  ·
   exact putQ
  refine takeQ (v := ?_) (a' := ?_) 12 (some 18) HT_ HW_ hHeld ?_ ?_ ?_
  rotate_left
  ·
   rintro w' ⟨s0, s1, s2, s3⟩
   have y0_0 : w'.cell? ⟨g3, 0, none⟩ = some (.int .i64 1) := (blk_cell s0 0).trans rfl
   have y0_1 : w'.cell? ⟨g3, 1, none⟩ = some (.int .i64 sa) := (blk_cell s0 1).trans rfl
   have y0_2 : w'.cell? ⟨g3, 2, none⟩ = some (.int .i64 sk) := (blk_cell s0 2).trans rfl
   have y0_3 : w'.cell? ⟨g3, 3, none⟩ = some (.int .i64 n0) := (blk_cell s0 3).trans rfl
   have y0_4 : w'.cell? ⟨g3, 4, none⟩ = some (.int .i64 n1) := (blk_cell s0 4).trans rfl
   have y0_5 : w'.cell? ⟨g3, 5, none⟩ = some (.int .i64 n2) := (blk_cell s0 5).trans rfl
   have y1_0 : w'.cell? ⟨gf, 0, none⟩ = some (.nilFunc) := (blk_cell s1 0).trans rfl
   have y1_1 : w'.cell? ⟨gf, 1, none⟩ = some (.func (.func 81) #[] #[]) := (blk_cell s1 1).trans rfl
   have y1_2 : w'.cell? ⟨gf, 2, none⟩ = some (.func (.func 82) #[] #[]) := (blk_cell s1 2).trans rfl
   have y1_3 : w'.cell? ⟨gf, 3, none⟩ = some (.func (.func 83) #[] #[]) := (blk_cell s1 3).trans rfl
   have y1_4 : w'.cell? ⟨gf, 4, none⟩ = some (.func (.func 84) #[] #[]) := (blk_cell s1 4).trans rfl
   have y2_0 : w'.cell? ⟨gd, 0, none⟩ = some (.map (some gm)) := (blk_cell s2 0).trans rfl
   go_simp
   with_reducible rfl
  rotate_left
  ·
   exact putQ
  refine takeQ (v := ?_) (a' := ?_) 14 (some 20) HT_ HW_ hHeld ?_ ?_ ?_
  rotate_left
  ·
   rintro w' ⟨s0, s1, s2, s3⟩
   have y0_0 : w'.cell? ⟨g3, 0, none⟩ = some (.int .i64 1) := (blk_cell s0 0).trans rfl
   have y0_1 : w'.cell? ⟨g3, 1, none⟩ = some (.int .i64 sa) := (blk_cell s0 1).trans rfl
   have y0_2 : w'.cell? ⟨g3, 2, none⟩ = some (.int .i64 sk) := (blk_cell s0 2).trans rfl
   have y0_3 : w'.cell? ⟨g3, 3, none⟩ = some (.int .i64 n0) := (blk_cell s0 3).trans rfl
   have y0_4 : w'.cell? ⟨g3, 4, none⟩ = some (.int .i64 n1) := (blk_cell s0 4).trans rfl
   have y0_5 : w'.cell? ⟨g3, 5, none⟩ = some (.int .i64 n2) := (blk_cell s0 5).trans rfl
   have y1_0 : w'.cell? ⟨gf, 0, none⟩ = some (.nilFunc) := (blk_cell s1 0).trans rfl
   have y1_1 : w'.cell? ⟨gf, 1, none⟩ = some (.func (.func 81) #[] #[]) := (blk_cell s1 1).trans rfl
   have y1_2 : w'.cell? ⟨gf, 2, none⟩ = some (.func (.func 82) #[] #[]) := (blk_cell s1 2).trans rfl
   have y1_3 : w'.cell? ⟨gf, 3, none⟩ = some (.func (.func 83) #[] #[]) := (blk_cell s1 3).trans rfl
   have y1_4 : w'.cell? ⟨gf, 4, none⟩ = some (.func (.func 84) #[] #[]) := (blk_cell s1 4).trans rfl
   have y2_0 : w'.cell? ⟨gd, 0, none⟩ = some (.map (some gm)) := (blk_cell s2 0).trans rfl
   go_simp
   with_reducible rfl
  rotate_left
  ·
   exact putQ
  refine pureQ 15 (some 21) HT_ ?_
  refine takeQ (v := ?_) (a' := ?_) 16 (some 22) HT_ HW_ hHeld ?_ ?_ ?_
  rotate_left
  ·
   rintro w' ⟨s0, s1, s2, s3⟩
   have hlk := lookP_run s3 sa sk
   have hev : ev108 (lookP M (sa, sk)) = .agg #[.int .i64 (lookP M (sa, sk)).f0.f0, .int .i64 (lookP M (sa, sk)).f0.f1, .int .i64 (lookP M (sa, sk)).f0.f2, .int .i64 (lookP M (sa, sk)).f1.f0, .bool (lookP M (sa, sk)).f1.f1, .int .i64 (lookP M (sa, sk)).f2.f0, .bool (lookP M (sa, sk)).f2.f1] := rfl
   rw [hev] at hlk
   go_simp
   with_reducible rfl
  rotate_left
  ·
   exact putQ
  refine last_ (i := 17) (N := (some 23)) #[true, true, true, true, true, true, true, true, true, true, true, true, true, true, true, true, true, true] rfl rfl (one_of HT_.out (by kernel_rfl)) (by decide) (fun K hK => ?_)
  refine goesC_ #[] (by rfl) Try.func81 (by kernel_rfl) rfl #[.pointer (some ⟨gd, 0, none⟩), .agg #[.int .i64 1, .int .i64 sa, .int .i64 sk, .int .i64 n0, .int .i64 n1, .int .i64 n2], .agg #[.int .i64 (lookP M (sa, sk)).f0.f0, .int .i64 (lookP M (sa, sk)).f0.f1, .int .i64 (lookP M (sa, sk)).f0.f2, .int .i64 (lookP M (sa, sk)).f1.f0, .bool (lookP M (sa, sk)).f1.f1, .int .i64 (lookP M (sa, sk)).f2.f0, .bool (lookP M (sa, sk)).f2.f1]] (by rfl) rfl rfl (by (try simp only [List.map_toArray, List.map_cons, List.map_nil]); first | done | rfl) ?_
  refine (delete81 gd gm M 1 sa sk n0 n1 n2 _ _ _ _ _ _ _ _ ⟨aa.out, HM.out⟩).mono ?_
  rintro e w' ⟨rfl, hd9, hg9⟩
  refine ⟨_, rfl, ?_⟩
  refine hK.out _ _ ?_
  clear hK K
  refine done_ (done_of HT_.out (by kernel_rfl)) ?_
  go_end0
  exact ⟨rfl, hd9, grown_both HG.out hg9⟩
 ·
  go_enter Try.func47, Try.ntmps47
  go_upto_region 1 with (first | ((with_reducible refine gate_dst (N := 3) rfl ?_); refine box_event ?hg (N := 3) ?hd (cs := #[.int .i64 2, .int .i64 sa, .int .i64 sk, .int .i64 n0, .int .i64 n1, .int .i64 n2]) (t := 65) ?hr ?_; (case hd => rfl); (case hg => rfl); (case hr => first | (go_simp; done) | (go_simp; rfl)); intro g3 hg w3 hbox hb; have NM3 : Aside0 (gm ≠ g3) := ⟨by have := HM.out.lt; omega⟩; have ND3 : Aside0 (gd ≠ g3) := ⟨by have := blk_lt aa.out; omega⟩; replace HG := zA (grown_below HG.out hb); replace aa := zA (blk_keep aa.out hb); replace HM := zA (hasM_below HM.out hb); have ab := zA hbox; clear hb hbox hg))
  go_upto_region 2 with (fail)
  obtain ⟨gf, hgf⟩ : ∃ g_ : Nat, g_ = w3.heap.size := ⟨_, rfl⟩
  have hb := below_alloc (Below.refl w3.heap.size w3) (.cells #[.nilFunc, .func (.func 81) #[] #[], .func (.func 82) #[] #[], .func (.func 83) #[] #[], .func (.func 84) #[] #[]] 153)
  have ac := zA (heap_alloc_new w3 (.cells #[.nilFunc, .func (.func 81) #[] #[], .func (.func 82) #[] #[], .func (.func 83) #[] #[], .func (.func 84) #[] #[]] 153))
  rw [← hgf] at ac ⊢
  replace HG := zA (grown_below HG.out hb)
  replace aa := zA (blk_keep aa.out hb)
  replace HM := zA (hasM_below HM.out hb)
  replace ab := zA (blk_keep ab.out hb)
  clear hb hgf; generalize w3.alloc (.cells #[.nilFunc, .func (.func 81) #[] #[], .func (.func 82) #[] #[], .func (.func 83) #[] #[], .func (.func 84) #[] #[]] 153) = w4 at ac HG aa HM ab ⊢
  replace HG := zA (grown_below HG.out (below_drew1 (Below.refl _ _)))
  replace aa := zA (blk_drew aa.out)
  replace HM := zA ((HasM.same HM.out rfl : HasM w4.drew ekP ev108 gm M))
  replace ab := zA (blk_drew ab.out)
  replace ac := zA (blk_drew ac.out)
  refine start_ (n := 18) (S := fun w' => w'.heap[g3]? = some (.cells #[.int .i64 2, .int .i64 sa, .int .i64 sk, .int .i64 n0, .int .i64 n1, .int .i64 n2] 65 (0, 0)) ∧ w'.heap[gf]? = some (.cells #[.nilFunc, .func (.func 81) #[] #[], .func (.func 82) #[] #[], .func (.func 83) #[] #[], .func (.func 84) #[] #[]] 153 (0, 0)) ∧ w'.heap[gd]? = some (.cells #[.map (some gm)] 103 (0, 0)) ∧ HasM w' ekP ev108 gm M) (ds := [17]) #[false, false, false, false, false, false, false, false, false, false, false, false, false, false, false, false, false, false] (by kernel_rfl) rfl rfl ⟨ab.out, ac.out, aa.out, HM.out⟩ (fun hHeld => ?_); refine with_tabW do47.tab2 do47.bits2 (fun HT_ HW_ => ?_)
  generalize World.drew w4 = w5 at HG aa HM ab ac hHeld ⊢
  refine pureQ 0 (some 6) HT_ ?_
  refine pureQ 1 (some 7) HT_ ?_
  refine pureQ 5 (some 11) HT_ ?_
  refine pureQ 7 (some 13) HT_ ?_
  refine pureQ 8 (some 14) HT_ ?_
  refine pureQ 9 (some 15) HT_ ?_
  refine pureQ 11 (some 17) HT_ ?_
  refine pureQ 13 (some 19) HT_ ?_
  refine takeQ (v := ?_) (a' := ?_) 2 (some 8) HT_ HW_ hHeld ?_ ?_ ?_
  rotate_left
  ·
   rintro w' ⟨s0, s1, s2, s3⟩
   have y0_0 : w'.cell? ⟨g3, 0, none⟩ = some (.int .i64 2) := (blk_cell s0 0).trans rfl
   have y0_1 : w'.cell? ⟨g3, 1, none⟩ = some (.int .i64 sa) := (blk_cell s0 1).trans rfl
   have y0_2 : w'.cell? ⟨g3, 2, none⟩ = some (.int .i64 sk) := (blk_cell s0 2).trans rfl
   have y0_3 : w'.cell? ⟨g3, 3, none⟩ = some (.int .i64 n0) := (blk_cell s0 3).trans rfl
   have y0_4 : w'.cell? ⟨g3, 4, none⟩ = some (.int .i64 n1) := (blk_cell s0 4).trans rfl
   have y0_5 : w'.cell? ⟨g3, 5, none⟩ = some (.int .i64 n2) := (blk_cell s0 5).trans rfl
   have y1_0 : w'.cell? ⟨gf, 0, none⟩ = some (.nilFunc) := (blk_cell s1 0).trans rfl
   have y1_1 : w'.cell? ⟨gf, 1, none⟩ = some (.func (.func 81) #[] #[]) := (blk_cell s1 1).trans rfl
   have y1_2 : w'.cell? ⟨gf, 2, none⟩ = some (.func (.func 82) #[] #[]) := (blk_cell s1 2).trans rfl
   have y1_3 : w'.cell? ⟨gf, 3, none⟩ = some (.func (.func 83) #[] #[]) := (blk_cell s1 3).trans rfl
   have y1_4 : w'.cell? ⟨gf, 4, none⟩ = some (.func (.func 84) #[] #[]) := (blk_cell s1 4).trans rfl
   have y2_0 : w'.cell? ⟨gd, 0, none⟩ = some (.map (some gm)) := (blk_cell s2 0).trans rfl
   go_simp
   with_reducible rfl
  rotate_left
  ·
   exact putQ
  refine pureQ 3 (some 9) HT_ ?_
  refine takeQ (v := ?_) (a' := ?_) 4 (some 10) HT_ HW_ hHeld ?_ ?_ ?_
  rotate_left
  ·
   rintro w' ⟨s0, s1, s2, s3⟩
   have y0_0 : w'.cell? ⟨g3, 0, none⟩ = some (.int .i64 2) := (blk_cell s0 0).trans rfl
   have y0_1 : w'.cell? ⟨g3, 1, none⟩ = some (.int .i64 sa) := (blk_cell s0 1).trans rfl
   have y0_2 : w'.cell? ⟨g3, 2, none⟩ = some (.int .i64 sk) := (blk_cell s0 2).trans rfl
   have y0_3 : w'.cell? ⟨g3, 3, none⟩ = some (.int .i64 n0) := (blk_cell s0 3).trans rfl
   have y0_4 : w'.cell? ⟨g3, 4, none⟩ = some (.int .i64 n1) := (blk_cell s0 4).trans rfl
   have y0_5 : w'.cell? ⟨g3, 5, none⟩ = some (.int .i64 n2) := (blk_cell s0 5).trans rfl
   have y1_0 : w'.cell? ⟨gf, 0, none⟩ = some (.nilFunc) := (blk_cell s1 0).trans rfl
   have y1_1 : w'.cell? ⟨gf, 1, none⟩ = some (.func (.func 81) #[] #[]) := (blk_cell s1 1).trans rfl
   have y1_2 : w'.cell? ⟨gf, 2, none⟩ = some (.func (.func 82) #[] #[]) := (blk_cell s1 2).trans rfl
   have y1_3 : w'.cell? ⟨gf, 3, none⟩ = some (.func (.func 83) #[] #[]) := (blk_cell s1 3).trans rfl
   have y1_4 : w'.cell? ⟨gf, 4, none⟩ = some (.func (.func 84) #[] #[]) := (blk_cell s1 4).trans rfl
   have y2_0 : w'.cell? ⟨gd, 0, none⟩ = some (.map (some gm)) := (blk_cell s2 0).trans rfl
   go_simp
   with_reducible rfl
  rotate_left
  ·
   exact putQ
  refine takeQ (v := ?_) (a' := ?_) 6 (some 12) HT_ HW_ hHeld ?_ ?_ ?_
  rotate_left
  ·
   rintro w' ⟨s0, s1, s2, s3⟩
   have y0_0 : w'.cell? ⟨g3, 0, none⟩ = some (.int .i64 2) := (blk_cell s0 0).trans rfl
   have y0_1 : w'.cell? ⟨g3, 1, none⟩ = some (.int .i64 sa) := (blk_cell s0 1).trans rfl
   have y0_2 : w'.cell? ⟨g3, 2, none⟩ = some (.int .i64 sk) := (blk_cell s0 2).trans rfl
   have y0_3 : w'.cell? ⟨g3, 3, none⟩ = some (.int .i64 n0) := (blk_cell s0 3).trans rfl
   have y0_4 : w'.cell? ⟨g3, 4, none⟩ = some (.int .i64 n1) := (blk_cell s0 4).trans rfl
   have y0_5 : w'.cell? ⟨g3, 5, none⟩ = some (.int .i64 n2) := (blk_cell s0 5).trans rfl
   have y1_0 : w'.cell? ⟨gf, 0, none⟩ = some (.nilFunc) := (blk_cell s1 0).trans rfl
   have y1_1 : w'.cell? ⟨gf, 1, none⟩ = some (.func (.func 81) #[] #[]) := (blk_cell s1 1).trans rfl
   have y1_2 : w'.cell? ⟨gf, 2, none⟩ = some (.func (.func 82) #[] #[]) := (blk_cell s1 2).trans rfl
   have y1_3 : w'.cell? ⟨gf, 3, none⟩ = some (.func (.func 83) #[] #[]) := (blk_cell s1 3).trans rfl
   have y1_4 : w'.cell? ⟨gf, 4, none⟩ = some (.func (.func 84) #[] #[]) := (blk_cell s1 4).trans rfl
   have y2_0 : w'.cell? ⟨gd, 0, none⟩ = some (.map (some gm)) := (blk_cell s2 0).trans rfl
   go_simp
   with_reducible rfl
  rotate_left
  ·
   exact putQ
  refine takeQ (v := ?_) (a' := ?_) 10 (some 16) HT_ HW_ hHeld ?_ ?_ ?_
  rotate_left
  ·
   rintro w' ⟨s0, s1, s2, s3⟩
   have y0_0 : w'.cell? ⟨g3, 0, none⟩ = some (.int .i64 2) := (blk_cell s0 0).trans rfl
   have y0_1 : w'.cell? ⟨g3, 1, none⟩ = some (.int .i64 sa) := (blk_cell s0 1).trans rfl
   have y0_2 : w'.cell? ⟨g3, 2, none⟩ = some (.int .i64 sk) := (blk_cell s0 2).trans rfl
   have y0_3 : w'.cell? ⟨g3, 3, none⟩ = some (.int .i64 n0) := (blk_cell s0 3).trans rfl
   have y0_4 : w'.cell? ⟨g3, 4, none⟩ = some (.int .i64 n1) := (blk_cell s0 4).trans rfl
   have y0_5 : w'.cell? ⟨g3, 5, none⟩ = some (.int .i64 n2) := (blk_cell s0 5).trans rfl
   have y1_0 : w'.cell? ⟨gf, 0, none⟩ = some (.nilFunc) := (blk_cell s1 0).trans rfl
   have y1_1 : w'.cell? ⟨gf, 1, none⟩ = some (.func (.func 81) #[] #[]) := (blk_cell s1 1).trans rfl
   have y1_2 : w'.cell? ⟨gf, 2, none⟩ = some (.func (.func 82) #[] #[]) := (blk_cell s1 2).trans rfl
   have y1_3 : w'.cell? ⟨gf, 3, none⟩ = some (.func (.func 83) #[] #[]) := (blk_cell s1 3).trans rfl
   have y1_4 : w'.cell? ⟨gf, 4, none⟩ = some (.func (.func 84) #[] #[]) := (blk_cell s1 4).trans rfl
   have y2_0 : w'.cell? ⟨gd, 0, none⟩ = some (.map (some gm)) := (blk_cell s2 0).trans rfl
   go_simp
   with_reducible rfl
  rotate_left
  ·
   exact putQ
  refine takeQ (v := ?_) (a' := ?_) 12 (some 18) HT_ HW_ hHeld ?_ ?_ ?_
  rotate_left
  ·
   rintro w' ⟨s0, s1, s2, s3⟩
   have y0_0 : w'.cell? ⟨g3, 0, none⟩ = some (.int .i64 2) := (blk_cell s0 0).trans rfl
   have y0_1 : w'.cell? ⟨g3, 1, none⟩ = some (.int .i64 sa) := (blk_cell s0 1).trans rfl
   have y0_2 : w'.cell? ⟨g3, 2, none⟩ = some (.int .i64 sk) := (blk_cell s0 2).trans rfl
   have y0_3 : w'.cell? ⟨g3, 3, none⟩ = some (.int .i64 n0) := (blk_cell s0 3).trans rfl
   have y0_4 : w'.cell? ⟨g3, 4, none⟩ = some (.int .i64 n1) := (blk_cell s0 4).trans rfl
   have y0_5 : w'.cell? ⟨g3, 5, none⟩ = some (.int .i64 n2) := (blk_cell s0 5).trans rfl
   have y1_0 : w'.cell? ⟨gf, 0, none⟩ = some (.nilFunc) := (blk_cell s1 0).trans rfl
   have y1_1 : w'.cell? ⟨gf, 1, none⟩ = some (.func (.func 81) #[] #[]) := (blk_cell s1 1).trans rfl
   have y1_2 : w'.cell? ⟨gf, 2, none⟩ = some (.func (.func 82) #[] #[]) := (blk_cell s1 2).trans rfl
   have y1_3 : w'.cell? ⟨gf, 3, none⟩ = some (.func (.func 83) #[] #[]) := (blk_cell s1 3).trans rfl
   have y1_4 : w'.cell? ⟨gf, 4, none⟩ = some (.func (.func 84) #[] #[]) := (blk_cell s1 4).trans rfl
   have y2_0 : w'.cell? ⟨gd, 0, none⟩ = some (.map (some gm)) := (blk_cell s2 0).trans rfl
   go_simp
   with_reducible rfl
  rotate_left
  ·
   exact putQ
  refine takeQ (v := ?_) (a' := ?_) 14 (some 20) HT_ HW_ hHeld ?_ ?_ ?_
  rotate_left
  ·
   rintro w' ⟨s0, s1, s2, s3⟩
   have y0_0 : w'.cell? ⟨g3, 0, none⟩ = some (.int .i64 2) := (blk_cell s0 0).trans rfl
   have y0_1 : w'.cell? ⟨g3, 1, none⟩ = some (.int .i64 sa) := (blk_cell s0 1).trans rfl
   have y0_2 : w'.cell? ⟨g3, 2, none⟩ = some (.int .i64 sk) := (blk_cell s0 2).trans rfl
   have y0_3 : w'.cell? ⟨g3, 3, none⟩ = some (.int .i64 n0) := (blk_cell s0 3).trans rfl
   have y0_4 : w'.cell? ⟨g3, 4, none⟩ = some (.int .i64 n1) := (blk_cell s0 4).trans rfl
   have y0_5 : w'.cell? ⟨g3, 5, none⟩ = some (.int .i64 n2) := (blk_cell s0 5).trans rfl
   have y1_0 : w'.cell? ⟨gf, 0, none⟩ = some (.nilFunc) := (blk_cell s1 0).trans rfl
   have y1_1 : w'.cell? ⟨gf, 1, none⟩ = some (.func (.func 81) #[] #[]) := (blk_cell s1 1).trans rfl
   have y1_2 : w'.cell? ⟨gf, 2, none⟩ = some (.func (.func 82) #[] #[]) := (blk_cell s1 2).trans rfl
   have y1_3 : w'.cell? ⟨gf, 3, none⟩ = some (.func (.func 83) #[] #[]) := (blk_cell s1 3).trans rfl
   have y1_4 : w'.cell? ⟨gf, 4, none⟩ = some (.func (.func 84) #[] #[]) := (blk_cell s1 4).trans rfl
   have y2_0 : w'.cell? ⟨gd, 0, none⟩ = some (.map (some gm)) := (blk_cell s2 0).trans rfl
   go_simp
   with_reducible rfl
  rotate_left
  ·
   exact putQ
  refine pureQ 15 (some 21) HT_ ?_
  refine takeQ (v := ?_) (a' := ?_) 16 (some 22) HT_ HW_ hHeld ?_ ?_ ?_
  rotate_left
  ·
   rintro w' ⟨s0, s1, s2, s3⟩
   have hlk := lookP_run s3 sa sk
   have hev : ev108 (lookP M (sa, sk)) = .agg #[.int .i64 (lookP M (sa, sk)).f0.f0, .int .i64 (lookP M (sa, sk)).f0.f1, .int .i64 (lookP M (sa, sk)).f0.f2, .int .i64 (lookP M (sa, sk)).f1.f0, .bool (lookP M (sa, sk)).f1.f1, .int .i64 (lookP M (sa, sk)).f2.f0, .bool (lookP M (sa, sk)).f2.f1] := rfl
   rw [hev] at hlk
   go_simp
   with_reducible rfl
  rotate_left
  ·
   exact putQ
  refine last_ (i := 17) (N := (some 23)) #[true, true, true, true, true, true, true, true, true, true, true, true, true, true, true, true, true, true] rfl rfl (one_of HT_.out (by kernel_rfl)) (by decide) (fun K hK => ?_)
  refine goesC_ #[] (by rfl) Try.func82 (by kernel_rfl) rfl #[.pointer (some ⟨gd, 0, none⟩), .agg #[.int .i64 2, .int .i64 sa, .int .i64 sk, .int .i64 n0, .int .i64 n1, .int .i64 n2], .agg #[.int .i64 (lookP M (sa, sk)).f0.f0, .int .i64 (lookP M (sa, sk)).f0.f1, .int .i64 (lookP M (sa, sk)).f0.f2, .int .i64 (lookP M (sa, sk)).f1.f0, .bool (lookP M (sa, sk)).f1.f1, .int .i64 (lookP M (sa, sk)).f2.f0, .bool (lookP M (sa, sk)).f2.f1]] (by rfl) rfl rfl (by (try simp only [List.map_toArray, List.map_cons, List.map_nil]); first | done | rfl) ?_
  refine (insert82 gd gm M 2 sa sk n0 n1 n2 _ _ _ _ _ _ _ _ ⟨aa.out, HM.out⟩).mono ?_
  rintro e w' ⟨rfl, hd9, hg9⟩
  refine ⟨_, rfl, ?_⟩
  refine hK.out _ _ ?_
  clear hK K
  refine done_ (done_of HT_.out (by kernel_rfl)) ?_
  go_end0
  exact ⟨rfl, hd9, grown_both HG.out hg9⟩
 ·
  go_enter Try.func47, Try.ntmps47
  go_upto_region 1 with (first | ((with_reducible refine gate_dst (N := 3) rfl ?_); refine box_event ?hg (N := 3) ?hd (cs := #[.int .i64 3, .int .i64 sa, .int .i64 sk, .int .i64 n0, .int .i64 n1, .int .i64 n2]) (t := 65) ?hr ?_; (case hd => rfl); (case hg => rfl); (case hr => first | (go_simp; done) | (go_simp; rfl)); intro g3 hg w3 hbox hb; have NM3 : Aside0 (gm ≠ g3) := ⟨by have := HM.out.lt; omega⟩; have ND3 : Aside0 (gd ≠ g3) := ⟨by have := blk_lt aa.out; omega⟩; replace HG := zA (grown_below HG.out hb); replace aa := zA (blk_keep aa.out hb); replace HM := zA (hasM_below HM.out hb); have ab := zA hbox; clear hb hbox hg))
  go_upto_region 2 with (fail)
  obtain ⟨gf, hgf⟩ : ∃ g_ : Nat, g_ = w3.heap.size := ⟨_, rfl⟩
  have hb := below_alloc (Below.refl w3.heap.size w3) (.cells #[.nilFunc, .func (.func 81) #[] #[], .func (.func 82) #[] #[], .func (.func 83) #[] #[], .func (.func 84) #[] #[]] 153)
  have ac := zA (heap_alloc_new w3 (.cells #[.nilFunc, .func (.func 81) #[] #[], .func (.func 82) #[] #[], .func (.func 83) #[] #[], .func (.func 84) #[] #[]] 153))
  rw [← hgf] at ac ⊢
  replace HG := zA (grown_below HG.out hb)
  replace aa := zA (blk_keep aa.out hb)
  replace HM := zA (hasM_below HM.out hb)
  replace ab := zA (blk_keep ab.out hb)
  clear hb hgf; generalize w3.alloc (.cells #[.nilFunc, .func (.func 81) #[] #[], .func (.func 82) #[] #[], .func (.func 83) #[] #[], .func (.func 84) #[] #[]] 153) = w4 at ac HG aa HM ab ⊢
  replace HG := zA (grown_below HG.out (below_drew1 (Below.refl _ _)))
  replace aa := zA (blk_drew aa.out)
  replace HM := zA ((HasM.same HM.out rfl : HasM w4.drew ekP ev108 gm M))
  replace ab := zA (blk_drew ab.out)
  replace ac := zA (blk_drew ac.out)
  refine start_ (n := 18) (S := fun w' => w'.heap[g3]? = some (.cells #[.int .i64 3, .int .i64 sa, .int .i64 sk, .int .i64 n0, .int .i64 n1, .int .i64 n2] 65 (0, 0)) ∧ w'.heap[gf]? = some (.cells #[.nilFunc, .func (.func 81) #[] #[], .func (.func 82) #[] #[], .func (.func 83) #[] #[], .func (.func 84) #[] #[]] 153 (0, 0)) ∧ w'.heap[gd]? = some (.cells #[.map (some gm)] 103 (0, 0)) ∧ HasM w' ekP ev108 gm M) (ds := [17]) #[false, false, false, false, false, false, false, false, false, false, false, false, false, false, false, false, false, false] (by kernel_rfl) rfl rfl ⟨ab.out, ac.out, aa.out, HM.out⟩ (fun hHeld => ?_); refine with_tabW do47.tab2 do47.bits2 (fun HT_ HW_ => ?_)
  generalize World.drew w4 = w5 at HG aa HM ab ac hHeld ⊢
  refine pureQ 0 (some 6) HT_ ?_
  refine pureQ 1 (some 7) HT_ ?_
  refine pureQ 5 (some 11) HT_ ?_
  refine pureQ 7 (some 13) HT_ ?_
  refine pureQ 8 (some 14) HT_ ?_
  refine pureQ 9 (some 15) HT_ ?_
  refine pureQ 11 (some 17) HT_ ?_
  refine pureQ 13 (some 19) HT_ ?_
  refine takeQ (v := ?_) (a' := ?_) 2 (some 8) HT_ HW_ hHeld ?_ ?_ ?_
  rotate_left
  ·
   rintro w' ⟨s0, s1, s2, s3⟩
   have y0_0 : w'.cell? ⟨g3, 0, none⟩ = some (.int .i64 3) := (blk_cell s0 0).trans rfl
   have y0_1 : w'.cell? ⟨g3, 1, none⟩ = some (.int .i64 sa) := (blk_cell s0 1).trans rfl
   have y0_2 : w'.cell? ⟨g3, 2, none⟩ = some (.int .i64 sk) := (blk_cell s0 2).trans rfl
   have y0_3 : w'.cell? ⟨g3, 3, none⟩ = some (.int .i64 n0) := (blk_cell s0 3).trans rfl
   have y0_4 : w'.cell? ⟨g3, 4, none⟩ = some (.int .i64 n1) := (blk_cell s0 4).trans rfl
   have y0_5 : w'.cell? ⟨g3, 5, none⟩ = some (.int .i64 n2) := (blk_cell s0 5).trans rfl
   have y1_0 : w'.cell? ⟨gf, 0, none⟩ = some (.nilFunc) := (blk_cell s1 0).trans rfl
   have y1_1 : w'.cell? ⟨gf, 1, none⟩ = some (.func (.func 81) #[] #[]) := (blk_cell s1 1).trans rfl
   have y1_2 : w'.cell? ⟨gf, 2, none⟩ = some (.func (.func 82) #[] #[]) := (blk_cell s1 2).trans rfl
   have y1_3 : w'.cell? ⟨gf, 3, none⟩ = some (.func (.func 83) #[] #[]) := (blk_cell s1 3).trans rfl
   have y1_4 : w'.cell? ⟨gf, 4, none⟩ = some (.func (.func 84) #[] #[]) := (blk_cell s1 4).trans rfl
   have y2_0 : w'.cell? ⟨gd, 0, none⟩ = some (.map (some gm)) := (blk_cell s2 0).trans rfl
   go_simp
   with_reducible rfl
  rotate_left
  ·
   exact putQ
  refine pureQ 3 (some 9) HT_ ?_
  refine takeQ (v := ?_) (a' := ?_) 4 (some 10) HT_ HW_ hHeld ?_ ?_ ?_
  rotate_left
  ·
   rintro w' ⟨s0, s1, s2, s3⟩
   have y0_0 : w'.cell? ⟨g3, 0, none⟩ = some (.int .i64 3) := (blk_cell s0 0).trans rfl
   have y0_1 : w'.cell? ⟨g3, 1, none⟩ = some (.int .i64 sa) := (blk_cell s0 1).trans rfl
   have y0_2 : w'.cell? ⟨g3, 2, none⟩ = some (.int .i64 sk) := (blk_cell s0 2).trans rfl
   have y0_3 : w'.cell? ⟨g3, 3, none⟩ = some (.int .i64 n0) := (blk_cell s0 3).trans rfl
   have y0_4 : w'.cell? ⟨g3, 4, none⟩ = some (.int .i64 n1) := (blk_cell s0 4).trans rfl
   have y0_5 : w'.cell? ⟨g3, 5, none⟩ = some (.int .i64 n2) := (blk_cell s0 5).trans rfl
   have y1_0 : w'.cell? ⟨gf, 0, none⟩ = some (.nilFunc) := (blk_cell s1 0).trans rfl
   have y1_1 : w'.cell? ⟨gf, 1, none⟩ = some (.func (.func 81) #[] #[]) := (blk_cell s1 1).trans rfl
   have y1_2 : w'.cell? ⟨gf, 2, none⟩ = some (.func (.func 82) #[] #[]) := (blk_cell s1 2).trans rfl
   have y1_3 : w'.cell? ⟨gf, 3, none⟩ = some (.func (.func 83) #[] #[]) := (blk_cell s1 3).trans rfl
   have y1_4 : w'.cell? ⟨gf, 4, none⟩ = some (.func (.func 84) #[] #[]) := (blk_cell s1 4).trans rfl
   have y2_0 : w'.cell? ⟨gd, 0, none⟩ = some (.map (some gm)) := (blk_cell s2 0).trans rfl
   go_simp
   with_reducible rfl
  rotate_left
  ·
   exact putQ
  refine takeQ (v := ?_) (a' := ?_) 6 (some 12) HT_ HW_ hHeld ?_ ?_ ?_
  rotate_left
  ·
   rintro w' ⟨s0, s1, s2, s3⟩
   have y0_0 : w'.cell? ⟨g3, 0, none⟩ = some (.int .i64 3) := (blk_cell s0 0).trans rfl
   have y0_1 : w'.cell? ⟨g3, 1, none⟩ = some (.int .i64 sa) := (blk_cell s0 1).trans rfl
   have y0_2 : w'.cell? ⟨g3, 2, none⟩ = some (.int .i64 sk) := (blk_cell s0 2).trans rfl
   have y0_3 : w'.cell? ⟨g3, 3, none⟩ = some (.int .i64 n0) := (blk_cell s0 3).trans rfl
   have y0_4 : w'.cell? ⟨g3, 4, none⟩ = some (.int .i64 n1) := (blk_cell s0 4).trans rfl
   have y0_5 : w'.cell? ⟨g3, 5, none⟩ = some (.int .i64 n2) := (blk_cell s0 5).trans rfl
   have y1_0 : w'.cell? ⟨gf, 0, none⟩ = some (.nilFunc) := (blk_cell s1 0).trans rfl
   have y1_1 : w'.cell? ⟨gf, 1, none⟩ = some (.func (.func 81) #[] #[]) := (blk_cell s1 1).trans rfl
   have y1_2 : w'.cell? ⟨gf, 2, none⟩ = some (.func (.func 82) #[] #[]) := (blk_cell s1 2).trans rfl
   have y1_3 : w'.cell? ⟨gf, 3, none⟩ = some (.func (.func 83) #[] #[]) := (blk_cell s1 3).trans rfl
   have y1_4 : w'.cell? ⟨gf, 4, none⟩ = some (.func (.func 84) #[] #[]) := (blk_cell s1 4).trans rfl
   have y2_0 : w'.cell? ⟨gd, 0, none⟩ = some (.map (some gm)) := (blk_cell s2 0).trans rfl
   go_simp
   with_reducible rfl
  rotate_left
  ·
   exact putQ
  refine takeQ (v := ?_) (a' := ?_) 10 (some 16) HT_ HW_ hHeld ?_ ?_ ?_
  rotate_left
  ·
   rintro w' ⟨s0, s1, s2, s3⟩
   have y0_0 : w'.cell? ⟨g3, 0, none⟩ = some (.int .i64 3) := (blk_cell s0 0).trans rfl
   have y0_1 : w'.cell? ⟨g3, 1, none⟩ = some (.int .i64 sa) := (blk_cell s0 1).trans rfl
   have y0_2 : w'.cell? ⟨g3, 2, none⟩ = some (.int .i64 sk) := (blk_cell s0 2).trans rfl
   have y0_3 : w'.cell? ⟨g3, 3, none⟩ = some (.int .i64 n0) := (blk_cell s0 3).trans rfl
   have y0_4 : w'.cell? ⟨g3, 4, none⟩ = some (.int .i64 n1) := (blk_cell s0 4).trans rfl
   have y0_5 : w'.cell? ⟨g3, 5, none⟩ = some (.int .i64 n2) := (blk_cell s0 5).trans rfl
   have y1_0 : w'.cell? ⟨gf, 0, none⟩ = some (.nilFunc) := (blk_cell s1 0).trans rfl
   have y1_1 : w'.cell? ⟨gf, 1, none⟩ = some (.func (.func 81) #[] #[]) := (blk_cell s1 1).trans rfl
   have y1_2 : w'.cell? ⟨gf, 2, none⟩ = some (.func (.func 82) #[] #[]) := (blk_cell s1 2).trans rfl
   have y1_3 : w'.cell? ⟨gf, 3, none⟩ = some (.func (.func 83) #[] #[]) := (blk_cell s1 3).trans rfl
   have y1_4 : w'.cell? ⟨gf, 4, none⟩ = some (.func (.func 84) #[] #[]) := (blk_cell s1 4).trans rfl
   have y2_0 : w'.cell? ⟨gd, 0, none⟩ = some (.map (some gm)) := (blk_cell s2 0).trans rfl
   go_simp
   with_reducible rfl
  rotate_left
  ·
   exact putQ
  refine takeQ (v := ?_) (a' := ?_) 12 (some 18) HT_ HW_ hHeld ?_ ?_ ?_
  rotate_left
  ·
   rintro w' ⟨s0, s1, s2, s3⟩
   have y0_0 : w'.cell? ⟨g3, 0, none⟩ = some (.int .i64 3) := (blk_cell s0 0).trans rfl
   have y0_1 : w'.cell? ⟨g3, 1, none⟩ = some (.int .i64 sa) := (blk_cell s0 1).trans rfl
   have y0_2 : w'.cell? ⟨g3, 2, none⟩ = some (.int .i64 sk) := (blk_cell s0 2).trans rfl
   have y0_3 : w'.cell? ⟨g3, 3, none⟩ = some (.int .i64 n0) := (blk_cell s0 3).trans rfl
   have y0_4 : w'.cell? ⟨g3, 4, none⟩ = some (.int .i64 n1) := (blk_cell s0 4).trans rfl
   have y0_5 : w'.cell? ⟨g3, 5, none⟩ = some (.int .i64 n2) := (blk_cell s0 5).trans rfl
   have y1_0 : w'.cell? ⟨gf, 0, none⟩ = some (.nilFunc) := (blk_cell s1 0).trans rfl
   have y1_1 : w'.cell? ⟨gf, 1, none⟩ = some (.func (.func 81) #[] #[]) := (blk_cell s1 1).trans rfl
   have y1_2 : w'.cell? ⟨gf, 2, none⟩ = some (.func (.func 82) #[] #[]) := (blk_cell s1 2).trans rfl
   have y1_3 : w'.cell? ⟨gf, 3, none⟩ = some (.func (.func 83) #[] #[]) := (blk_cell s1 3).trans rfl
   have y1_4 : w'.cell? ⟨gf, 4, none⟩ = some (.func (.func 84) #[] #[]) := (blk_cell s1 4).trans rfl
   have y2_0 : w'.cell? ⟨gd, 0, none⟩ = some (.map (some gm)) := (blk_cell s2 0).trans rfl
   go_simp
   with_reducible rfl
  rotate_left
  ·
   exact putQ
  refine takeQ (v := ?_) (a' := ?_) 14 (some 20) HT_ HW_ hHeld ?_ ?_ ?_
  rotate_left
  ·
   rintro w' ⟨s0, s1, s2, s3⟩
   have y0_0 : w'.cell? ⟨g3, 0, none⟩ = some (.int .i64 3) := (blk_cell s0 0).trans rfl
   have y0_1 : w'.cell? ⟨g3, 1, none⟩ = some (.int .i64 sa) := (blk_cell s0 1).trans rfl
   have y0_2 : w'.cell? ⟨g3, 2, none⟩ = some (.int .i64 sk) := (blk_cell s0 2).trans rfl
   have y0_3 : w'.cell? ⟨g3, 3, none⟩ = some (.int .i64 n0) := (blk_cell s0 3).trans rfl
   have y0_4 : w'.cell? ⟨g3, 4, none⟩ = some (.int .i64 n1) := (blk_cell s0 4).trans rfl
   have y0_5 : w'.cell? ⟨g3, 5, none⟩ = some (.int .i64 n2) := (blk_cell s0 5).trans rfl
   have y1_0 : w'.cell? ⟨gf, 0, none⟩ = some (.nilFunc) := (blk_cell s1 0).trans rfl
   have y1_1 : w'.cell? ⟨gf, 1, none⟩ = some (.func (.func 81) #[] #[]) := (blk_cell s1 1).trans rfl
   have y1_2 : w'.cell? ⟨gf, 2, none⟩ = some (.func (.func 82) #[] #[]) := (blk_cell s1 2).trans rfl
   have y1_3 : w'.cell? ⟨gf, 3, none⟩ = some (.func (.func 83) #[] #[]) := (blk_cell s1 3).trans rfl
   have y1_4 : w'.cell? ⟨gf, 4, none⟩ = some (.func (.func 84) #[] #[]) := (blk_cell s1 4).trans rfl
   have y2_0 : w'.cell? ⟨gd, 0, none⟩ = some (.map (some gm)) := (blk_cell s2 0).trans rfl
   go_simp
   with_reducible rfl
  rotate_left
  ·
   exact putQ
  refine pureQ 15 (some 21) HT_ ?_
  refine takeQ (v := ?_) (a' := ?_) 16 (some 22) HT_ HW_ hHeld ?_ ?_ ?_
  rotate_left
  ·
   rintro w' ⟨s0, s1, s2, s3⟩
   have hlk := lookP_run s3 sa sk
   have hev : ev108 (lookP M (sa, sk)) = .agg #[.int .i64 (lookP M (sa, sk)).f0.f0, .int .i64 (lookP M (sa, sk)).f0.f1, .int .i64 (lookP M (sa, sk)).f0.f2, .int .i64 (lookP M (sa, sk)).f1.f0, .bool (lookP M (sa, sk)).f1.f1, .int .i64 (lookP M (sa, sk)).f2.f0, .bool (lookP M (sa, sk)).f2.f1] := rfl
   rw [hev] at hlk
   go_simp
   with_reducible rfl
  rotate_left
  ·
   exact putQ
  refine last_ (i := 17) (N := (some 23)) #[true, true, true, true, true, true, true, true, true, true, true, true, true, true, true, true, true, true] rfl rfl (one_of HT_.out (by kernel_rfl)) (by decide) (fun K hK => ?_)
  refine goesC_ #[] (by rfl) Try.func83 (by kernel_rfl) rfl #[.pointer (some ⟨gd, 0, none⟩), .agg #[.int .i64 3, .int .i64 sa, .int .i64 sk, .int .i64 n0, .int .i64 n1, .int .i64 n2], .agg #[.int .i64 (lookP M (sa, sk)).f0.f0, .int .i64 (lookP M (sa, sk)).f0.f1, .int .i64 (lookP M (sa, sk)).f0.f2, .int .i64 (lookP M (sa, sk)).f1.f0, .bool (lookP M (sa, sk)).f1.f1, .int .i64 (lookP M (sa, sk)).f2.f0, .bool (lookP M (sa, sk)).f2.f1]] (by rfl) rfl rfl (by (try simp only [List.map_toArray, List.map_cons, List.map_nil]); first | done | rfl) ?_
  refine (change83 gd gm M 3 sa sk n0 n1 n2 _ _ _ _ _ _ _ _ ⟨aa.out, HM.out⟩).mono ?_
  rintro e w' ⟨rfl, hd9, hg9⟩
  refine ⟨_, rfl, ?_⟩
  refine hK.out _ _ ?_
  clear hK K
  refine done_ (done_of HT_.out (by kernel_rfl)) ?_
  go_end0
  exact ⟨rfl, hd9, grown_both HG.out hg9⟩
 ·
  go_enter Try.func47, Try.ntmps47
  go_upto_region 1 with (first | ((with_reducible refine gate_dst (N := 3) rfl ?_); refine box_event ?hg (N := 3) ?hd (cs := #[.int .i64 4, .int .i64 sa, .int .i64 sk, .int .i64 n0, .int .i64 n1, .int .i64 n2]) (t := 65) ?hr ?_; (case hd => rfl); (case hg => rfl); (case hr => first | (go_simp; done) | (go_simp; rfl)); intro g3 hg w3 hbox hb; have NM3 : Aside0 (gm ≠ g3) := ⟨by have := HM.out.lt; omega⟩; have ND3 : Aside0 (gd ≠ g3) := ⟨by have := blk_lt aa.out; omega⟩; replace HG := zA (grown_below HG.out hb); replace aa := zA (blk_keep aa.out hb); replace HM := zA (hasM_below HM.out hb); have ab := zA hbox; clear hb hbox hg))
  go_upto_region 2 with (fail)
  obtain ⟨gf, hgf⟩ : ∃ g_ : Nat, g_ = w3.heap.size := ⟨_, rfl⟩
  have hb := below_alloc (Below.refl w3.heap.size w3) (.cells #[.nilFunc, .func (.func 81) #[] #[], .func (.func 82) #[] #[], .func (.func 83) #[] #[], .func (.func 84) #[] #[]] 153)
  have ac := zA (heap_alloc_new w3 (.cells #[.nilFunc, .func (.func 81) #[] #[], .func (.func 82) #[] #[], .func (.func 83) #[] #[], .func (.func 84) #[] #[]] 153))
  rw [← hgf] at ac ⊢
  replace HG := zA (grown_below HG.out hb)
  replace aa := zA (blk_keep aa.out hb)
  replace HM := zA (hasM_below HM.out hb)
  replace ab := zA (blk_keep ab.out hb)
  clear hb hgf; generalize w3.alloc (.cells #[.nilFunc, .func (.func 81) #[] #[], .func (.func 82) #[] #[], .func (.func 83) #[] #[], .func (.func 84) #[] #[]] 153) = w4 at ac HG aa HM ab ⊢
  replace HG := zA (grown_below HG.out (below_drew1 (Below.refl _ _)))
  replace aa := zA (blk_drew aa.out)
  replace HM := zA ((HasM.same HM.out rfl : HasM w4.drew ekP ev108 gm M))
  replace ab := zA (blk_drew ab.out)
  replace ac := zA (blk_drew ac.out)
  refine start_ (n := 18) (S := fun w' => w'.heap[g3]? = some (.cells #[.int .i64 4, .int .i64 sa, .int .i64 sk, .int .i64 n0, .int .i64 n1, .int .i64 n2] 65 (0, 0)) ∧ w'.heap[gf]? = some (.cells #[.nilFunc, .func (.func 81) #[] #[], .func (.func 82) #[] #[], .func (.func 83) #[] #[], .func (.func 84) #[] #[]] 153 (0, 0)) ∧ w'.heap[gd]? = some (.cells #[.map (some gm)] 103 (0, 0)) ∧ HasM w' ekP ev108 gm M) (ds := [17]) #[false, false, false, false, false, false, false, false, false, false, false, false, false, false, false, false, false, false] (by kernel_rfl) rfl rfl ⟨ab.out, ac.out, aa.out, HM.out⟩ (fun hHeld => ?_); refine with_tabW do47.tab2 do47.bits2 (fun HT_ HW_ => ?_)
  generalize World.drew w4 = w5 at HG aa HM ab ac hHeld ⊢
  refine pureQ 0 (some 6) HT_ ?_
  refine pureQ 1 (some 7) HT_ ?_
  refine pureQ 5 (some 11) HT_ ?_
  refine pureQ 7 (some 13) HT_ ?_
  refine pureQ 8 (some 14) HT_ ?_
  refine pureQ 9 (some 15) HT_ ?_
  refine pureQ 11 (some 17) HT_ ?_
  refine pureQ 13 (some 19) HT_ ?_
  refine takeQ (v := ?_) (a' := ?_) 2 (some 8) HT_ HW_ hHeld ?_ ?_ ?_
  rotate_left
  ·
   rintro w' ⟨s0, s1, s2, s3⟩
   have y0_0 : w'.cell? ⟨g3, 0, none⟩ = some (.int .i64 4) := (blk_cell s0 0).trans rfl
   have y0_1 : w'.cell? ⟨g3, 1, none⟩ = some (.int .i64 sa) := (blk_cell s0 1).trans rfl
   have y0_2 : w'.cell? ⟨g3, 2, none⟩ = some (.int .i64 sk) := (blk_cell s0 2).trans rfl
   have y0_3 : w'.cell? ⟨g3, 3, none⟩ = some (.int .i64 n0) := (blk_cell s0 3).trans rfl
   have y0_4 : w'.cell? ⟨g3, 4, none⟩ = some (.int .i64 n1) := (blk_cell s0 4).trans rfl
   have y0_5 : w'.cell? ⟨g3, 5, none⟩ = some (.int .i64 n2) := (blk_cell s0 5).trans rfl
   have y1_0 : w'.cell? ⟨gf, 0, none⟩ = some (.nilFunc) := (blk_cell s1 0).trans rfl
   have y1_1 : w'.cell? ⟨gf, 1, none⟩ = some (.func (.func 81) #[] #[]) := (blk_cell s1 1).trans rfl
   have y1_2 : w'.cell? ⟨gf, 2, none⟩ = some (.func (.func 82) #[] #[]) := (blk_cell s1 2).trans rfl
   have y1_3 : w'.cell? ⟨gf, 3, none⟩ = some (.func (.func 83) #[] #[]) := (blk_cell s1 3).trans rfl
   have y1_4 : w'.cell? ⟨gf, 4, none⟩ = some (.func (.func 84) #[] #[]) := (blk_cell s1 4).trans rfl
   have y2_0 : w'.cell? ⟨gd, 0, none⟩ = some (.map (some gm)) := (blk_cell s2 0).trans rfl
   go_simp
   with_reducible rfl
  rotate_left
  ·
   exact putQ
  refine pureQ 3 (some 9) HT_ ?_
  refine takeQ (v := ?_) (a' := ?_) 4 (some 10) HT_ HW_ hHeld ?_ ?_ ?_
  rotate_left
  ·
   rintro w' ⟨s0, s1, s2, s3⟩
   have y0_0 : w'.cell? ⟨g3, 0, none⟩ = some (.int .i64 4) := (blk_cell s0 0).trans rfl
   have y0_1 : w'.cell? ⟨g3, 1, none⟩ = some (.int .i64 sa) := (blk_cell s0 1).trans rfl
   have y0_2 : w'.cell? ⟨g3, 2, none⟩ = some (.int .i64 sk) := (blk_cell s0 2).trans rfl
   have y0_3 : w'.cell? ⟨g3, 3, none⟩ = some (.int .i64 n0) := (blk_cell s0 3).trans rfl
   have y0_4 : w'.cell? ⟨g3, 4, none⟩ = some (.int .i64 n1) := (blk_cell s0 4).trans rfl
   have y0_5 : w'.cell? ⟨g3, 5, none⟩ = some (.int .i64 n2) := (blk_cell s0 5).trans rfl
   have y1_0 : w'.cell? ⟨gf, 0, none⟩ = some (.nilFunc) := (blk_cell s1 0).trans rfl
   have y1_1 : w'.cell? ⟨gf, 1, none⟩ = some (.func (.func 81) #[] #[]) := (blk_cell s1 1).trans rfl
   have y1_2 : w'.cell? ⟨gf, 2, none⟩ = some (.func (.func 82) #[] #[]) := (blk_cell s1 2).trans rfl
   have y1_3 : w'.cell? ⟨gf, 3, none⟩ = some (.func (.func 83) #[] #[]) := (blk_cell s1 3).trans rfl
   have y1_4 : w'.cell? ⟨gf, 4, none⟩ = some (.func (.func 84) #[] #[]) := (blk_cell s1 4).trans rfl
   have y2_0 : w'.cell? ⟨gd, 0, none⟩ = some (.map (some gm)) := (blk_cell s2 0).trans rfl
   go_simp
   with_reducible rfl
  rotate_left
  ·
   exact putQ
  refine takeQ (v := ?_) (a' := ?_) 6 (some 12) HT_ HW_ hHeld ?_ ?_ ?_
  rotate_left
  ·
   rintro w' ⟨s0, s1, s2, s3⟩
   have y0_0 : w'.cell? ⟨g3, 0, none⟩ = some (.int .i64 4) := (blk_cell s0 0).trans rfl
   have y0_1 : w'.cell? ⟨g3, 1, none⟩ = some (.int .i64 sa) := (blk_cell s0 1).trans rfl
   have y0_2 : w'.cell? ⟨g3, 2, none⟩ = some (.int .i64 sk) := (blk_cell s0 2).trans rfl
   have y0_3 : w'.cell? ⟨g3, 3, none⟩ = some (.int .i64 n0) := (blk_cell s0 3).trans rfl
   have y0_4 : w'.cell? ⟨g3, 4, none⟩ = some (.int .i64 n1) := (blk_cell s0 4).trans rfl
   have y0_5 : w'.cell? ⟨g3, 5, none⟩ = some (.int .i64 n2) := (blk_cell s0 5).trans rfl
   have y1_0 : w'.cell? ⟨gf, 0, none⟩ = some (.nilFunc) := (blk_cell s1 0).trans rfl
   have y1_1 : w'.cell? ⟨gf, 1, none⟩ = some (.func (.func 81) #[] #[]) := (blk_cell s1 1).trans rfl
   have y1_2 : w'.cell? ⟨gf, 2, none⟩ = some (.func (.func 82) #[] #[]) := (blk_cell s1 2).trans rfl
   have y1_3 : w'.cell? ⟨gf, 3, none⟩ = some (.func (.func 83) #[] #[]) := (blk_cell s1 3).trans rfl
   have y1_4 : w'.cell? ⟨gf, 4, none⟩ = some (.func (.func 84) #[] #[]) := (blk_cell s1 4).trans rfl
   have y2_0 : w'.cell? ⟨gd, 0, none⟩ = some (.map (some gm)) := (blk_cell s2 0).trans rfl
   go_simp
   with_reducible rfl
  rotate_left
  ·
   exact putQ
  refine takeQ (v := ?_) (a' := ?_) 10 (some 16) HT_ HW_ hHeld ?_ ?_ ?_
  rotate_left
  ·
   rintro w' ⟨s0, s1, s2, s3⟩
   have y0_0 : w'.cell? ⟨g3, 0, none⟩ = some (.int .i64 4) := (blk_cell s0 0).trans rfl
   have y0_1 : w'.cell? ⟨g3, 1, none⟩ = some (.int .i64 sa) := (blk_cell s0 1).trans rfl
   have y0_2 : w'.cell? ⟨g3, 2, none⟩ = some (.int .i64 sk) := (blk_cell s0 2).trans rfl
   have y0_3 : w'.cell? ⟨g3, 3, none⟩ = some (.int .i64 n0) := (blk_cell s0 3).trans rfl
   have y0_4 : w'.cell? ⟨g3, 4, none⟩ = some (.int .i64 n1) := (blk_cell s0 4).trans rfl
   have y0_5 : w'.cell? ⟨g3, 5, none⟩ = some (.int .i64 n2) := (blk_cell s0 5).trans rfl
   have y1_0 : w'.cell? ⟨gf, 0, none⟩ = some (.nilFunc) := (blk_cell s1 0).trans rfl
   have y1_1 : w'.cell? ⟨gf, 1, none⟩ = some (.func (.func 81) #[] #[]) := (blk_cell s1 1).trans rfl
   have y1_2 : w'.cell? ⟨gf, 2, none⟩ = some (.func (.func 82) #[] #[]) := (blk_cell s1 2).trans rfl
   have y1_3 : w'.cell? ⟨gf, 3, none⟩ = some (.func (.func 83) #[] #[]) := (blk_cell s1 3).trans rfl
   have y1_4 : w'.cell? ⟨gf, 4, none⟩ = some (.func (.func 84) #[] #[]) := (blk_cell s1 4).trans rfl
   have y2_0 : w'.cell? ⟨gd, 0, none⟩ = some (.map (some gm)) := (blk_cell s2 0).trans rfl
   go_simp
   with_reducible rfl
  rotate_left
  ·
   exact putQ
  refine takeQ (v := ?_) (a' := ?_) 12 (some 18) HT_ HW_ hHeld ?_ ?_ ?_
  rotate_left
  ·
   rintro w' ⟨s0, s1, s2, s3⟩
   have y0_0 : w'.cell? ⟨g3, 0, none⟩ = some (.int .i64 4) := (blk_cell s0 0).trans rfl
   have y0_1 : w'.cell? ⟨g3, 1, none⟩ = some (.int .i64 sa) := (blk_cell s0 1).trans rfl
   have y0_2 : w'.cell? ⟨g3, 2, none⟩ = some (.int .i64 sk) := (blk_cell s0 2).trans rfl
   have y0_3 : w'.cell? ⟨g3, 3, none⟩ = some (.int .i64 n0) := (blk_cell s0 3).trans rfl
   have y0_4 : w'.cell? ⟨g3, 4, none⟩ = some (.int .i64 n1) := (blk_cell s0 4).trans rfl
   have y0_5 : w'.cell? ⟨g3, 5, none⟩ = some (.int .i64 n2) := (blk_cell s0 5).trans rfl
   have y1_0 : w'.cell? ⟨gf, 0, none⟩ = some (.nilFunc) := (blk_cell s1 0).trans rfl
   have y1_1 : w'.cell? ⟨gf, 1, none⟩ = some (.func (.func 81) #[] #[]) := (blk_cell s1 1).trans rfl
   have y1_2 : w'.cell? ⟨gf, 2, none⟩ = some (.func (.func 82) #[] #[]) := (blk_cell s1 2).trans rfl
   have y1_3 : w'.cell? ⟨gf, 3, none⟩ = some (.func (.func 83) #[] #[]) := (blk_cell s1 3).trans rfl
   have y1_4 : w'.cell? ⟨gf, 4, none⟩ = some (.func (.func 84) #[] #[]) := (blk_cell s1 4).trans rfl
   have y2_0 : w'.cell? ⟨gd, 0, none⟩ = some (.map (some gm)) := (blk_cell s2 0).trans rfl
   go_simp
   with_reducible rfl
  rotate_left
  ·
   exact putQ
  refine takeQ (v := ?_) (a' := ?_) 14 (some 20) HT_ HW_ hHeld ?_ ?_ ?_
  rotate_left
  ·
   rintro w' ⟨s0, s1, s2, s3⟩
   have y0_0 : w'.cell? ⟨g3, 0, none⟩ = some (.int .i64 4) := (blk_cell s0 0).trans rfl
   have y0_1 : w'.cell? ⟨g3, 1, none⟩ = some (.int .i64 sa) := (blk_cell s0 1).trans rfl
   have y0_2 : w'.cell? ⟨g3, 2, none⟩ = some (.int .i64 sk) := (blk_cell s0 2).trans rfl
   have y0_3 : w'.cell? ⟨g3, 3, none⟩ = some (.int .i64 n0) := (blk_cell s0 3).trans rfl
   have y0_4 : w'.cell? ⟨g3, 4, none⟩ = some (.int .i64 n1) := (blk_cell s0 4).trans rfl
   have y0_5 : w'.cell? ⟨g3, 5, none⟩ = some (.int .i64 n2) := (blk_cell s0 5).trans rfl
   have y1_0 : w'.cell? ⟨gf, 0, none⟩ = some (.nilFunc) := (blk_cell s1 0).trans rfl
   have y1_1 : w'.cell? ⟨gf, 1, none⟩ = some (.func (.func 81) #[] #[]) := (blk_cell s1 1).trans rfl
   have y1_2 : w'.cell? ⟨gf, 2, none⟩ = some (.func (.func 82) #[] #[]) := (blk_cell s1 2).trans rfl
   have y1_3 : w'.cell? ⟨gf, 3, none⟩ = some (.func (.func 83) #[] #[]) := (blk_cell s1 3).trans rfl
   have y1_4 : w'.cell? ⟨gf, 4, none⟩ = some (.func (.func 84) #[] #[]) := (blk_cell s1 4).trans rfl
   have y2_0 : w'.cell? ⟨gd, 0, none⟩ = some (.map (some gm)) := (blk_cell s2 0).trans rfl
   go_simp
   with_reducible rfl
  rotate_left
  ·
   exact putQ
  refine pureQ 15 (some 21) HT_ ?_
  refine takeQ (v := ?_) (a' := ?_) 16 (some 22) HT_ HW_ hHeld ?_ ?_ ?_
  rotate_left
  ·
   rintro w' ⟨s0, s1, s2, s3⟩
   have hlk := lookP_run s3 sa sk
   have hev : ev108 (lookP M (sa, sk)) = .agg #[.int .i64 (lookP M (sa, sk)).f0.f0, .int .i64 (lookP M (sa, sk)).f0.f1, .int .i64 (lookP M (sa, sk)).f0.f2, .int .i64 (lookP M (sa, sk)).f1.f0, .bool (lookP M (sa, sk)).f1.f1, .int .i64 (lookP M (sa, sk)).f2.f0, .bool (lookP M (sa, sk)).f2.f1] := rfl
   rw [hev] at hlk
   go_simp
   with_reducible rfl
  rotate_left
  ·
   exact putQ
  refine last_ (i := 17) (N := (some 23)) #[true, true, true, true, true, true, true, true, true, true, true, true, true, true, true, true, true, true] rfl rfl (one_of HT_.out (by kernel_rfl)) (by decide) (fun K hK => ?_)
  refine goesC_ #[] (by rfl) Try.func84 (by kernel_rfl) rfl #[.pointer (some ⟨gd, 0, none⟩), .agg #[.int .i64 4, .int .i64 sa, .int .i64 sk, .int .i64 n0, .int .i64 n1, .int .i64 n2], .agg #[.int .i64 (lookP M (sa, sk)).f0.f0, .int .i64 (lookP M (sa, sk)).f0.f1, .int .i64 (lookP M (sa, sk)).f0.f2, .int .i64 (lookP M (sa, sk)).f1.f0, .bool (lookP M (sa, sk)).f1.f1, .int .i64 (lookP M (sa, sk)).f2.f0, .bool (lookP M (sa, sk)).f2.f1]] (by rfl) rfl rfl (by (try simp only [List.map_toArray, List.map_cons, List.map_nil]); first | done | rfl) ?_
  refine (repeat84 gd gm M 4 sa sk n0 n1 n2 _ _ _ _ _ _ _ _ ⟨aa.out, HM.out⟩).mono ?_
  rintro e w' ⟨rfl, hd9, hg9⟩
  refine ⟨_, rfl, ?_⟩
  refine hK.out _ _ ?_
  clear hK K
  refine done_ (done_of HT_.out (by kernel_rfl)) ?_
  go_end0
  exact ⟨rfl, hd9, grown_both HG.out hg9⟩
end Go.Proofs.Ytehpbmdphfbooaa.P
end
section
namespace Go.Proofs.Ytehpbmdphfbooaa.P
open Go.RowKit Go.Proofs Go.Proofs.YtehpbmdphfbooaaW.PrintWords Go.Proofs.YtehpbmdphfbooaaW.PrintLast Go.Proofs.YtehpbmdphfbooaaW.PrintMore
set_option linter.unusedVariables false
set_option linter.unusedSimpArgs false
theorem below_turn {B : Nat} {A W W' : World} {b : Nat} (h : Below B A W) (k : W.mapTurned W' b) (hb : B ≤ b) (hs : B ≤ W.heap.size) : Below B A W' :=
  ⟨k.grown.os.trans h.os, k.grown.tape.trans h.tape, k.grown.output.trans h.output, Nat.le_trans h.size k.grown.size, fun i hi => (k.grown.block i (by omega) (fun e => by injection e with e; omega)).trans (h.block i hi)⟩
theorem below_grown {B : Nat} {A W W' : World} {b : Nat} (h : Below B A W) (k : W.grownBy W' (some b)) (hb : B ≤ b) (hs : B ≤ W.heap.size) : Below B A W' :=
  ⟨k.os.trans h.os, k.tape.trans h.tape, k.output.trans h.output, Nat.le_trans h.size k.size, fun i hi => (k.block i (by omega) (fun e => by injection e with e; omega)).trans (h.block i hi)⟩
def deskL (l : List S61) : Nat → PM
  | 0 => []
  | k + 1 => putM (deskL l k) ((rd_T61 l (k : Int)).f0, (rd_T61 l (k : Int)).f1) ⟨rd_T61 l (k : Int), ⟨(k : Int), false⟩, ⟨0, false⟩⟩
def newDesk45.T5 : Bool × List (List Nat × List Nat) := (true, [([], []), ([0], [0]), ([1], [1]), ([2], [2]), ([], []), ([4], [4]), ([], []), ([], []), ([7], [7]), ([6, 8], [6, 8]), ([3, 5, 9, 5, 0, 1, 2, 3, 4, 5, 6, 7, 8, 9], [3, 5, 9])])
def newDesk45.B5 : List Nat := [0, 1, 3, 7, 0, 16, 0, 0, 128, 448, 1023]
theorem newDesk45.tab5 : rtab .any (opsOf Try.f45 5) = newDesk45.T5 := by kernel_rfl
theorem newDesk45.bits5 : waitsOk newDesk45.T5.2 newDesk45.B5 = true := by kernel_rfl
set_option maxHeartbeats 4000000 in
set_option maxRecDepth 100000 in
theorem newDesk45 (A : Option Addr) (c : Nat) (l : List S61) (w : World) (hC : Kd.C k61 w A l.length l) (hc : l.length ≤ c) :
  Calls Try.prog 45 #[.slice A l.length c] w fun e w' => ∃ gd gm : Nat, e = .returned (.pointer (some ⟨gd, 0, none⟩)) ∧ Desk w' gd gm (deskL l l.length) ∧ w.heap.size ≤ gd ∧ w.heap.size ≤ gm ∧ Below w.heap.size w w' := by
 have mixed : Try.prog.follows .mixedOrders = true := by kernel_rfl
 have hu103 := Try.underlying103
 have hu61 := Try.underlying61
 have hu67 := Try.underlying67
 have hu108 := Try.underlying108
 have hl0 : l.length ≤ 9223372036854775807 := hC.2.1
 have HC := zA hC
 clear hC hc
 have hmm := @run_makeMap Try.prog
 go_enter Try.func45, Try.ntmps45
 go_upto_region 2 with (fail)
 obtain ⟨gm, hgm⟩ : ∃ g_ : Nat, g_ = w.heap.size := ⟨_, rfl⟩
 obtain ⟨gd, hgd⟩ : ∃ g_ : Nat, g_ = w.heap.size + 1 := ⟨_, rfl⟩
 have HM0 : Aside0 (HasM ((w.alloc (.map #[] 0)).alloc (.cells #[.map (some gm)] 103)) ekP ev108 gm []) := ⟨by rw [hgm]; exact (HasM.made w _ _).alloc _⟩
 have ac : Aside0 (((w.alloc (.map #[] 0)).alloc (.cells #[.map (some gm)] 103)).heap[gd]? = some (.cells #[.map (some gm)] 103 (0, 0))) := ⟨by
  have := heap_alloc_new (w.alloc (.map #[] 0)) (.cells #[.map (some gm)] 103)
  rw [World.size_alloc] at this
  rw [hgd]
  exact this⟩
 have HB0 := zA (below_alloc (below_alloc (Below.refl w.heap.size w) (.map #[] 0)) (.cells #[.map (some gm)] 103))
 have GM : Aside0 (w.heap.size ≤ gm) := ⟨by omega⟩
 have GD : Aside0 (w.heap.size ≤ gd) := ⟨by omega⟩
 have NGM : Aside0 (gd ≠ gm) := ⟨by omega⟩
 rw [← hgd, ← hgm]
 clear hgd hgm hmm; generalize (w.alloc (.map #[] 0)).alloc (.cells #[.map (some gm)] 103) = W0 at HM0 ac HB0 ⊢
 go_wp2
 go_loopg [11] l.length (fun kq v11 w' => ∃ k : Nat, v11 = .int .i64 k ∧ k ≤ l.length ∧ l.length - k ≤ kq ∧ Aside0 (HasM w' ekP ev108 gm (deskL l k)) ∧ Aside0 (w'.heap[gd]? = some (.cells #[.map (some gm)] 103 (0, 0))) ∧ Aside0 (Below w.heap.size w w'))
 case atStart => exact ⟨0, rfl, Nat.zero_le _, by omega, HM0, ac, HB0⟩
 case round =>
  clear HM0 ac HB0
  obtain ⟨k, rfl, hk, hkx, HM, aa, HB⟩ := hrel
  by_cases q : k < l.length
  ·
   have qz : (k : Int) < (l.length : Int) := by omega
   obtain ⟨g1, rfl⟩ : ∃ g_, gk = g_ + 1 := ⟨gk - 1, by omega⟩
   obtain ⟨ad, e, h0, h1, h2⟩ := at_T61 HC.out (k : Int) (by omega) qz
   subst e
   rw [Int.toNat_natCast] at h0 h1 h2
   replace h0 := (HB.out.cell (World.block_lt_of_cell? w _ h0)).trans h0
   replace h1 := (HB.out.cell (World.block_lt_of_cell? w _ h1)).trans h1
   replace h2 := (HB.out.cell (World.block_lt_of_cell? w _ h2)).trans h2
   have HX : Aside0 (deskL l (k + 1) = putM (deskL l k) ((rd_T61 l (k : Int)).f0, (rd_T61 l (k : Int)).f1) ⟨⟨(rd_T61 l (k : Int)).f0, (rd_T61 l (k : Int)).f1, (rd_T61 l (k : Int)).f2⟩, ⟨(k : Int), false⟩, ⟨0, false⟩⟩) := ⟨rfl⟩
   obtain ⟨n0, hn0⟩ : ∃ x_ : Int, x_ = (rd_T61 l (k : Int)).f0 := ⟨_, rfl⟩
   obtain ⟨n1, hn1⟩ : ∃ x_ : Int, x_ = (rd_T61 l (k : Int)).f1 := ⟨_, rfl⟩
   obtain ⟨n2, hn2⟩ : ∃ x_ : Int, x_ = (rd_T61 l (k : Int)).f2 := ⟨_, rfl⟩
   rw [← hn0] at h0 HX
   rw [← hn1] at h1 HX
   rw [← hn2] at h2 HX
   clear hn0 hn1 hn2
   obtain ⟨M, hM⟩ : ∃ M_ : PM, M_ = deskL l k := ⟨_, rfl⟩
   rw [← hM] at HM HX
   clear hM
   go_upto_region 5 with (fail)
   obtain ⟨g5, hg5⟩ : ∃ g_ : Nat, g_ = wr.heap.size := ⟨_, rfl⟩
   have hb := below_alloc (Below.refl wr.heap.size wr) (.cells #[.int .i64 n0, .int .i64 n1, .int .i64 n2] 61)
   have ab := zA (heap_alloc_new wr (.cells #[.int .i64 n0, .int .i64 n1, .int .i64 n2] 61))
   rw [← hg5] at ab ⊢
   clear h0 h1 h2
   replace HB := zA (below_step HB.out hb)
   replace aa := zA (blk_keep aa.out hb)
   replace HM := zA (hasM_below HM.out hb)
   clear hb hg5; generalize wr.alloc (.cells #[.int .i64 n0, .int .i64 n1, .int .i64 n2] 61) = w4 at ab HB aa HM ⊢
   replace HB := zA (below_drew1 HB.out)
   replace aa := zA (blk_drew aa.out)
   replace HM := zA ((HasM.same HM.out rfl : HasM w4.drew ekP ev108 gm M))
   replace ab := zA (blk_drew ab.out)
   refine start_ (n := 11) (S := fun w' => w'.heap[g5]? = some (.cells #[.int .i64 n0, .int .i64 n1, .int .i64 n2] 61 (0, 0)) ∧ w'.heap[gd]? = some (.cells #[.map (some gm)] 103 (0, 0)) ∧ HasM w' ekP ev108 gm M) (ds := [10]) #[false, false, false, false, false, false, false, false, false, false, false] (by kernel_rfl) rfl rfl ⟨ab.out, aa.out, HM.out⟩ (fun hHeld => ?_); refine with_tabW newDesk45.tab5 newDesk45.bits5 (fun HT_ HW_ => ?_)
   generalize World.drew w4 = w5 at HB aa HM ab hHeld ⊢
   refine pureQ 0 (some 16) HT_ ?_
   refine pureQ 1 (some 17) HT_ ?_
   refine pureQ 2 (some 18) HT_ ?_
   refine pureQ 7 (some 23) HT_ ?_
   refine pureQ 8 (some 24) HT_ ?_
   refine takeQ (v := ?_) (a' := ?_) 3 (some 19) HT_ HW_ hHeld ?_ ?_ ?_
   rotate_left
   ·
    rintro w' ⟨s0, s1, s2⟩
    have y0_0 : w'.cell? ⟨g5, 0, none⟩ = some (.int .i64 n0) := (blk_cell s0 0).trans rfl
    have y0_1 : w'.cell? ⟨g5, 1, none⟩ = some (.int .i64 n1) := (blk_cell s0 1).trans rfl
    have y0_2 : w'.cell? ⟨g5, 2, none⟩ = some (.int .i64 n2) := (blk_cell s0 2).trans rfl
    have y1_0 : w'.cell? ⟨gd, 0, none⟩ = some (.map (some gm)) := (blk_cell s1 0).trans rfl
    go_simp
    with_reducible rfl
   rotate_left
   ·
    exact putQ
   refine takeQ (v := ?_) (a' := ?_) 4 (some 20) HT_ HW_ hHeld ?_ ?_ ?_
   rotate_left
   ·
    rintro w' ⟨s0, s1, s2⟩
    have y0_0 : w'.cell? ⟨g5, 0, none⟩ = some (.int .i64 n0) := (blk_cell s0 0).trans rfl
    have y0_1 : w'.cell? ⟨g5, 1, none⟩ = some (.int .i64 n1) := (blk_cell s0 1).trans rfl
    have y0_2 : w'.cell? ⟨g5, 2, none⟩ = some (.int .i64 n2) := (blk_cell s0 2).trans rfl
    have y1_0 : w'.cell? ⟨gd, 0, none⟩ = some (.map (some gm)) := (blk_cell s1 0).trans rfl
    go_simp
    with_reducible rfl
   rotate_left
   ·
    exact putQ
   refine takeQ (v := ?_) (a' := ?_) 6 (some 22) HT_ HW_ hHeld ?_ ?_ ?_
   rotate_left
   ·
    rintro w' ⟨s0, s1, s2⟩
    have y0_0 : w'.cell? ⟨g5, 0, none⟩ = some (.int .i64 n0) := (blk_cell s0 0).trans rfl
    have y0_1 : w'.cell? ⟨g5, 1, none⟩ = some (.int .i64 n1) := (blk_cell s0 1).trans rfl
    have y0_2 : w'.cell? ⟨g5, 2, none⟩ = some (.int .i64 n2) := (blk_cell s0 2).trans rfl
    have y1_0 : w'.cell? ⟨gd, 0, none⟩ = some (.map (some gm)) := (blk_cell s1 0).trans rfl
    go_simp
    with_reducible rfl
   rotate_left
   ·
    exact putQ
   refine pureQ 9 (some 25) HT_ ?_
   refine one_ (i := 5) (N := (some 21)) #[true, true, true, true, true, true, true, true, true, true, false] rfl rfl (one_of HT_.out (by kernel_rfl)) (by decide) (fun K hK => ?_)
   refine goes_ Try.func52 (by kernel_rfl) rfl #[.agg #[.int .i64 n0, .int .i64 n1, .int .i64 n2]] (by rfl) rfl rfl (by (try simp only [List.map_toArray, List.map_cons, List.map_nil]); first | done | rfl) ?_
   refine (place52b n0 n1 n2 _).mono ?_
   rintro e w' ⟨rfl, hb⟩
   replace HB := zA (below_step HB.out hb)
   replace aa := zA (blk_keep aa.out hb)
   replace HM := zA (hasM_below HM.out hb)
   replace ab := zA (blk_keep ab.out hb)
   clear hb
   refine ⟨_, rfl, ?_⟩
   refine hK.out _ _ ⟨ab.out, aa.out, HM.out⟩ (fun hHeld => ?_)
   clear hK K
   refine normQ ?_
   refine last_ (i := 10) (N := none) #[true, true, true, true, true, true, true, true, true, true, true] rfl rfl (one_of HT_.out (by kernel_rfl)) (by decide) (fun K hK => ?_)
   obtain ⟨W3, hrun3, hM3, ht3⟩ := storeP HM.out n0 n1 ⟨⟨n0, n1, n2⟩, ⟨(k : Int), false⟩, ⟨0, false⟩⟩
   refine skip_ (w1 := W3) (by rfl) rfl (by go_simp) ?_
   refine hK.out _ _ ?_
   clear hK K
   refine done_ (done_of HT_.out (by kernel_rfl)) ?_
   go_wp2
   go_roundg g1
   case measure => omega
   case rel => exact ⟨k + 1, by go_num, by omega, by omega, ⟨by rw [HX.out]; exact hM3⟩, ⟨turned_blk ht3 NGM.out aa.out⟩, ⟨below_turn HB.out ht3 GM.out HB.out.size⟩⟩
  ·
   obtain rfl : k = l.length := by omega
   go_wp2
   go_ret
   exact ⟨gd, gm, rfl, ⟨aa.out, HM.out⟩, GD.out, GM.out, HB.out⟩
end Go.Proofs.Ytehpbmdphfbooaa.P
end
