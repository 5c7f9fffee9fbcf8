/- Words and contracts for a claim. -/
import Derived.Test.YtegffliopblajaaBase11
import Derived.RangeFuncKeeps
import Derived.RangeFuncFrom
section
namespace Go.Proofs.Ytegffliopblajaa.P
open Go.RowKit Go.Shelf Go.Proofs.YtegffliopblajaaW.PrintWords Go.Proofs.YtegffliopblajaaW.PrintLast Go.Proofs.YtegffliopblajaaW.PrintMore
set_option linter.unusedVariables false
set_option linter.unusedSimpArgs false
attribute [local go_sem] Oper.semAt_some
theorem cell_new_two0 (W : World) (u v : Value) (t : Nat) : (W.alloc (.cells #[u, v] t)).cell? ⟨W.heap.size, 0, none⟩ = some u := by simp
theorem cell_new_two1 (W : World) (u v : Value) (t : Nat) : (W.alloc (.cells #[u, v] t)).cell? ⟨W.heap.size, 1, none⟩ = some v := by simp
def clB (x : S47) (p rest a b : Int) : Bool := decide (x.f0 < wrap64 (b + rest)) && decide (a < wrap64 (x.f1 + rest)) && decide (0 ≤ p)
def clashL (l : List S47) (ps : List Int) (rest a b : Int) : Nat → Nat → List Int
  | 0, _ => []
  | r + 1, f => if clB (rd_T47 l f) (ps.getD f 0) rest a b = true then ps.getD f 0 :: clashL l ps rest a b r (f + 1) else clashL l ps rest a b r (f + 1)
set_option maxHeartbeats 2000000 in
set_option maxRecDepth 100000 in
theorem clashes_c (p : Option Addr) (a b : Int) (w : World) :
    Calls Try.prog 81 #[.pointer p, .agg #[.int .i64 a, .int .i64 b]] w fun e w' => e = .returned (.func (.func 90) #[] #[.pointer (some ⟨w.heap.size, 0, none⟩), .pointer (some ⟨w.heap.size + 1, 0, none⟩)]) ∧
      w' = (w.alloc (.cells #[.pointer p] 104)).alloc (.cells #[.int .i64 a, .int .i64 b] 47) := by
  have hu47 := Try.underlying47
  go_enter Try.func81, Try.ntmps81
  go_wp2
  go_ret
  exact ⟨rfl, rfl⟩
attribute [local irreducible] Go.wpStill in
set_option maxHeartbeats 8000000 in
set_option maxRecDepth 100000 in
theorem clashes_stops (B Bx Bs : Nat) (rest : Int) (A : Option Addr) (c : Nat) (l : List S47) (ps : List Int) (a b : Int) (w : World) (hl : l.length ≤ 40) (hc : l.length ≤ c) (SHW : Sh w B rest A l.length c ps) (hC : Kd.C k47 w A l.length l)
  (cx : w.cell? ⟨Bx, 0, none⟩ = some (.pointer (some ⟨B, 0, none⟩))) (ca : w.cell? ⟨Bs, 0, none⟩ = some (.int .i64 a)) (cb : w.cell? ⟨Bs, 1, none⟩ = some (.int .i64 b)) :
  SeqStopsK Fence.wide 9 Try.prog 90 #[.pointer (some ⟨Bx, 0, none⟩), .pointer (some ⟨Bs, 0, none⟩)] (fun x : Int => #[Value.int .i64 x]) (Below w.heap.size)
   (fun ys => ys = clashL l ps rest a b l.length 0) (fun pre => pre <+: clashL l ps rest a b l.length 0) 40 w := by
 intro ll J Jx W hW hJ hJx hY h0
 have mixed : Try.prog.follows .mixedOrders = true := by kernel_rfl
 have hu24 := Try.underlying24
 have hu22 := Try.underlying22
 have hu47 := Try.underlying47
 have hu108 := Try.underlying108
 have hu106 := Try.underlying106
 refine callsIn_of_wp Try.func90 rfl trivial ?_ rfl
 simp only [Try.ntmps90, List.size_toArray, List.length_cons, List.length_nil, Nat.reduceAdd, Nat.reduceSub, Array.replicate_succ, Array.replicate_zero, List.push_toArray, List.append_toArray, List.nil_append, List.cons_append]
 have SH := zA SHW
 have HC := zA hC
 have HY := zA hY
 have HJ := zA hJ
 have CX := zA cx
 have CA := zA ca
 have CB := zA cb
 have bx := World.block_lt_of_cell? _ _ cx
 have bs := World.block_lt_of_cell? _ _ ca
 have cx0 := (hW.cell bx).trans cx
 have c10 := (SHW.below hW).c1
 clear hY hC hJ hJx cx ca cb SHW
 gi_wp2
 gi_loopw [12] (fun i wr => ∃ (f : Nat) (pre : List Int), i = .int .i64 f ∧ f ≤ l.length ∧ pre.length ≤ f ∧ Aside0 (clashL l ps rest a b l.length 0 = pre ++ clashL l ps rest a b (l.length - f) f) ∧ Aside0 (J pre wr) ∧ Aside0 (Below w.heap.size w wr))
  (fun i _ => l.length - (intOf i).toNat)
 case atStart => exact ⟨0, [], rfl, Nat.zero_le _, Nat.le_refl _, ⟨rfl⟩, ⟨h0⟩, ⟨hW⟩⟩
 case round =>
  obtain ⟨f, pre, rfl, hf, hp, HW, HJ1, HB⟩ := hrel
  by_cases hlt : f < l.length
  ·
   have hltz : (f : Int) < (l.length : Int) := by omega
   have f0 : (0 : Int) ≤ (f : Int) := by omega
   obtain ⟨ad, e, h0c, h1c⟩ := at_T47 HC.out (f : Int) f0 hltz
   subst e
   have g0 := (HB.out.cell (World.block_lt_of_cell? w _ h0c)).trans h0c
   have g1 := (HB.out.cell (World.block_lt_of_cell? w _ h1c)).trans h1c
   clear h0c h1c
   rw [Int.toNat_natCast] at g0 g1
   have hw1 : IntKind.i64.wrap ((f : Int) + 1) = f + 1 := (i64_w _).trans (by unfold wrap64; omega)
   have W1 := zA hw1
   clear hw1
   obtain ⟨fx, hfx⟩ : ∃ fx, fx = (rd_T47 l (f : Int)).f0 := ⟨_, rfl⟩
   obtain ⟨tx, htx⟩ : ∃ tx, tx = (rd_T47 l (f : Int)).f1 := ⟨_, rfl⟩
   rw [← hfx] at g0
   rw [← htx] at g1
   have HX := zA (And.intro hfx htx)
   clear hfx htx
   gi_wp2
   have HW2 : Aside0 _ := ⟨HB.out⟩
   obtain ⟨W2, hW2⟩ : ∃ W2, W2 = wr.alloc (.cells #[.int .i64 fx, .int .i64 tx] 47) := ⟨_, rfl⟩
   have o0 : W2.cell? ⟨wr.heap.size, 0, none⟩ = some (.int .i64 fx) := by rw [hW2]; exact cell_new_two0 wr _ _ _
   have o1 : W2.cell? ⟨wr.heap.size, 1, none⟩ = some (.int .i64 tx) := by rw [hW2]; exact cell_new_two1 wr _ _ _
   have b2 : Below w.heap.size w W2 := by rw [hW2]; exact below_alloc HB.out _
   have j2 : J pre W2 := by rw [hW2]; exact HJ.out pre wr _ none HJ1.out (World.grownBy_alloc wr _ none) (fun r e => nomatch e)
   rw [← hW2]
   have SH2 := SH.out.below b2
   have x2 := (b2.cell bx).trans CX.out
   have s0 := (b2.cell bs).trans CA.out
   have s1 := (b2.cell bs).trans CB.out
   have r0 := SH2.c0
   have pf := SH2.cell (i := f) (by omega)
   obtain ⟨p, hpv⟩ : ∃ p, p = ps.getD f 0 := ⟨_, rfl⟩
   rw [← hpv] at pf
   obtain ⟨q1, hq1⟩ : ∃ q, wrap64 (b + rest) = q := ⟨_, rfl⟩
   obtain ⟨q2, hq2⟩ : ∃ q, wrap64 (tx + rest) = q := ⟨_, rfl⟩
   have w1 : IntKind.i64.wrap (b + rest) = q1 := (i64_w _).trans hq1
   have w2 : IntKind.i64.wrap (tx + rest) = q2 := (i64_w _).trans hq2
   have hcl : clB (rd_T47 l (f : Int)) (ps.getD f 0) rest a b = (decide (fx < q1) && decide (a < q2) && decide (0 ≤ p)) := by
    unfold clB
    rw [← HX.out.1, ← HX.out.2, hq1, hq2, hpv]
   have HPV := zA hpv
   have HJN := zA (HJ.out pre W2 W2.drew none j2 (⟨rfl, rfl, rfl, Nat.le_refl _, fun _ _ _ => rfl⟩ : W2.grownBy W2.drew none) (fun r e => nomatch e))
   have HBN := zA (below_drew1 b2)
   have f2 : f < 40 := by omega
   have f2z : (f : Int) < 40 := by omega
   clear hW2 b2 j2 SH2 hpv hq1 hq2 g0 g1 HW2 HB HJ1
   by_cases d1 : fx < q1
   ·
    by_cases d2 : a < q2
    ·
     by_cases d3 : 0 ≤ p
     ·
      have HCL : Aside0 (clB (rd_T47 l (f : Int)) (ps.getD f 0) rest a b = true) := ⟨by rw [hcl, decide_eq_true d1, decide_eq_true d2, decide_eq_true d3]; rfl⟩
      clear hcl
      refine stillTailIn 41 mixed rfl (by kernel_rfl) ?_
      simp only [List.take_succ_cons, List.take_zero, List.drop_succ_cons, List.drop_zero]
      change wpStill _ _ (World.drew _) (fun a' => wpListIn _ _ _ _ _ _ a' (World.drew _)) _ _
      (repeat still_step)
      refine wpStill_nil ?_
      obtain ⟨fn, tmps, assign, body, hy, hR⟩ := HY.out pre p W2.drew HJN.out (by omega)
      have HRR := zA hR
      clear hR
      gi_wp2
      refine HRR.out.mono ?_
      rintro e W3 (⟨rfl, hJ3, hk3⟩ | ⟨rfl, hJx3⟩)
      ·
       have HK3 := zA (HBN.out.trans hk3)
       have HJ3 := zA hJ3
       clear hJ3 hk3
       have hw1 := W1.out
       gi_wp2
       go_roundw
       case rel => exact ⟨f + 1, pre ++ [p], by first | rfl | simp, by omega, by simp; omega, ⟨by
        have e := HW.out
        obtain ⟨r, hr⟩ : ∃ r, l.length - f = r + 1 := ⟨l.length - f - 1, by omega⟩
        rw [hr, clashL, if_pos HCL.out, ← HPV.out] at e
        rw [e, show l.length - (f + 1) = r by omega, List.append_assoc]; rfl⟩, HJ3, HK3⟩
       case measure => simp [intOf]; omega
      ·
       gi_wp2
       refine bodyPost_ret (results_none rfl _ _ _) rfl ?_
       exact ⟨⟨_, rfl⟩, .inr ⟨pre ++ [p], ⟨clashL l ps rest a b (l.length - (f + 1)) (f + 1), by
        have e := HW.out
        obtain ⟨r, hr⟩ : ∃ r, l.length - f = r + 1 := ⟨l.length - f - 1, by omega⟩
        rw [hr, clashL, if_pos HCL.out, ← HPV.out] at e
        rw [e, show l.length - (f + 1) = r by omega, List.append_assoc]; rfl⟩, hJx3⟩⟩
     ·
      have HCL : Aside0 (clB (rd_T47 l (f : Int)) (ps.getD f 0) rest a b = false) := ⟨by rw [hcl, decide_eq_false d3, Bool.and_false]⟩
      clear hcl
      refine stillTailIn 41 mixed rfl (by kernel_rfl) ?_
      simp only [List.take_succ_cons, List.take_zero, List.drop_succ_cons, List.drop_zero]
      change wpStill _ _ (World.drew _) (fun a' => wpListIn _ _ _ _ _ _ a' (World.drew _)) _ _
      (repeat still_step)
      refine wpStill_nil ?_
      have hw1 := W1.out
      gi_wp2
      refine ⟨(fun f h => nomatch h), ?_⟩
      gi_wp2
      go_roundw
      case rel => exact ⟨f + 1, pre, by first | rfl | simp, by omega, by omega, ⟨by
       have e := HW.out
       obtain ⟨r, hr⟩ : ∃ r, l.length - f = r + 1 := ⟨l.length - f - 1, by omega⟩
       rw [hr, clashL, if_neg (by rw [HCL.out]; decide)] at e
       rw [e, show l.length - (f + 1) = r by omega]⟩, ⟨HJN.out⟩, ⟨HBN.out⟩⟩
      case measure => simp [intOf]; omega
    ·
     have HCL : Aside0 (clB (rd_T47 l (f : Int)) (ps.getD f 0) rest a b = false) := ⟨by rw [hcl, decide_eq_false d2, Bool.and_false, Bool.false_and]⟩
     clear hcl
     refine stillTailIn 41 mixed rfl (by kernel_rfl) ?_
     simp only [List.take_succ_cons, List.take_zero, List.drop_succ_cons, List.drop_zero]
     change wpStill _ _ (World.drew _) (fun a' => wpListIn _ _ _ _ _ _ a' (World.drew _)) _ _
     (repeat still_step)
     refine wpStill_nil ?_
     have hw1 := W1.out
     gi_wp2
     refine ⟨(fun f h => nomatch h), ?_⟩
     gi_wp2
     go_roundw
     case rel => exact ⟨f + 1, pre, by first | rfl | simp, by omega, by omega, ⟨by
      have e := HW.out
      obtain ⟨r, hr⟩ : ∃ r, l.length - f = r + 1 := ⟨l.length - f - 1, by omega⟩
      rw [hr, clashL, if_neg (by rw [HCL.out]; decide)] at e
      rw [e, show l.length - (f + 1) = r by omega]⟩, ⟨HJN.out⟩, ⟨HBN.out⟩⟩
     case measure => simp [intOf]; omega
   ·
    have HCL : Aside0 (clB (rd_T47 l (f : Int)) (ps.getD f 0) rest a b = false) := ⟨by rw [hcl, decide_eq_false d1, Bool.false_and, Bool.false_and]⟩
    clear hcl
    refine stillTailIn 41 mixed rfl (by kernel_rfl) ?_
    simp only [List.take_succ_cons, List.take_zero, List.drop_succ_cons, List.drop_zero]
    change wpStill _ _ (World.drew _) (fun a' => wpListIn _ _ _ _ _ _ a' (World.drew _)) _ _
    (repeat still_step)
    refine wpStill_nil ?_
    have hw1 := W1.out
    gi_wp2
    refine ⟨(fun f h => nomatch h), ?_⟩
    gi_wp2
    go_roundw
    case rel => exact ⟨f + 1, pre, by first | rfl | simp, by omega, by omega, ⟨by
     have e := HW.out
     obtain ⟨r, hr⟩ : ∃ r, l.length - f = r + 1 := ⟨l.length - f - 1, by omega⟩
     rw [hr, clashL, if_neg (by rw [HCL.out]; decide)] at e
     rw [e, show l.length - (f + 1) = r by omega]⟩, ⟨HJN.out⟩, ⟨HBN.out⟩⟩
    case measure => simp [intOf]; omega
  ·
   obtain rfl : f = l.length := by omega
   gi_wp2
   go_end0
   have e := HW.out
   rw [Nat.sub_self] at e
   exact ⟨⟨_, rfl⟩, .inl ⟨_, e.symm, by simpa [clashL] using HJ1.out⟩⟩
end Go.Proofs.Ytegffliopblajaa.P
end
