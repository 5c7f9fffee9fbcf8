/- Words and contracts for a claim. -/
import Derived.Test.YthoeindopljmkaaBase7
import Derived.RangeFuncFrom
import Derived.RangeFuncBound
import Derived.RangeFuncCalls
import Derived.RangeFuncLeaves
import Derived.OwnWalkIn
import Derived.TacticsInMore
import Derived.LoopNIn
import Derived.LoopIn
section
namespace Go.Proofs.Ythoeindopljmkaa.P
open Go.RowKit Go.Shelf Go.Proofs.YthoeindopljmkaaW.PrintWords Go.Proofs.YthoeindopljmkaaW.PrintLast Go.Proofs.YthoeindopljmkaaW.PrintMore
set_option linter.unusedVariables false
set_option linter.unusedSimpArgs false
attribute [local go_sem] Oper.semAt_some max2_int min2_int max_two min_two
def sumW (xs : List Int) : Int := xs.foldl (fun s v => wrap64 (s + v)) 0
theorem total_l0 : ∀ (k : Nat) (s : Int) (xs : List Int) (i : Int), 0 ≤ i → (xs.length : Int) - i < k → i ≤ xs.length → xs.length ≤ 1000000 →
    pump_total.l0 k s xs xs.length i = some ((xs.drop i.toNat).foldl (fun s v => wrap64 (s + v)) s)
  | 0, s, xs, i, h0, hk, hi, hx => by omega
  | k + 1, s, xs, i, h0, hk, hi, hx => by
    unfold pump_total.l0
    by_cases c : i < (xs.length : Int)
    · rw [if_pos c, if_pos h0, if_pos c]
      have hw : wrap64 (i + 1) = i + 1 := by unfold wrap64; omega
      rw [hw, total_l0 k _ xs (i + 1) (by omega) (by omega) (by omega) hx]
      have e : xs.drop i.toNat = rd xs i :: xs.drop (i + 1).toNat := by
        rw [show (i + 1).toNat = i.toNat + 1 by omega, List.drop_eq_getElem_cons (by omega)]
        congr 1
        unfold rd
        rw [List.getD_eq_getElem?_getD, List.getElem?_eq_getElem (by omega)]; rfl
      rw [e]; rfl
    · rw [if_neg c, List.drop_eq_nil_of_le (by omega)]; rfl
theorem total_c (A : Option Addr) (c : Nat) (xs : List Int) (w : World) (hr : Kd.C (Kd.int .i64) w A xs.length xs) (hc : xs.length ≤ c) (hx : xs.length ≤ 1000000) :
    Calls Try.prog 79 #[.slice A xs.length c] w fun e w' => e = .returned (.int .i64 (sumW xs)) ∧ Drawn0 w w' :=
  pump_total.calls (xs.length + 1) A c xs _ w hr hc (total_l0 _ 0 xs 0 (by omega) (by omega) (by omega) hx)
theorem drawn_grown {w w' : World} (h : Drawn0 w w') : w.grownBy w' none := by
  obtain ⟨k, rfl⟩ := h
  exact ⟨rfl, rfl, rfl, Nat.le_refl _, fun _ _ _ => rfl⟩
def part (xs : List Int) (f k : Nat) : List Int := (xs.take (min (f + k) xs.length)).drop f
def wins (xs : List Int) (k : Nat) (short : Bool) : Nat → Nat → List Int
  | 0, _ => []
  | r + 1, f => if (decide (xs.length < f + k) && !short) = true then [] else sumW (part xs f k) :: wins xs k short r (f + 1)
set_option maxHeartbeats 2000000 in
set_option maxRecDepth 100000 in
theorem windows_c (A : Option Addr) (n c : Nat) (k : Int) (b : Bool) (w : World) :
    Calls Try.prog 102 #[.slice A n c, .int .i64 k, .bool b] w fun e w' => e = .returned (.func (.func 105) #[] #[.pointer (some ⟨w.heap.size, 0, none⟩), .pointer (some ⟨w.heap.size + 1, 0, none⟩), .pointer (some ⟨w.heap.size + 2, 0, none⟩)]) ∧
      w' = ((w.alloc (.cells #[.slice A n c] 30)).alloc (.cells #[.int .i64 k] 3)).alloc (.cells #[.bool b] 4) := by
  go_enter Try.func102, Try.ntmps102
  go_wp2
  go_ret
  exact ⟨rfl, rfl⟩
set_option maxHeartbeats 4000000 in
set_option maxRecDepth 100000 in
theorem windows_stops (A : Option Addr) (c : Nat) (xs : List Int) (k : Nat) (b : Bool) (Bl Bk Bs : Nat) (w : World) (hx : xs.length ≤ 1000000) (hk : k ≤ 1000000) (hc : xs.length ≤ c) (hC : Kd.C (Kd.int .i64) w A xs.length xs)
  (cl : w.cell? ⟨Bl, 0, none⟩ = some (.slice A xs.length c)) (ck : w.cell? ⟨Bk, 0, none⟩ = some (.int .i64 k)) (cs : w.cell? ⟨Bs, 0, none⟩ = some (.bool b)) :
  SeqStopsK Fence.wide 9 Try.prog 105 #[.pointer (some ⟨Bl, 0, none⟩), .pointer (some ⟨Bk, 0, none⟩), .pointer (some ⟨Bs, 0, none⟩)] (fun x : Int => #[Value.int .i64 x]) (Below w.heap.size)
   (fun ys => ys = wins xs k b xs.length 0) (fun pre => pre <+: wins xs k b xs.length 0) xs.length w := by
 intro l J Jx W hW hJ hJx hY h0
 have bl := World.block_lt_of_cell? _ _ cl
 have bk := World.block_lt_of_cell? _ _ ck
 have bs := World.block_lt_of_cell? _ _ cs
 refine callsIn_of_wp Try.func105 rfl trivial ?_ rfl
 simp only [Try.ntmps105, List.size_toArray, List.length_cons, List.length_nil, Nat.reduceAdd, Nat.reduceSub, Array.replicate_succ, Array.replicate_zero, List.push_toArray, List.append_toArray, List.nil_append, List.cons_append]
 have cl0 := (hW.cell (p := ⟨Bl, 0, none⟩) bl).trans cl
 have HC := zA hC
 have HY := zA hY
 have HJ := zA hJ
 have CL := zA cl
 have CK := zA ck
 have CS := zA cs
 clear hY hC hJ hJx cl ck cs
 gi_wp2
 gi_loopw [9] (fun i wr => ∃ (f : Nat) (pre : List Int), i = .int .i64 f ∧ f ≤ xs.length ∧ pre.length = f ∧ Aside0 (wins xs k b xs.length 0 = pre ++ wins xs k b (xs.length - f) f) ∧ Aside0 (J pre wr) ∧ Aside0 (Below w.heap.size w wr))
  (fun i _ => xs.length - (intOf i).toNat)
 case atStart => exact ⟨0, [], rfl, Nat.zero_le _, rfl, ⟨rfl⟩, ⟨h0⟩, ⟨hW⟩⟩
 case round =>
  obtain ⟨f, pre, rfl, hf, hp, HW, HJ1, HB⟩ := hrel
  have cl1 := (HB.out.cell (p := ⟨Bl, 0, none⟩) bl).trans CL.out
  have ck1 := (HB.out.cell (p := ⟨Bk, 0, none⟩) bk).trans CK.out
  have cs1 := (HB.out.cell (p := ⟨Bs, 0, none⟩) bs).trans CS.out
  by_cases hlt : f < xs.length
  ·
   have hw : IntKind.i64.wrap ((f : Int) + k) = f + k := (i64_w _).trans (by unfold wrap64; omega)
   have hw1 : IntKind.i64.wrap ((f : Int) + 1) = f + 1 := (i64_w _).trans (by unfold wrap64; omega)
   have W1 := zA hw1
   clear hw1
   by_cases c1 : xs.length < f + k
   ·
    have c2 : decide ((xs.length : Int) < (f : Int) + k) = true := decide_eq_true (by omega)
    have hif : (if (xs.length : Int) < (f : Int) + k then (xs.length : Int) else (f : Int) + k) = xs.length := if_pos (by omega)
    cases b with
    | false =>
     gi_wp2
     refine bodyPost_ret (results_none rfl _ _ _) rfl ?_
     have e := HW.out
     obtain ⟨r, hr⟩ : ∃ r, xs.length - f = r + 1 := ⟨xs.length - f - 1, by omega⟩
     rw [hr] at e
     rw [show wins xs k false (r + 1) f = [] from if_pos (by rw [decide_eq_true c1]; rfl), List.append_nil] at e
     exact ⟨⟨_, rfl⟩, .inl ⟨_, e.symm, HJ1.out⟩⟩
    | true =>
     obtain ⟨i3, hi3, _, hsz3, _⟩ := info_parts info3
     obtain ⟨A1, hcut, hA, hl⟩ := print_mid_of (P := Try.prog) (Value.int .i64) 0 30 3 .i64 .i64 Try.underlying30 hi3 hsz3 A c xs (f : Int) (xs.length : Int) (by omega) (by omega) (by omega) hc
     have hpart : (xs.take (xs.length : Int).toNat).drop (f : Int).toNat = part xs f k := by unfold part; congr 2; omega
     rw [hpart] at hcut hA hl
     simp only [Int.toNat_natCast] at hl
     have HR := zA (Kd.C_of_reads (h1 := fun _ => rfl) (hA _ (Kd.reads_of_C (Kd.C_below HC.out HB.out))))
     have hpl : (part xs f k).length ≤ 1000000 := by unfold part; simp only [List.length_drop, List.length_take]; omega
     have HL := zA (And.intro hl hpl)
     have HE := zA (show wins xs k true (xs.length - f) f = sumW (part xs f k) :: wins xs k true (xs.length - (f + 1)) (f + 1) from by
      obtain ⟨r, hr⟩ : ∃ r, xs.length - f = r + 1 := ⟨xs.length - f - 1, by omega⟩
      rw [hr, show xs.length - (f + 1) = r by omega]
      exact if_neg (by simp))
     clear hA hl hpl hi3 hsz3 hpart
     gi_wp2_with (refine ⟨trivial, (callsIn_wide.2 (total_c A1 _ (part xs f k) _ HR.out HL.out.1 HL.out.2)).mono ?_⟩; rintro e w2 ⟨rfl, hd⟩; obtain ⟨fn, tmps, assign, body, hy, hR⟩ := HY.out pre (sumW (part xs f k)) w2 (HJ.out pre wr w2 none HJ1.out (drawn_grown hd) (fun r e => nomatch e)) (by omega); have HD := zA hd; have HRR := zA hR; clear hd hR)
     refine HRR.out.mono ?_
     rintro e W3 (⟨rfl, hJ3, hk3⟩ | ⟨rfl, hJx3⟩)
     ·
      have HK3 := zA ((HB.out.trans ((HD.out.below).mono HB.out.size)).trans hk3)
      have HJ3 := zA hJ3
      clear hJ3 hk3
      have hw1 := W1.out
      gi_wp2
      go_roundw
      case rel => exact ⟨f + 1, pre ++ [sumW (part xs f k)], by first | rfl | simp, by omega, by simp [hp], ⟨by rw [HW.out, HE.out]; simp⟩, HJ3, HK3⟩
      case measure => simp [intOf]; omega
     ·
      gi_wp2
      refine bodyPost_ret (results_none rfl _ _ _) rfl ?_
      exact ⟨⟨_, rfl⟩, .inr ⟨pre ++ [sumW (part xs f k)], ⟨wins xs k true (xs.length - (f + 1)) (f + 1), by rw [HW.out, HE.out]; simp⟩, hJx3⟩⟩
   ·
    have c2 : decide ((xs.length : Int) < (f : Int) + k) = false := decide_eq_false (by omega)
    have hif : (if (xs.length : Int) < (f : Int) + k then (xs.length : Int) else (f : Int) + k) = (f : Int) + k := if_neg (by omega)
    obtain ⟨i3, hi3, _, hsz3, _⟩ := info_parts info3
    obtain ⟨A1, hcut, hA, hl⟩ := print_mid_of (P := Try.prog) (Value.int .i64) 0 30 3 .i64 .i64 Try.underlying30 hi3 hsz3 A c xs (f : Int) ((f : Int) + k) (by omega) (by omega) (by omega) hc
    have hpart : (xs.take ((f : Int) + k).toNat).drop (f : Int).toNat = part xs f k := by unfold part; congr 2; omega
    rw [hpart] at hcut hA hl
    simp only [Int.toNat_natCast] at hl
    have HR := zA (Kd.C_of_reads (h1 := fun _ => rfl) (hA _ (Kd.reads_of_C (Kd.C_below HC.out HB.out))))
    have hpl : (part xs f k).length ≤ 1000000 := by unfold part; simp only [List.length_drop, List.length_take]; omega
    have HL := zA (And.intro hl hpl)
    have HE := zA (show wins xs k b (xs.length - f) f = sumW (part xs f k) :: wins xs k b (xs.length - (f + 1)) (f + 1) from by
     obtain ⟨r, hr⟩ : ∃ r, xs.length - f = r + 1 := ⟨xs.length - f - 1, by omega⟩
     rw [hr, show xs.length - (f + 1) = r by omega]
     exact if_neg (by rw [decide_eq_false c1]; simp))
    clear hA hl hpl hi3 hsz3 hpart
    gi_wp2_with (refine ⟨trivial, (callsIn_wide.2 (total_c A1 _ (part xs f k) _ HR.out HL.out.1 HL.out.2)).mono ?_⟩; rintro e w2 ⟨rfl, hd⟩; obtain ⟨fn, tmps, assign, body, hy, hR⟩ := HY.out pre (sumW (part xs f k)) w2 (HJ.out pre wr w2 none HJ1.out (drawn_grown hd) (fun r e => nomatch e)) (by omega); have HD := zA hd; have HRR := zA hR; clear hd hR)
    refine HRR.out.mono ?_
    rintro e W3 (⟨rfl, hJ3, hk3⟩ | ⟨rfl, hJx3⟩)
    ·
     have HK3 := zA ((HB.out.trans ((HD.out.below).mono HB.out.size)).trans hk3)
     have HJ3 := zA hJ3
     clear hJ3 hk3
     have hw1 := W1.out
     gi_wp2
     go_roundw
     case rel => exact ⟨f + 1, pre ++ [sumW (part xs f k)], by first | rfl | simp, by omega, by simp [hp], ⟨by rw [HW.out, HE.out]; simp⟩, HJ3, HK3⟩
     case measure => simp [intOf]; omega
    ·
     gi_wp2
     refine bodyPost_ret (results_none rfl _ _ _) rfl ?_
     exact ⟨⟨_, rfl⟩, .inr ⟨pre ++ [sumW (part xs f k)], ⟨wins xs k b (xs.length - (f + 1)) (f + 1), by rw [HW.out, HE.out]; simp⟩, hJx3⟩⟩
  ·
   obtain rfl : f = xs.length := by omega
   gi_wp2
   go_end0
   have e := HW.out
   rw [Nat.sub_self] at e
   exact ⟨⟨_, rfl⟩, .inl ⟨_, e.symm, by simpa [wins] using HJ1.out⟩⟩
end Go.Proofs.Ythoeindopljmkaa.P
end
