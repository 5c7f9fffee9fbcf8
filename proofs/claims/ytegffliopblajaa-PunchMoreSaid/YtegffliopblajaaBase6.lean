/- Words and contracts for a claim. -/
import Derived.Test.YtegffliopblajaaBase5
import Derived.RangeFuncNested
import Derived.RangeFuncBound
import Derived.RangeFuncCalls
import Derived.RangeFuncLeaves
import Derived.Shelf.Abstract
import Derived.OwnWalkIn
import Derived.TacticsInMore
import Derived.LoopNIn
import Derived.LoopIn
import Derived.RangeFuncBox
section
namespace Go.Proofs.Ytegffliopblajaa.P
open Go.RowKit Go.Shelf Go.Proofs.YtegffliopblajaaW.PrintWords Go.Proofs.YtegffliopblajaaW.PrintLast Go.Proofs.YtegffliopblajaaW.PrintMore
set_option linter.unusedVariables false
set_option linter.unusedSimpArgs false
attribute [local go_sem] Oper.semAt_some
theorem take_rd {l : List S47} {f : Nat} (h : f < l.length) : l.take (f + 1) = l.take f ++ [rd_T47 l (f : Int)] := by
  rw [List.take_succ_eq_append_getElem h]
  unfold rd_T47
  rw [List.getD_eq_getElem?_getD, Int.toNat_natCast, List.getElem?_eq_getElem h]; rfl
set_option maxHeartbeats 2000000 in
set_option maxRecDepth 100000 in
theorem vals67 (A : Option Addr) (n c : Nat) (w : World) : Calls Try.prog 67 #[.slice A n c] w fun e w' => e = .returned (.func (.func 84) #[] #[.pointer (some ⟨w.heap.size, 0, none⟩)]) ∧ w' = w.alloc (.cells #[.slice A n c] 22) := by
  go_enter Try.func67, Try.ntmps67
  go_wp2
  go_ret
  exact ⟨rfl, rfl⟩
def enc47 (x : S47) : Array Value := #[.agg #[.int .i64 x.f0, .int .i64 x.f1]]
set_option maxHeartbeats 8000000 in
set_option maxRecDepth 100000 in
theorem vals_stops (Bs : Nat) (A : Option Addr) (c : Nat) (l : List S47) (w : World) (hl : l.length ≤ 40) (hC : Kd.C k47 w A l.length l) (cs : w.cell? ⟨Bs, 0, none⟩ = some (.slice A l.length c)) :
  SeqStopsK Fence.wide 9 Try.prog 84 #[.pointer (some ⟨Bs, 0, none⟩)] enc47 (Below w.heap.size) (fun ys => ys = l) (fun pre => pre <+: l) 40 w := by
 intro ll J Jx W hW hJ hJx hY h0
 have hu22 := Try.underlying22
 have hu47 := Try.underlying47
 refine callsIn_of_wp Try.func84 rfl trivial ?_ rfl
 simp only [Try.ntmps84, List.size_toArray, List.length_cons, List.length_nil, Nat.reduceAdd, Nat.reduceSub, Array.replicate_succ, Array.replicate_zero, List.push_toArray, List.append_toArray, List.nil_append, List.cons_append]
 have HC := zA hC
 have HY := zA hY
 have HJ := zA hJ
 have cs0 := (hW.cell (World.block_lt_of_cell? _ _ cs)).trans cs
 clear hY hC hJ hJx cs
 gi_wp2
 gi_loopw [7] (fun i wr => ∃ f : Nat, i = .int .i64 f ∧ f ≤ l.length ∧ Aside0 (J (l.take f) wr) ∧ Aside0 (Below w.heap.size w wr))
  (fun i _ => l.length - (intOf i).toNat)
 case atStart => exact ⟨0, rfl, Nat.zero_le _, ⟨h0⟩, ⟨hW⟩⟩
 case round =>
  obtain ⟨f, rfl, hf, HJ1, HB⟩ := hrel
  by_cases hlt : f < l.length
  ·
   have hltz : (f : Int) < (l.length : Int) := by omega
   obtain ⟨ad, e, h0c, h1c⟩ := at_T47 HC.out (f : Int) (by omega) hltz
   subst e
   have g0 := (HB.out.cell (World.block_lt_of_cell? w _ h0c)).trans h0c
   have g1 := (HB.out.cell (World.block_lt_of_cell? w _ h1c)).trans h1c
   clear h0c h1c
   rw [Int.toNat_natCast] at g0 g1
   have W1 := zA (show IntKind.i64.wrap ((f : Int) + 1) = f + 1 from (i64_w _).trans (by unfold wrap64; omega))
   have HT := zA (take_rd hlt)
   obtain ⟨x, hx⟩ : ∃ x, x = rd_T47 l (f : Int) := ⟨_, rfl⟩
   rw [← hx] at g0 g1 HT
   clear hx
   obtain ⟨W2, hW2⟩ : ∃ W2, W2 = wr.alloc (.cells #[.int .i64 x.f0, .int .i64 x.f1] 47) := ⟨_, rfl⟩
   have j2 : J (l.take f) W2 := by rw [hW2]; exact HJ.out _ wr _ none HJ1.out (World.grownBy_alloc wr _ none) (fun r e => nomatch e)
   have b2 : Below w.heap.size w W2 := by rw [hW2]; exact below_alloc HB.out _
   obtain ⟨fn, tmps, assign, body, hy, hR⟩ := HY.out (l.take f) x W2 j2 (by rw [List.length_take]; omega)
   have HRR := zA hR
   have B2 := zA b2
   clear hR j2 b2
   unfold enc47 at hy
   obtain ⟨fx, hfx⟩ : ∃ fx, fx = x.f0 := ⟨_, rfl⟩
   obtain ⟨tx, htx⟩ : ∃ tx, tx = x.f1 := ⟨_, rfl⟩
   rw [← hfx, ← htx] at hy hW2
   rw [← hfx] at g0
   rw [← htx] at g1
   have o0 : W2.cell? ⟨wr.heap.size, 0, none⟩ = some (.int .i64 fx) := by rw [hW2]; simp
   have o1 : W2.cell? ⟨wr.heap.size, 1, none⟩ = some (.int .i64 tx) := by rw [hW2]; simp
   have HW2 := zA hW2
   clear hW2 hfx htx
   gi_wp2
   rw [← HW2.out]
   gi_wp2
   rw [hy]
   gi_wp2
   refine HRR.out.mono ?_
   rintro e W3 (⟨rfl, hJ3, hk3⟩ | ⟨rfl, hJx3⟩)
   ·
    have HK3 := zA (B2.out.trans hk3)
    have HJ3 := zA hJ3
    clear hJ3 hk3
    have hw1 := W1.out
    gi_wp2
    go_roundw
    case rel => exact ⟨f + 1, by first | rfl | simp, by omega, ⟨by rw [HT.out]; exact HJ3.out⟩, HK3⟩
    case measure => simp [intOf]; omega
   ·
    have HJX := zA hJx3
    clear hJx3
    gi_wp2
    refine bodyPost_ret (results_none rfl _ _ _) rfl ?_
    exact ⟨⟨_, rfl⟩, .inr ⟨l.take (f + 1), List.take_prefix _ _, by rw [HT.out]; exact HJX.out⟩⟩
  ·
   obtain rfl : f = l.length := by omega
   gi_wp2
   go_end0
   exact ⟨⟨_, rfl⟩, .inl ⟨_, rfl, by simpa using HJ1.out⟩⟩
def enc2 (x : S47) : List Value := [.int .i64 x.f0, .int .i64 x.f1]
theorem cells_two {W : World} {B : Nat} {u v : Value} {t : Nat} (h : W.heap[B]? = some (.cells #[u, v] t (0, 0))) : W.cell? ⟨B, 0, none⟩ = some u ∧ W.cell? ⟨B, 1, none⟩ = some v := by
  constructor <;> simp [World.cell?, h]
set_option maxHeartbeats 8000000 in
set_option maxRecDepth 100000 in
theorem append91 (Bs : Nat) (A : Option Addr) (c : Nat) (l : List S47) (w : World) (hl : l.length ≤ 40) (hC : Kd.C k47 w A l.length l) (cs : w.cell? ⟨Bs, 0, none⟩ = some (.slice A l.length c)) :
  Calls Try.prog 91 #[.slice none 0 0, .func (.func 84) #[] #[.pointer (some ⟨Bs, 0, none⟩)]] w fun e w' => ∃ v, e = .returned v ∧ w'.ownsRow w.heap.size 47 2 v l.length (l.flatMap enc2) ∧ Below w.heap.size w w' := by
 have hu22 := Try.underlying22
 have hu47 := Try.underlying47
 obtain ⟨i0, hi, hz0, hz1, hz2⟩ := info_parts info47
 refine callsIn_wide.1 (?_ : CallsIn Fence.wide 10 _ _ _ _ _)
 refine callsIn_of_wp_marks Try.func91 rfl trivial ?_
 simp only [Try.ntmps91, List.size_toArray, List.length_cons, List.length_nil, Nat.reduceAdd, Nat.reduceSub, Array.replicate_succ, Array.replicate_zero, List.push_toArray, List.append_toArray, List.nil_append, List.cons_append]
 have VS := zA (vals_stops Bs A c l w hl hC cs)
 clear hC cs
 gi_wp2
 have bS := Boxed.new w 22 (.slice none 0 0)
 have hB0 : Below w.heap.size w (w.alloc (.cells #[.slice none 0 0] 22)) := below_alloc (Below.refl _ _) _
 have hsz : (w.alloc (.cells #[.slice none 0 0] 22)).heap.size = w.heap.size + 1 := by simp
 obtain ⟨W0, hW0⟩ : ∃ W0, w.alloc (.cells #[.slice none 0 0] 22) = W0 := ⟨_, rfl⟩
 rw [hW0] at bS hB0 hsz ⊢
 clear hW0
 refine wpIn_rangeFunc_ownH rfl (by omega) (gf := 84) (lb := #[.pointer (some ⟨Bs, 0, none⟩)]) rfl trivial (enters_of Try.func84 (by kernel_rfl) rfl) VS.out belowK_t (belowK_b (by omega)) hB0 (fun _ => rfl)
  (fun (pre : List S47) W => (∃ v, Boxed W w.heap.size 22 v ∧ W.ownsRow w.heap.size 47 2 v pre.length (pre.flatMap enc2) ∧ True) ∧ Below w.heap.size w W)
  (fun _ _ _ => False)
  (OwnFrom.and (Own.from (holdsRow_own w.heap.size w.heap.size 22 47 2 (fun (pre : List S47) => pre.length) (fun (pre : List S47) => pre.flatMap enc2) (fun _ _ => True)) _) (ownFrom_below (Nat.le_refl _) (by omega)))
  (fun _ _ _ _ _ hs _ _ => hs)
  ⟨⟨_, bS, World.ownsRow_nil _ _ _ _, trivial⟩, hB0⟩
  (fun x a' W => ∃ Bx, w.heap.size < Bx ∧ W.heap[Bx]? = some (.cells #[.int .i64 x.f0, .int .i64 x.f1] 47 (0, 0)) ∧ a' = { tmps := #[.slice none 0 0, .func (.func 84) #[] #[.pointer (some ⟨Bs, 0, none⟩)], .pointer (some ⟨w.heap.size, 0, none⟩), undef, .slice none 0 0, .pointer (some ⟨Bx, 0, none⟩), .func (.func 84) #[] #[.pointer (some ⟨Bs, 0, none⟩)], .agg #[.int .i64 x.f0, .int .i64 x.f1], undef, undef, undef, undef, undef], defers := [] })
  (fun x a' _ X Y row hs hg hr => by
   obtain ⟨Bx, h1, h2, h3⟩ := hs
   exact ⟨Bx, h1, (hg.block Bx (Array.getElem?_eq_some_iff.1 h2).1 (fun e => by obtain ⟨_, o, ho, hc⟩ := hr Bx e.symm; rw [h2] at ho; cases ho; cases hc)).trans h2, h3⟩)
  ?assign ?body ?done ?stop
 case assign =>
  rintro ll pre x W K ⟨⟨v, bS1, hrow, _⟩, hB1⟩ hK
  unfold enc47
  obtain ⟨fx, hfx⟩ : ∃ fx, fx = x.f0 := ⟨_, rfl⟩
  obtain ⟨tx, htx⟩ : ∃ tx, tx = x.f1 := ⟨_, rfl⟩
  rw [← hfx, ← htx] at hK ⊢
  have HK := zA hK
  clear hK hfx htx
  gi_wp2
  exact HK.out _ _ ((KeepsOthers.alloc _ _).from _) ((Below.refl _ W).alloc hB1.size _) ⟨⟨v, bS1.alloc _, hrow.alloc _, trivial⟩, hB1.alloc hB1.size _⟩ ⟨W.heap.size, bS1.lt, heap_alloc_new W _, rfl⟩
 case body =>
  rintro ll pre x a' W hll ⟨r, hr⟩ ⟨⟨v, bS1, hrow, _⟩, hB1⟩ ⟨Bx, hBx, hX, rfl⟩ hlt
  obtain ⟨fx, hfx⟩ : ∃ fx, fx = x.f0 := ⟨_, rfl⟩
  obtain ⟨tx, htx⟩ : ∃ tx, tx = x.f1 := ⟨_, rfl⟩
  rw [← hfx, ← htx] at hX ⊢
  have HE : Aside0 ((pre ++ [x]).flatMap enc2 = pre.flatMap enc2 ++ [.int .i64 fx, .int .i64 tx]) := ⟨by rw [hfx, htx]; simp [enc2]⟩
  obtain ⟨x0, x1⟩ := cells_two hX
  have cB := bS1.cell
  have HBS := zA bS1
  have HROW := zA hrow
  have HB1 := zA hB1
  have HLT := zA hlt
  clear hfx htx bS1 hrow hB1 hX hr hll hlt
  obtain ⟨xs, hxs⟩ : ∃ xs, xs = pre.flatMap enc2 := ⟨_, rfl⟩
  rw [← hxs] at HROW HE
  clear hxs
  gi_wp2_with (gi_at_builtin; refine wpListIn_append_own _ rfl _ _ 22 rfl w.heap.size 47 i0 (.agg #[(.int .i64 0), (.int .i64 0)]) 2 16 Try.underlying22 hi hz0 hz1 hz2 rfl (by decide) _ _ _ rfl (HROW.out.alloc _) ⟨W.heap.size, 0, none⟩ 1 1 [.int .i64 fx, .int .i64 tx] rfl rfl (by simpa using World.news_of_block (cs := #[.int .i64 fx, .int .i64 tx]) (t := 47) (fr := (0, 0)) (heap_alloc_new W (.cells #[.int .i64 fx, .int .i64 tx] 47))) (by simp [Value.oneCell']) (by have := HLT.out; simp only [maxLen]; omega) (by have := HLT.out; omega) (by have := HB1.out.size; simp; omega) ?_; intro v' w1 hown' hgrow _; obtain ⟨g', cap', ev⟩ := ownsRow_succ hown'; subst ev; obtain ⟨hv1, hv2, hr2, hk2, hb2⟩ := HBS.out.appended (by decide) HROW.out HB1.out.size (Nat.le_refl _) hown' hgrow; have hc1 := hv1.cell; have hf1 := hv1.frozen)
  exact ⟨hk2.from _, hb2, ⟨_, hv2, by rw [HE.out, List.length_append]; exact hr2, trivial⟩, HB1.out.trans hb2⟩
 case done =>
  rintro D ys W hD rfl ⟨⟨v, bS1, hrow, _⟩, hB1⟩ hK
  have cB := bS1.cell
  have HR := zA hrow
  have HB := zA hB1
  clear hrow hB1
  gi_wp2
  refine ⟨by simp, .inl ⟨_, _, rfl, run_takeDeferred hK, ?_⟩⟩
  exact ⟨_, results_tmp rfl _ _ _, v, rfl, ownsRow_putObj HR.out _ hK rfl, HB.out.trans (belowK_b (w := w) (Nat.le_refl _) W D _ _ (by omega) hK rfl rfl)⟩
 case stop =>
  rintro D c' pre W _ _ h _
  exact h.elim
end Go.Proofs.Ytegffliopblajaa.P
end
