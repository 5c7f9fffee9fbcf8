/- Words and contracts for a claim. -/
import Derived.Test.YthoeindopljmkaaBase5
import Derived.Sort.OwnSortedInts
import Derived.Shelf.Abstract
section
namespace Go.Proofs.Ythoeindopljmkaa.P
open Go.RowKit Go.Shelf Go.Proofs.YthoeindopljmkaaW.PrintWords Go.Proofs.YthoeindopljmkaaW.PrintLast Go.Proofs.YthoeindopljmkaaW.PrintMore
attribute [local go_sem] max2_int min2_int max_two min_two max_three min_three max_four min_four
set_option linter.unusedVariables false
set_option linter.unusedSimpArgs false
def sortI (xs : List Int) : List Int := xs.mergeSort fun x y => decide (x ≤ y)
theorem sort_c (v : Value) (xs : List Int) (base : Nat) (w : World) (hR : Kd.R (Kd.int .i64) 3 w base (fun k => base ≤ k) v xs) (hl : xs.length < 4611686018427387904) :
    Calls Try.prog 97 #[v] w fun e w' => e = .returned (.tuple #[]) ∧ Kd.R (Kd.int .i64) 3 w' base (fun k => base ≤ k) v (sortI xs) ∧ Below base w w' := by
  have ho := Kd.own_of_R (enc := Value.int .i64) (h1 := fun _ => rfl) hR
  obtain ⟨ho1, ⟨rfl, hn⟩ | ⟨g, cap, cur, rfl, hg, hb, h1, h2, h3, h4⟩⟩ := ho
  · obtain rfl : xs = [] := List.eq_nil_of_length_eq_zero hn
    refine (AnyM.slices_Sort_int_none Try.mInts none 0 w).mono ?_
    rintro e w' ⟨rfl, rfl⟩
    exact ⟨rfl, by rw [show sortI [] = [] by simp [sortI]]; exact hR, Below.refl _ _⟩
  · rw [Nat.mul_one] at h4
    have h5 : cur.toList.take xs.length = xs.map (Value.int .i64) := by rw [h4]; simp [encs]
    have hlt : g < w.heap.size := (Array.getElem?_eq_some_iff.1 hb).1
    refine (AnyM.slices_Sort_int Try.mInts g 0 cap xs w (holds_of_blockI hb h5) hlt hl).mono ?_
    rintro e w' ⟨rfl, n, os, rfl⟩
    have hs : (sortI xs).length = xs.length := List.length_mergeSort _
    have hown := ownsRow_sortedI (n := n) (os := os) (cap := cap) (ss := xs) (ts := sortI xs) hs hg hb h1 h2 h3
    have hgr := grownBy_sortedI (w := w) (g := g) (n := n) (os := os) (sortI xs).toArray
    refine ⟨rfl, Kd.R_of_own (enc := Value.int .i64) (h1 := fun _ => rfl) (by rw [hs]; simpa [encs, sortI] using hown) (fun k hk => by simp [Value.ownBlock] at hk; omega), hgr.os, hgr.tape, hgr.output, hgr.size, fun k hk => hgr.block k (by omega) (by simp; omega)⟩
def takenRaw.l0 : Nat → List (S71) → List Int → Int → List Int → List Int → Option (List Int)
  | 0, _, _, _, _, _ => none
  | k + 1, x0, x7, x8, x104000, x104001 => if x8 > 0 then (if 0 ≤ x8 then (if x8 < (x104001.length : Int) then (if (rd x104001 x8) ≥ 0 then (if x7.length < 17592186044416 then (if 0 ≤ (rd x104001 x8) then (if (rd x104001 x8) < (x0.length : Int) then (takenRaw.l0 k x0 (x7 ++ [rd x104001 x8]) (mx 0 (wrap64 (x8 - ((rd_T71 x0 (rd x104001 x8)).f0)))) x104000 x104001) else (none)) else (none)) else (none)) else (takenRaw.l0 k x0 x7 (wrap64 (x8 - 1)) x104000 x104001)) else (none)) else (none)) else (some x7)
def takenRaw.f (k : Nat) (l0 : List (S71)) (l1_0 : List Int) (l1_1 : List Int) (a2 : Int) : Option (List Int) := takenRaw.l0 k l0 ([] : List Int) a2 l1_0 l1_1
set_option maxHeartbeats 8000000 in
set_option maxRecDepth 100000 in
theorem takenRaw.calls (k : Nat) (A0 : Option Addr) (c0 : Nat) (l0 : List (S71)) (A1_0 : Option Addr) (c1_0 : Nat) (l1_0 : List Int) (A1_1 : Option Addr) (c1_1 : Nat) (l1_1 : List Int) (a2 : Int) (r : List Int) (w : World) (hr0 : Kd.C k71 w A0 l0.length l0) (hc0 : l0.length ≤ c0) (hr1_0 : Kd.C (Kd.int .i64) w A1_0 l1_0.length l1_0) (hc1_0 : l1_0.length ≤ c1_0) (hr1_1 : Kd.C (Kd.int .i64) w A1_1 l1_1.length l1_1) (hc1_1 : l1_1.length ≤ c1_1) (h : takenRaw.f k l0 l1_0 l1_1 a2 = some r) (hlen : r.length < 4611686018427387904) :
  Calls Try.prog 83 #[.slice A0 l0.length c0, .agg #[.slice A1_0 l1_0.length c1_0, .slice A1_1 l1_1.length c1_1], .int .i64 a2] w fun e w' => ∃ v0_ : Value, e = .returned (v0_) ∧ Kd.R (Kd.int .i64) 3 w' w.heap.size (fun _ => True) v0_ (sortI r) ∧ Below w.heap.size w w' := by
 have hu107 := Try.underlying107
 have HR0 := zA hr0
 have HC0 := zA hc0
 clear hr0 hc0
 have HR1_0 := zA hr1_0
 have HC1_0 := zA hc1_0
 clear hr1_0 hc1_0
 have HR1_1 := zA hr1_1
 have HC1_1 := zA hc1_1
 clear hr1_1 hc1_1
 have HB := zA (Below.refl w.heap.size w)
 have H : (takenRaw.l0 k l0 ([] : List Int) a2 l1_0 l1_1) = some r := h
 clear h
 have H' := zA H
 clear H
 go_enter Try.func83, Try.ntmps83
 go_wp2_with (first | ((with_reducible refine gate_dst (N := 4) rfl ?_); refine box_event ?hg (N := 4) ?hd (cs := #[.slice A1_0 l1_0.length c1_0, .slice A1_1 l1_1.length c1_1]) (t := 107) ?hr ?_; (case hd => rfl); (case hg => rfl); (case hr => first | (go_simp; done) | (go_simp; rfl)); intro gb103 hg w4 hbox hb; have n0_ := zA (below_step (zqA HB.out) hb); have n1_ := zA (hbox); have n2_ := zA ((by rw [hg]; exact (below_size (zqA HB.out)) : w.heap.size ≤ gb103)); have n3_ := zA ((by rw [hg]; exact (below_size (zqA HB.out)) : w.heap.size ≤ gb103)); clear HB; have HB := n0_; have BK103 := n1_; have GW103 := n2_; have GE103 := n3_; clear n0_ n1_ n2_ n3_; clear hb hbox hg))
 go_loopg [7, 8] k (fun kq v7 v8 w' => ∃ (x7_1 : List Int) (x8_1 : Int), v8 = .int .i64 x8_1 ∧ Aside0 (takenRaw.l0 kq l0 x7_1 x8_1 l1_0 l1_1 = some r) ∧ Aside0 (kq ≤ k) ∧ Aside0 (Kd.R (Kd.int .i64) 3 w' w.heap.size (fun _ => True) v7 x7_1) ∧ Aside0 (w'.heap[gb103]? = some (.cells #[(.slice A1_0 l1_0.length c1_0), (.slice A1_1 l1_1.length c1_1)] 107 (0, 0))) ∧ Aside0 (Below w.heap.size w w'))
 case atStart => exact ⟨(([] : List Int)), (a2), zqQ, H', ⟨Nat.le_refl _⟩, ⟨by first | exact Kd.R_nil _ _ _ _ _ | exact Kd.N_nil _ _ _ _ _ | exact Kd.V_nil _ _ _ _ _ | exact Kd.Q_nil _ _ _ _ _ | exact Kd.S_nil _ _ _ _ _⟩, ⟨zqB BK103.out⟩, ⟨zqG HB.out GE103.out⟩⟩
 case round =>
  clear H'
  try clear c1
  try clear p2
  obtain ⟨x7_1, x8_1, rfl, HA, HK1, HO_7, BK103, HB⟩ := hrel
  cases gk with
  | zero => exact absurd HA.out (by simp [takenRaw.l0])
  | succ k1 =>
   have H := HA.out
   clear HA
   simp only [takenRaw.l0] at H
   by_cases c5 : x8_1 > 0
   ·
    rw [if_pos c5] at H
    have c5b0 : decide (0 < x8_1) = true := decide_eq_true c5
    clear c5
    by_cases c6 : 0 ≤ x8_1
    ·
     rw [if_pos c6] at H
     have c6b0 : decide (0 ≤ x8_1) = true := decide_eq_true c6
     clear c6
     by_cases c7 : x8_1 < (l1_1.length : Int)
     ·
      rw [if_pos c7] at H
      have c7b0 : decide (x8_1 < (l1_1.length : Int)) = true := decide_eq_true c7
      clear c7
      by_cases c8 : (rd l1_1 x8_1) ≥ 0
      ·
       rw [if_pos c8] at H
       have c8b0 : decide (0 ≤ (rd l1_1 x8_1)) = true := decide_eq_true c8
       clear c8
       by_cases c9 : x7_1.length < 17592186044416
       ·
        rw [if_pos c9] at H
        have LMc9 := zA c9
        clear c9
        obtain ⟨y105, hy105⟩ : ∃ y_ : List Int, y_ = (x7_1 ++ [rd l1_1 x8_1]) := ⟨_, rfl⟩
        replace H : (if 0 ≤ (rd l1_1 x8_1) then (if (rd l1_1 x8_1) < (l0.length : Int) then (takenRaw.l0 k1 l0 y105 (mx 0 (wrap64 (x8_1 - ((rd_T71 l0 (rd l1_1 x8_1)).f0)))) l1_0 l1_1) else (none)) else (none)) = some r := zqF hy105 H
        have Ny105 := zA hy105
        clear hy105
        by_cases c10 : 0 ≤ (rd l1_1 x8_1)
        ·
         rw [if_pos c10] at H
         have c10b0 : decide (0 ≤ (rd l1_1 x8_1)) = true := decide_eq_true c10
         clear c10
         by_cases c11 : (rd l1_1 x8_1) < (l0.length : Int)
         ·
          rw [if_pos c11] at H
          have c11b0 : decide ((rd l1_1 x8_1) < (l0.length : Int)) = true := decide_eq_true c11
          clear c11
          obtain ⟨ji12, hji12⟩ : ∃ j_ : Int, (mx 0 (wrap64 (x8_1 - ((rd_T71 l0 (rd l1_1 x8_1)).f0)))) = j_ := ⟨_, rfl⟩
          replace H : (takenRaw.l0 k1 l0 y105 ji12 l1_0 l1_1) = some r := by first | (rw [hji12] at H; exact H) | (simp only [hji12] at H ⊢; exact H)
          have hji12_ : (if 0 < (wrap64 (x8_1 - ((rd_T71 l0 (rd l1_1 x8_1)).f0))) then (wrap64 (x8_1 - ((rd_T71 l0 (rd l1_1 x8_1)).f0))) else 0) = ji12 := hji12
          have H' := zA H
          clear H
          have hcz13_0 : wr.cell? ⟨gb103, 0, none⟩ = some (.slice A1_0 l1_0.length c1_0) := (blk_cell BK103.out 0).trans rfl
          have hcz13_1 : wr.cell? ⟨gb103, 1, none⟩ = some (.slice A1_1 l1_1.length c1_1) := (blk_cell BK103.out 1).trans rfl
          have hfz13_0 := blk_frozen BK103.out 0
          have hfz13_1 := blk_frozen BK103.out 1
          have p104 : 0 ≤ (x8_1 : Int) := of_decide_eq_true (zqD)
          have q104 : x8_1 < (l1_1.length : Int) := of_decide_eq_true (zqD)
          obtain ⟨ad104, e104, hx104_0⟩ := Kd.at_int HR1_1.out x8_1 p104 q104
          cases e104
          replace hx104_0 := (HB.out.cell (World.block_lt_of_cell? w _ hx104_0)).trans hx104_0
          replace p104 := eq_true p104; replace q104 := eq_true q104
          go_wp2_with (first | ((with_reducible refine gate_builtin (b := .append) (xs := #[.tmp 20, .tmp 22]) rfl ?_); at_builtin; refine Kd.R_append (Kd.int .i64) (w0 := w) w.heap.size rfl (.tmp 20) (.tmp 22) 30 3 (.int .i64 0) 8 rfl Try.underlying30 info3 rfl (by decide) (by omega) u7 x7_1 (rd l1_1 x8_1) [.int .i64 (rd l1_1 x8_1)] (fun _ => True) (fun _ => False) rfl rfl ?aP (fun _ hk => hk.elim) ?aF ?aO ?aB ?aS ?aL ?_; (case aP => exact rfl); (case aB => exact (zqG HB.out GE103.out)); (case aF => exact (fun _ _ => trivial)); (case aO => exact (zqC HO_7.out)); (case aS => exact (below_size (zqG HB.out GE103.out))); (case aL => have := LMc9.out; omega); intro v106 w14 ho hb hg hat; rw [← Ny105.out] at ho; have n0_ := zA (blk_grown (g := gb103) (o := .cells #[.slice A1_0 l1_0.length c1_0, .slice (some ad104) l1_1.length c1_1] 107 (0, 0)) (zqB BK103.out) hg (Kd.R_ne HO_7.out BK103.out (by decide))); have n1_ := zA (hb); have n2_ := zA (ho); clear BK103; clear HB; clear HO_7; have BK103 := n0_; have HB := n1_; have HO107 := n2_; clear n0_ n1_ n2_; clear ho hb hg hat; have p108 : 0 ≤ ((rd l1_1 x8_1) : Int) := of_decide_eq_true (zqD); have q108 : (rd l1_1 x8_1) < (l0.length : Int) := of_decide_eq_true (zqD); obtain ⟨ad108, e108, hx108_0, hx108_1⟩ := at_T71 HR0.out (rd l1_1 x8_1) p108 q108; cases e108; replace hx108_0 := (HB.out.cell (World.block_lt_of_cell? w _ hx108_0)).trans hx108_0; replace hx108_1 := (HB.out.cell (World.block_lt_of_cell? w _ hx108_1)).trans hx108_1; replace p108 := eq_true p108; replace q108 := eq_true q108))
          go_roundg k1
          case measure => have := HK1.out; omega
          case rel => exact ⟨(y105), (ji12), (by first | rfl | (simp; done) | (simp only [← hji12] <;> (first | rfl | simp)) | (simp [*]; done)), H', ⟨by have := HK1.out; omega⟩, ⟨zqC HO107.out⟩, ⟨zqB BK103.out⟩, ⟨zqG HB.out GE103.out⟩⟩
         ·
          rw [if_neg c11] at H
          exact absurd H (by simp)
        ·
         rw [if_neg c10] at H
         exact absurd H (by simp)
       ·
        rw [if_neg c9] at H
        exact absurd H (by simp)
      ·
       rw [if_neg c8] at H
       have c8b0 : decide (0 ≤ (rd l1_1 x8_1)) = false := decide_eq_false c8
       clear c8
       have H' := zA H
       clear H
       have hcz15_0 : wr.cell? ⟨gb103, 0, none⟩ = some (.slice A1_0 l1_0.length c1_0) := (blk_cell BK103.out 0).trans rfl
       have hcz15_1 : wr.cell? ⟨gb103, 1, none⟩ = some (.slice A1_1 l1_1.length c1_1) := (blk_cell BK103.out 1).trans rfl
       have hfz15_0 := blk_frozen BK103.out 0
       have hfz15_1 := blk_frozen BK103.out 1
       have p104 : 0 ≤ (x8_1 : Int) := of_decide_eq_true (zqD)
       have q104 : x8_1 < (l1_1.length : Int) := of_decide_eq_true (zqD)
       obtain ⟨ad104, e104, hx104_0⟩ := Kd.at_int HR1_1.out x8_1 p104 q104
       cases e104
       replace hx104_0 := (HB.out.cell (World.block_lt_of_cell? w _ hx104_0)).trans hx104_0
       replace p104 := eq_true p104; replace q104 := eq_true q104
       go_wp2
       go_roundg k1
       case measure => have := HK1.out; omega
       case rel => exact ⟨(x7_1), (wrap64 (x8_1 - 1)), zqQ, H', ⟨by have := HK1.out; omega⟩, ⟨zqC HO_7.out⟩, ⟨zqB BK103.out⟩, ⟨zqG HB.out GE103.out⟩⟩
     ·
      rw [if_neg c7] at H
      exact absurd H (by simp)
    ·
     rw [if_neg c6] at H
     exact absurd H (by simp)
   ·
    rw [if_neg c5] at H
    have c5b0 : decide (0 < x8_1) = false := decide_eq_false c5
    clear c5
    obtain rfl := Option.some.inj H
    obtain ⟨v9, e9⟩ : ∃ v, v = sortI x7_1 := ⟨_, rfl⟩
    have hS := zA (sort_c _ x7_1 w.heap.size wr (Kd.R_mono (Kd.R_bound HO_7.out) (fun k hk => hk.2.1)) hlen)
    rw [← e9] at hS
    have hB0 := HB.out
    go_wp2_with (go_at_call 97; refine hS.out.mono ?_; rintro e w' ⟨rfl, ho, hb⟩)
    go_ret; subst e9
    exact ⟨_, rfl, Kd.R_mono ho (fun _ _ => trivial), hB0.trans hb⟩
def pump_bounds_taken.f (l0 : List S71) (l1_0 : List Int) (l1_1 : List Int) (a2 : Int) : Option (List Int) := (takenRaw.f (a2.toNat + 2) l0 l1_0 l1_1 a2).bind fun r => if r.length < 1000000 then some (sortI r) else none
theorem pump_bounds_taken.calls (A0 : Option Addr) (c0 : Nat) (l0 : List (S71)) (A1_0 : Option Addr) (c1_0 : Nat) (l1_0 : List Int) (A1_1 : Option Addr) (c1_1 : Nat) (l1_1 : List Int) (a2 : Int) (r : List Int) (w : World) (hr0 : Kd.C k71 w A0 l0.length l0) (hc0 : l0.length ≤ c0) (hr1_0 : Kd.C (Kd.int .i64) w A1_0 l1_0.length l1_0) (hc1_0 : l1_0.length ≤ c1_0) (hr1_1 : Kd.C (Kd.int .i64) w A1_1 l1_1.length l1_1) (hc1_1 : l1_1.length ≤ c1_1) (h : pump_bounds_taken.f l0 l1_0 l1_1 a2 = some r) :
    Calls Try.prog 83 #[.slice A0 l0.length c0, .agg #[.slice A1_0 l1_0.length c1_0, .slice A1_1 l1_1.length c1_1], .int .i64 a2] w fun e w' => ∃ v0_ : Value, e = .returned (v0_) ∧ Kd.R (Kd.int .i64) 3 w' w.heap.size (fun _ => True) v0_ r ∧ Below w.heap.size w w' := by
  obtain ⟨x, hx, h⟩ := Option.bind_eq_some_iff.mp h
  split at h
  · cases h
    exact takenRaw.calls _ A0 c0 l0 A1_0 c1_0 l1_0 A1_1 c1_1 l1_1 a2 x w hr0 hc0 hr1_0 hc1_0 hr1_1 hc1_1 hx (by omega)
  · cases h
end Go.Proofs.Ythoeindopljmkaa.P
end
section
namespace Go.Proofs.Ythoeindopljmkaa.P
open Go.RowKit
section
variable {P : Program} {ops : Array Oper} {rest : List Oper} {o : Oper} {a : Act} {Q : Exit → Act → World → Prop} {W : World}
theorem gate_value {g : Operand} {xs_ : Array Operand} {ts : Array TypeId} (_ho : o.op = .call { callee := .value g, args := xs_, argTypes := ts }) (h : wpList P ops Q (o :: rest) a W) : wpList P ops Q (o :: rest) a W := h
theorem goesV_ {oi : Oper} {w : World} (N : Option Tmp) (hd : oi.dst = N) (hg : oi.guard = none) {f : FuncId} {fn : Func} {g : Operand} {xs_ : Array Operand} {ts : Array TypeId} {bs cs : Array Value} (hf : P.funcs[f]? = some fn) (hname : (fn.name == "runtime.NumGoroutine") = false) (hb : fn.body.isSome = true) (args : Array Value)
    (hop : oi.op = .call { callee := .value g, args := xs_, argTypes := ts }) (hv : a.eval g = .func (.func f) bs cs) (hargs : bs ++ xs_.map a.eval ++ cs = args)
    (h : Calls P f args w fun e w' => ∃ v, e = .returned v ∧ wpList P ops Q rest (a.put N v) w') : wpList P ops Q (oi :: rest) a w := by
  refine wpList_plain hg fun K hK => ?_
  have he := fun xs => Go.Proofs.YthoeindopljmkaaW.PrintLast.enters_ hf hname hb xs w
  have hrun : (execOp a.eval oi).run P w = .ok (.enter f args) w := by
    unfold execOp
    simp [hop, resolve, Deferred.ofValue, invoke, hv, he, ← hargs]
  unfold Oper.wp
  rw [hrun, Oper.upon_enter]
  refine h.mono fun e w'' hh => ?_
  obtain ⟨v, rfl, hk⟩ := hh
  subst hd
  exact hK _ _ hk
end
end Go.Proofs.Ythoeindopljmkaa.P
end
section
namespace Go.Proofs.Ythoeindopljmkaa.P
open Go.RowKit Go.Proofs.YthoeindopljmkaaW.PrintWords Go.Proofs.YthoeindopljmkaaW.PrintLast Go.Proofs.YthoeindopljmkaaW.PrintMore
attribute [local go_sem] max2_int min2_int max_two min_two max_three min_three max_four min_four
set_option linter.unusedVariables false
set_option linter.unusedSimpArgs false
abbrev RuleF := Nat → List S71 → List Int → List Int → Option (Int × Int)
def RuleC (F : RuleF) (fid : FuncId) : Prop := ∀ (k : Nat) (A0 : Option Addr) (c0 : Nat) (l0 : List (S71)) (A1_0 : Option Addr) (c1_0 : Nat) (l1_0 : List Int) (A1_1 : Option Addr) (c1_1 : Nat) (l1_1 : List Int) (r1 : Int) (r2 : Int) (w : World), Kd.C k71 w A0 l0.length l0 → l0.length ≤ c0 → Kd.C (Kd.int .i64) w A1_0 l1_0.length l1_0 → l1_0.length ≤ c1_0 → Kd.C (Kd.int .i64) w A1_1 l1_1.length l1_1 → l1_1.length ≤ c1_1 → F k l0 l1_0 l1_1 = some (r1, r2) →
    Calls Try.prog fid #[.slice A0 l0.length c0, .agg #[.slice A1_0 l1_0.length c1_0, .slice A1_1 l1_1.length c1_1]] w fun e w' => e = .returned (.tuple #[.int .i64 r1, .int .i64 r2]) ∧ Below w.heap.size w w'
theorem RuleC.app {F : RuleF} {fid : FuncId} (h : RuleC F fid) : ∀ (k : Nat) (A0 : Option Addr) (c0 : Nat) (l0 : List (S71)) (A1_0 : Option Addr) (c1_0 : Nat) (l1_0 : List Int) (A1_1 : Option Addr) (c1_1 : Nat) (l1_1 : List Int) (r1 : Int) (r2 : Int) (w : World), Kd.C k71 w A0 l0.length l0 → l0.length ≤ c0 → Kd.C (Kd.int .i64) w A1_0 l1_0.length l1_0 → l1_0.length ≤ c1_0 → Kd.C (Kd.int .i64) w A1_1 l1_1.length l1_1 → l1_1.length ≤ c1_1 → F k l0 l1_0 l1_1 = some (r1, r2) →
    Calls Try.prog fid #[.slice A0 l0.length c0, .agg #[.slice A1_0 l1_0.length c1_0, .slice A1_1 l1_1.length c1_1]] w fun e w' => e = .returned (.tuple #[.int .i64 r1, .int .i64 r2]) ∧ Below w.heap.size w w' := h
theorem most_rule : RuleC pump_bounds_most.f 53 := pump_bounds_most.calls
theorem least_rule : RuleC pump_bounds_least.f 56 := pump_bounds_least.calls
def pump_tabledR.l0 (F : RuleF) : Nat → List (S71) → Int → List Int → List Int → Option (List Int × List Int)
  | 0, _, _, _, _ => none
  | k + 1, x0, x1, x111000, x111001 => if (x111000.length : Int) ≤ x1 then ((F (x0.length + 1) x0 x111000 x111001).bind fun bt111 => (if x111000.length < 17592186044416 then (if x111001.length < 17592186044416 then (pump_tabledR.l0 F k x0 x1 (x111000 ++ [bt111.1]) (x111001 ++ [bt111.2])) else (none)) else (none))) else (some (x111000, x111001))
def pump_tabledR.f (F : RuleF) (k : Nat) (l0 : List (S71)) (a1 : Int) : Option (List Int × List Int) := pump_tabledR.l0 F k l0 a1 (([0] : List Int)) (([(-1)] : List Int))
set_option maxHeartbeats 8000000 in
set_option maxRecDepth 100000 in
theorem pump_tabledR.calls (F : RuleF) (fid : FuncId) (fn : Func) (hf : Try.prog.funcs[fid]? = some fn) (hname : (fn.name == "runtime.NumGoroutine") = false) (hbody : fn.body.isSome = true) (hF : RuleC F fid) (k : Nat) (A0 : Option Addr) (c0 : Nat) (l0 : List (S71)) (a1 : Int) (r1 : List Int) (r2 : List Int) (w : World) (hr0 : Kd.C k71 w A0 l0.length l0) (hc0 : l0.length ≤ c0) (h : pump_tabledR.f F k l0 a1 = some (r1, r2)) :
  Calls Try.prog 70 #[.func (.func fid) #[.slice A0 l0.length c0] #[], .int .i64 a1] w fun e w' => ∃ v0_ v1_ : Value, e = .returned (.agg #[v0_, v1_]) ∧ Kd.R (Kd.int .i64) 3 w' w.heap.size (fun k_ => some k_ ≠ (v1_ : Value).ownBlock) v0_ r1 ∧ Kd.R (Kd.int .i64) 3 w' w.heap.size (fun k_ => some k_ ≠ (v0_ : Value).ownBlock) v1_ r2 ∧ Below w.heap.size w w' := by
 have hu107 := Try.underlying107
 have HR0 := zA hr0
 have HC0 := zA hc0
 clear hr0 hc0
 have HB := zA (Below.refl w.heap.size w)
 have H : (pump_tabledR.l0 F k l0 a1 (([0] : List Int)) (([(-1)] : List Int))) = some (r1, r2) := h
 clear h
 obtain ⟨y104, hy104⟩ : ∃ y_ : List Int, y_ = (([0] : List Int)) := ⟨_, rfl⟩
 replace H : (pump_tabledR.l0 F k l0 a1 y104 (([(-1)] : List Int))) = some (r1, r2) := zqF hy104 H
 have Ny104 := zA hy104
 clear hy104
 obtain ⟨y107, hy107⟩ : ∃ y_ : List Int, y_ = (([(-1)] : List Int)) := ⟨_, rfl⟩
 replace H : (pump_tabledR.l0 F k l0 a1 y104 y107) = some (r1, r2) := zqF hy107 H
 have Ny107 := zA hy107
 clear hy107
 have H' := zA H
 clear H
 go_enter Try.func70, Try.ntmps70
 go_wp2_with (first | ((with_reducible refine gate_dst (N := 4) rfl ?_); refine box_event ?hg (N := 4) ?hd (cs := #[.slice none 0 0, .slice none 0 0]) (t := 107) ?hr ?_; (case hd => rfl); (case hg => rfl); (case hr => first | (go_simp; done) | (go_simp; rfl)); intro gb103 hg w3 hbox hb; have n0_ := zA (below_step (zqA HB.out) hb); have n1_ := zA (hbox); have n2_ := zA ((by rw [hg]; exact (below_size (zqA HB.out)) : w.heap.size ≤ gb103)); have n3_ := zA ((by rw [hg]; exact (below_size (zqA HB.out)) : w.heap.size ≤ gb103)); clear HB; have HB := n0_; have BK103 := n1_; have GW103 := n2_; have GE103 := n3_; clear n0_ n1_ n2_ n3_; clear hb hbox hg) | ((with_reducible refine gate_dst (N := 8) rfl ?_); refine Kd.R_lit (Kd.int .i64) _ 3 ?hg (N := 8) ?hd (xs := ([0] : List Int)) (inner := [.int .i64 0]) (ok := fun _ => True) (okp := fun _ => True) ?hr ?hp (fun _ hk => hk) trivial (Below.refl _ _) (Nat.le_refl _) (by simp) ?_; (case hd => rfl); (case hg => rfl); (case hr => first | (go_simp; done) | (go_simp; rfl)); (case hp => exact (Reps.one (show Kd.M (Kd.int .i64) _ _ _ 0 [.int .i64 0] from rfl) (Reps.none _ _))); intro v105 w4 ho5 hb hg_ hnew_; clear hg_ hnew_; (first | rw [← Ny104.out] at ho5 | (simp only [Int.reduceToNat] at ho5; rw [← Ny104.out] at ho5)); have n0_ := zA (Kd.R_lower ho5 (below_size (zqG HB.out GE103.out))); have n1_ := zA (blk_below (g := gb103) (o := .cells #[.slice none 0 0, .slice none 0 0] 107 (0, 0)) (zqB BK103.out) hb); have n2_ := zA (below_step (zqG HB.out GE103.out) hb); clear BK103; clear HB; have HO106 := n0_; have BK103 := n1_; have HB := n2_; clear n0_ n1_ n2_; clear hb ho5) | ((with_reducible refine gate_dst (N := 9) rfl ?_); refine Kd.R_lit (Kd.int .i64) _ 3 ?hg (N := 9) ?hd (xs := ([(-1)] : List Int)) (inner := [.int .i64 (-1)]) (ok := fun _ => True) (okp := fun _ => True) ?hr ?hp (fun _ hk => hk) trivial (Below.refl _ _) (Nat.le_refl _) (by simp) ?_; (case hd => rfl); (case hg => rfl); (case hr => first | (go_simp; done) | (go_simp; rfl)); (case hp => exact (Reps.one (show Kd.M (Kd.int .i64) _ _ _ (-1) [.int .i64 (-1)] from rfl) (Reps.none _ _))); intro v108 w6 ho7 hb hg_ hnew_; clear hg_ hnew_; (first | rw [← Ny107.out] at ho7 | (simp only [Int.reduceToNat] at ho7; rw [← Ny107.out] at ho7)); have n0_ := zA (Kd.R_elder' (zqC HO106.out) (Kd.R_base ho7) hb); have n1_ := zA (Kd.R_lower (Kd.R_new' ho7 (Kd.R_lt (zqC HO106.out))) (below_size (zqG HB.out GE103.out))); have n2_ := zA (blk_below (g := gb103) (o := .cells #[.slice none 0 0, .slice none 0 0] 107 (0, 0)) (zqB BK103.out) hb); have n3_ := zA (below_step (zqG HB.out GE103.out) hb); clear HO106; clear BK103; clear HB; have HO106 := n0_; have HO109 := n1_; have BK103 := n2_; have HB := n3_; clear n0_ n1_ n2_ n3_; clear hb ho7; obtain ⟨Ao8, co8, eo8⟩ := Kd.R_slice HO109.out; subst eo8; obtain ⟨Ao9, co9, eo9⟩ := Kd.R_slice HO106.out; subst eo9) | ((with_reducible refine gate_dst (N := 5) rfl ?_); refine box_event ?hg (N := 5) ?hd (cs := #[.slice none 0 0, .slice none 0 0]) (t := 107) ?hr ?_; (case hd => rfl); (case hg => rfl); (case hr => first | (go_simp; done) | (go_simp; rfl)); intro gb110 hg w10 hbox hb; have n0_ := zA (Kd.R_below (zqC HO106.out) hb); have n1_ := zA (Kd.R_below (zqC HO109.out) hb); have n2_ := zA (blk_below (g := gb103) (o := .cells #[.slice none 0 0, .slice none 0 0] 107 (0, 0)) (zqB BK103.out) hb); have n3_ := zA (below_step (zqG HB.out GE103.out) hb); have n4_ := zA (hbox); have n5_ := zA ((by rw [hg]; exact (below_size (zqG HB.out GE103.out)) : w.heap.size ≤ gb110)); have n6_ := zA ((by rw [hg]; exact (below_size (zqG HB.out GE103.out)) : w.heap.size ≤ gb110)); have n7_ := zA ((by rw [hg]; exact Nat.ne_of_lt (blk_lt (g := gb103) (o := .cells #[.slice none 0 0, .slice none 0 0] 107 (0, 0)) (zqB BK103.out)) : gb103 ≠ gb110)); have n8_ := zA ((by rw [hg]; exact Nat.ne_of_gt (blk_lt (g := gb103) (o := .cells #[.slice none 0 0, .slice none 0 0] 107 (0, 0)) (zqB BK103.out)) : gb110 ≠ gb103)); clear HO106; clear HO109; clear BK103; clear HB; have HO106 := n0_; have HO109 := n1_; have BK103 := n2_; have HB := n3_; have BK110 := n4_; have GW110 := n5_; have GE110 := n6_; have NB103_110 := n7_; have NB110_103 := n8_; clear n0_ n1_ n2_ n3_ n4_ n5_ n6_ n7_ n8_; clear hb hbox hg; have hnb11 := NB110_103.out; have hnc11 := NB103_110.out; have hcz12_0 : w10.cell? ⟨gb110, 0, none⟩ = some (.slice none 0 0) := (blk_cell BK110.out 0).trans rfl; have hcz12_1 : w10.cell? ⟨gb110, 1, none⟩ = some (.slice none 0 0) := (blk_cell BK110.out 1).trans rfl; have hfz12_0 := blk_frozen BK110.out 0; have hfz12_1 := blk_frozen BK110.out 1))
 go_loopg [] k (fun kq w' => ∃ (x111000_1 : List Int) (x111001_1 : List Int) (u111000 : Value) (u111001 : Value), Aside0 (pump_tabledR.l0 F kq l0 a1 x111000_1 x111001_1 = some (r1, r2)) ∧ Aside0 (kq ≤ k) ∧ Aside0 (Kd.R (Kd.int .i64) 3 w' w.heap.size (fun k_ => some k_ ≠ (u111001 : Value).ownBlock) u111000 x111000_1) ∧ Aside0 (Kd.R (Kd.int .i64) 3 w' w.heap.size (fun k_ => some k_ ≠ (u111000 : Value).ownBlock) u111001 x111001_1) ∧ Aside0 (w'.heap[gb103]? = some (.cells #[(.slice none 0 0), (.slice none 0 0)] 107 (0, 0))) ∧ Aside0 (w'.heap[gb110]? = some (.cells #[u111000, u111001] 107 (0, 0))) ∧ Aside0 (Below w.heap.size w w'))
 case atStart => exact ⟨(y104), (y107), (.slice Ao9 y104.length co9), (.slice Ao8 y107.length co8), H', ⟨Nat.le_refl _⟩, ⟨by (with_reducible repeat (first | apply Kd.R_alloc | apply Kd.R_drewN | apply Kd.R_drew)); exact Kd.R_mono (Kd.R_far (p := ⟨gb110, 1, none⟩) (Kd.R_far (p := ⟨gb110, 0, none⟩) (Kd.R_types HO106.out BK110.out (by decide)) (fun _ hk => hk.2) (.slice Ao9 y104.length co9)) (fun _ hk => hk.2) (.slice Ao8 y107.length co8)) (fun _ hk => hk.1.2)⟩, ⟨by (with_reducible repeat (first | apply Kd.R_alloc | apply Kd.R_drewN | apply Kd.R_drew)); exact Kd.R_mono (Kd.R_far (p := ⟨gb110, 1, none⟩) (Kd.R_far (p := ⟨gb110, 0, none⟩) (Kd.R_types HO109.out BK110.out (by decide)) (fun _ hk => hk.2) (.slice Ao9 y104.length co9)) (fun _ hk => hk.2) (.slice Ao8 y107.length co8)) (fun _ hk => hk.1.2)⟩, ⟨by (with_reducible repeat (first | refine blk_drewN ?_ _ | refine blk_drew ?_ | refine blk_alloc ?_ _)); refine blk_far ?_ NB103_110.out _; (with_reducible repeat (first | refine blk_drewN ?_ _ | refine blk_drew ?_ | refine blk_alloc ?_ _)); refine blk_far ?_ NB103_110.out _; (with_reducible repeat (first | refine blk_drewN ?_ _ | refine blk_drew ?_ | refine blk_alloc ?_ _)); exact BK103.out⟩, ⟨by (with_reducible repeat (first | refine blk_drewN ?_ _ | refine blk_drew ?_ | refine blk_alloc ?_ _)); refine blk_put (cs := #[.slice Ao9 y104.length co9, .slice none 0 0]) ?_ 1 _ rfl; (with_reducible repeat (first | refine blk_drewN ?_ _ | refine blk_drew ?_ | refine blk_alloc ?_ _)); refine blk_put (cs := #[.slice none 0 0, .slice none 0 0]) ?_ 0 _ rfl; (with_reducible repeat (first | refine blk_drewN ?_ _ | refine blk_drew ?_ | refine blk_alloc ?_ _)); exact BK110.out⟩, ⟨zqH HB.out GE103.out GE110.out⟩⟩
 case round =>
  clear H'
  try clear c1
  try clear p2
  try clear c7
  try clear c11
  try clear hcz12_0
  try clear hcz12_1
  try clear hfz12_0
  try clear hfz12_1
  obtain ⟨x111000_1, x111001_1, u111000, u111001, HA, HK1, HO_111000, HO_111001, BK103, BK110, HB⟩ := hrel
  cases gk with
  | zero => exact absurd HA.out (by simp [pump_tabledR.l0])
  | succ k1 =>
   have H := HA.out
   clear HA
   simp only [pump_tabledR.l0] at H
   by_cases c13 : (x111000_1.length : Int) ≤ a1
   ·
    rw [if_pos c13] at H
    have c13b0 : decide ((x111000_1.length : Int) ≤ a1) = true := decide_eq_true c13
    clear c13
    replace H := Option.bind_eq_some_iff.mp H
    obtain ⟨⟨t111, t112⟩, A140, H⟩ := H
    replace H : (if x111000_1.length < 17592186044416 then (if x111001_1.length < 17592186044416 then (pump_tabledR.l0 F k1 l0 a1 (x111000_1 ++ [t111]) (x111001_1 ++ [t112])) else (none)) else (none)) = some (r1, r2) := H
    have A14 := zA A140
    clear A140
    by_cases c15 : x111000_1.length < 17592186044416
    ·
     rw [if_pos c15] at H
     have LMc15 := zA c15
     clear c15
     obtain ⟨y113, hy113⟩ : ∃ y_ : List Int, y_ = (x111000_1 ++ [t111]) := ⟨_, rfl⟩
     replace H : (if x111001_1.length < 17592186044416 then (pump_tabledR.l0 F k1 l0 a1 y113 (x111001_1 ++ [t112])) else (none)) = some (r1, r2) := zqF hy113 H
     have Ny113 := zA hy113
     clear hy113
     by_cases c16 : x111001_1.length < 17592186044416
     ·
      rw [if_pos c16] at H
      have LMc16 := zA c16
      clear c16
      obtain ⟨y116, hy116⟩ : ∃ y_ : List Int, y_ = (x111001_1 ++ [t112]) := ⟨_, rfl⟩
      replace H : (pump_tabledR.l0 F k1 l0 a1 y113 y116) = some (r1, r2) := zqF hy116 H
      have Ny116 := zA hy116
      clear hy116
      have H' := zA H
      clear H
      have hnb17 := NB110_103.out
      have hnc17 := NB103_110.out
      have hcz18_0 : wr.cell? ⟨gb110, 0, none⟩ = some (u111000) := (blk_cell BK110.out 0).trans rfl
      have hcz18_1 : wr.cell? ⟨gb110, 1, none⟩ = some (u111001) := (blk_cell BK110.out 1).trans rfl
      have hfz18_0 := blk_frozen BK110.out 0
      have hfz18_1 := blk_frozen BK110.out 1
      obtain ⟨Ao19, co19, eo19⟩ := Kd.R_slice HO_111000.out
      subst eo19
      obtain ⟨Ao20, co20, eo20⟩ := Kd.R_slice HO_111001.out
      subst eo20
      go_wp2_with (first | ((with_reducible refine gate_value (g := .tmp 17) rfl ?_); refine goesV_ (some 19) rfl rfl hf hname hbody #[.slice A0 l0.length c0, .agg #[.slice Ao19 x111000_1.length co19, .slice Ao20 x111001_1.length co20]] rfl rfl (by first | rfl | (simp [Act.eval]; done)) ?_; (with_reducible refine (RuleC.app hF (l0.length + 1) _ _ l0 _ _ x111000_1 _ _ x111001_1 t111 t112 _ ?side1 ?side2 ?side3 ?side4 ?side5 ?side6 A14.out).mono ?_); (case side1 => exact zqK (Kd.C_below HR0.out HB.out)); (case side2 => exact HC0.out); (case side3 => exact zqK (Kd.R_reads' HO_111000.out).2.2); (case side4 => exact (Kd.R_reads' HO_111000.out).2.1); (case side5 => exact zqK (Kd.R_reads' HO_111001.out).2.2); (case side6 => exact (Kd.R_reads' HO_111001.out).2.1); rintro e w21 ⟨rfl, hb⟩; refine ⟨_, rfl, ?_⟩; have n0_ := zA (Kd.R_below (zqC HO_111000.out) hb); have n1_ := zA (Kd.R_below (zqC HO_111001.out) hb); have n2_ := zA (blk_below (g := gb103) (o := .cells #[.slice none 0 0, .slice none 0 0] 107 (0, 0)) (zqB BK103.out) hb); have n3_ := zA (blk_below (g := gb110) (o := .cells #[.slice Ao19 x111000_1.length co19, .slice Ao20 x111001_1.length co20] 107 (0, 0)) (zqB BK110.out) hb); have n4_ := zA (below_step (zqH HB.out GE103.out GE110.out) hb); clear HO_111000; clear HO_111001; clear BK103; clear BK110; clear HB; have HO_111000 := n0_; have HO_111001 := n1_; have BK103 := n2_; have BK110 := n3_; have HB := n4_; clear n0_ n1_ n2_ n3_ n4_; (try clear hb); (try clear hb2); (try clear hk); (try clear hi); have hcz22_0 : w21.cell? ⟨gb110, 0, none⟩ = some (.slice Ao19 x111000_1.length co19) := (blk_cell BK110.out 0).trans rfl; have hcz22_1 : w21.cell? ⟨gb110, 1, none⟩ = some (.slice Ao20 x111001_1.length co20) := (blk_cell BK110.out 1).trans rfl; have hfz22_0 := blk_frozen BK110.out 0; have hfz22_1 := blk_frozen BK110.out 1) | ((with_reducible refine gate_builtin (b := .append) (xs := #[.tmp 23, .tmp 25]) rfl ?_); at_builtin; refine Kd.R_append (Kd.int .i64) (w0 := w) w.heap.size rfl (.tmp 23) (.tmp 25) 30 3 (.int .i64 0) 8 rfl Try.underlying30 info3 rfl (by decide) (by omega) (.slice Ao19 x111000_1.length co19) x111000_1 t111 [.int .i64 t111] (fun k_ => some k_ ≠ (.slice Ao20 x111001_1.length co20 : Value).ownBlock) (fun _ => False) rfl rfl ?aP (fun _ hk => hk.elim) ?aF ?aO ?aB ?aS ?aL ?_; (case aP => exact rfl); (case aB => exact (zqH HB.out GE103.out GE110.out)); (case aF => exact (fun k_ hk => Kd.fresh' (Kd.R_lt (zqC HO_111001.out)) k_ hk)); (case aO => exact (zqC HO_111000.out)); (case aS => exact (below_size (zqH HB.out GE103.out GE110.out))); (case aL => have := LMc15.out; omega); intro v114 w23 ho hb hg hat; rw [← Ny113.out] at ho; have n0_ := zA (Kd.R_after (ok := (fun _ => True)) (by (with_reducible repeat (first | apply Kd.R_alloc | apply Kd.R_drewN | apply Kd.R_drew)); exact Kd.R_mono HO_111001.out (fun _ hk => ⟨trivial, hk⟩)) hg hat); have n1_ := zA (blk_grown (g := gb103) (o := .cells #[.slice none 0 0, .slice none 0 0] 107 (0, 0)) (zqB BK103.out) hg (Kd.R_ne HO_111000.out BK103.out (by decide))); have n2_ := zA (blk_grown (g := gb110) (o := .cells #[.slice Ao19 x111000_1.length co19, .slice Ao20 x111001_1.length co20] 107 (0, 0)) (zqB BK110.out) hg (Kd.R_ne HO_111000.out BK110.out (by decide))); have n3_ := zA (hb); have n4_ := zA (ho); clear HO_111001; clear BK103; clear BK110; clear HB; clear HO_111000; have HO_111001 := n0_; have BK103 := n1_; have BK110 := n2_; have HB := n3_; have HO115 := n4_; clear n0_ n1_ n2_ n3_ n4_; clear ho hb hg hat; obtain ⟨Ao24, co24, eo24⟩ := Kd.R_slice HO115.out; subst eo24; have hcz25_0 : w23.cell? ⟨gb110, 0, none⟩ = some (.slice Ao19 x111000_1.length co19) := (blk_cell BK110.out 0).trans rfl; have hcz25_1 : w23.cell? ⟨gb110, 1, none⟩ = some (.slice Ao20 x111001_1.length co20) := (blk_cell BK110.out 1).trans rfl; have hfz25_0 := blk_frozen BK110.out 0; have hfz25_1 := blk_frozen BK110.out 1) | ((with_reducible refine gate_builtin (b := .append) (xs := #[.tmp 29, .tmp 31]) rfl ?_); at_builtin; refine Kd.R_append (Kd.int .i64) (w0 := w) w.heap.size rfl (.tmp 29) (.tmp 31) 30 3 (.int .i64 0) 8 rfl Try.underlying30 info3 rfl (by decide) (by omega) (.slice Ao20 x111001_1.length co20) x111001_1 t112 [.int .i64 t112] (fun k_ => some k_ ≠ (.slice Ao24 y113.length co24 : Value).ownBlock) (fun _ => False) rfl (by first | (go_simp; done) | (go_simp; rfl)) ?aP (fun _ hk => hk.elim) ?aF ?aO ?aB ?aS ?aL ?_; (case aP => exact rfl); (case aB => exact (zqH HB.out GE103.out GE110.out)); (case aF => exact (fun k_ hk => Kd.fresh' (Kd.R_lt (by (with_reducible repeat (first | apply Kd.R_alloc | apply Kd.R_drewN | apply Kd.R_drew)); exact (Kd.R_mono (Kd.R_far (p := ⟨gb110, 0, none⟩) (Kd.R_types HO115.out BK110.out (by decide)) (fun _ hk => hk.2) (.slice Ao24 y113.length co24)) (fun _ h_ => h_.1)))) k_ hk)); (case aO => exact (by (with_reducible repeat (first | apply Kd.R_alloc | apply Kd.R_drewN | apply Kd.R_drew)); exact Kd.R_mono (Kd.R_far (p := ⟨gb110, 0, none⟩) (Kd.R_types HO_111001.out BK110.out (by decide)) (fun _ hk => hk.2) (.slice Ao24 y113.length co24)) (fun _ hk => hk.1.2))); (case aS => exact (below_size (zqH HB.out GE103.out GE110.out))); (case aL => have := LMc16.out; omega); intro v117 w26 ho hb hg hat; rw [← Ny116.out] at ho; have n0_ := zA (blk_grown (g := gb103) (o := .cells #[.slice none 0 0, .slice none 0 0] 107 (0, 0)) (by (with_reducible repeat (first | refine blk_drewN ?_ _ | refine blk_drew ?_ | refine blk_alloc ?_ _)); refine blk_far ?_ NB103_110.out _; (with_reducible repeat (first | refine blk_drewN ?_ _ | refine blk_drew ?_ | refine blk_alloc ?_ _)); exact BK103.out) hg (Kd.R_ne HO_111001.out BK103.out (by decide))); have n1_ := zA (blk_grown (g := gb110) (o := .cells #[.slice Ao24 y113.length co24, .slice Ao20 x111001_1.length co20] 107 (0, 0)) (by (with_reducible repeat (first | refine blk_drewN ?_ _ | refine blk_drew ?_ | refine blk_alloc ?_ _)); refine blk_put (cs := #[.slice Ao19 x111000_1.length co19, .slice Ao20 x111001_1.length co20]) ?_ 0 _ rfl; (with_reducible repeat (first | refine blk_drewN ?_ _ | refine blk_drew ?_ | refine blk_alloc ?_ _)); exact BK110.out) hg (Kd.R_ne HO_111001.out BK110.out (by decide))); have n2_ := zA (Kd.R_after (ok := (fun _ => True)) (by (with_reducible repeat (first | apply Kd.R_alloc | apply Kd.R_drewN | apply Kd.R_drew)); exact Kd.R_mono (Kd.R_far (p := ⟨gb110, 0, none⟩) (Kd.R_types HO115.out BK110.out (by decide)) (fun _ hk => hk.2) (.slice Ao24 y113.length co24)) (fun _ hk => ⟨trivial, hk.1⟩)) hg hat); have n3_ := zA (hb); have n4_ := zA (ho); clear BK103; clear BK110; clear HO115; clear HB; clear HO_111001; have BK103 := n0_; have BK110 := n1_; have HO115 := n2_; have HB := n3_; have HO118 := n4_; clear n0_ n1_ n2_ n3_ n4_; clear ho hb hg hat; obtain ⟨Ao27, co27, eo27⟩ := Kd.R_slice HO118.out; subst eo27; have hcz28_0 : w26.cell? ⟨gb110, 0, none⟩ = some (.slice Ao24 y113.length co24) := (blk_cell BK110.out 0).trans rfl; have hcz28_1 : w26.cell? ⟨gb110, 1, none⟩ = some (.slice Ao20 x111001_1.length co20) := (blk_cell BK110.out 1).trans rfl; have hfz28_0 := blk_frozen BK110.out 0; have hfz28_1 := blk_frozen BK110.out 1))
      go_roundg k1
      case measure => have := HK1.out; omega
      case rel => exact ⟨(y113), (y116), (.slice Ao24 y113.length co24), (.slice Ao27 y116.length co27), H', ⟨by have := HK1.out; omega⟩, ⟨by (with_reducible repeat (first | apply Kd.R_alloc | apply Kd.R_drewN | apply Kd.R_drew)); exact Kd.R_mono (Kd.R_far (p := ⟨gb110, 1, none⟩) (Kd.R_types HO115.out BK110.out (by decide)) (fun _ hk => hk.2) (.slice Ao27 y116.length co27)) (fun _ hk => hk.1.2)⟩, ⟨by (with_reducible repeat (first | apply Kd.R_alloc | apply Kd.R_drewN | apply Kd.R_drew)); exact Kd.R_mono (Kd.R_far (p := ⟨gb110, 1, none⟩) (Kd.R_types HO118.out BK110.out (by decide)) (fun _ hk => hk.2) (.slice Ao27 y116.length co27)) (fun _ hk => hk.1)⟩, ⟨by (with_reducible repeat (first | refine blk_drewN ?_ _ | refine blk_drew ?_ | refine blk_alloc ?_ _)); refine blk_far ?_ NB103_110.out _; (with_reducible repeat (first | refine blk_drewN ?_ _ | refine blk_drew ?_ | refine blk_alloc ?_ _)); exact BK103.out⟩, ⟨by (with_reducible repeat (first | refine blk_drewN ?_ _ | refine blk_drew ?_ | refine blk_alloc ?_ _)); refine blk_put (cs := #[.slice Ao24 y113.length co24, .slice Ao20 x111001_1.length co20]) ?_ 1 _ rfl; (with_reducible repeat (first | refine blk_drewN ?_ _ | refine blk_drew ?_ | refine blk_alloc ?_ _)); exact BK110.out⟩, ⟨zqH HB.out GE103.out GE110.out⟩⟩
     ·
      rw [if_neg c16] at H
      exact absurd H (by simp)
    ·
     rw [if_neg c15] at H
     exact absurd H (by simp)
   ·
    rw [if_neg c13] at H
    have c13b0 : decide ((x111000_1.length : Int) ≤ a1) = false := decide_eq_false c13
    clear c13
    simp only [Option.some.injEq, Prod.mk.injEq] at H
    obtain ⟨rfl, rfl⟩ := H
    have hnb29 := NB110_103.out
    have hnc29 := NB103_110.out
    have hcz30_0 : wr.cell? ⟨gb110, 0, none⟩ = some (u111000) := (blk_cell BK110.out 0).trans rfl
    have hcz30_1 : wr.cell? ⟨gb110, 1, none⟩ = some (u111001) := (blk_cell BK110.out 1).trans rfl
    have hfz30_0 := blk_frozen BK110.out 0
    have hfz30_1 := blk_frozen BK110.out 1
    obtain ⟨Ao31, co31, eo31⟩ := Kd.R_slice HO_111000.out
    subst eo31
    have hcz32_0 : wr.cell? ⟨gb103, 0, none⟩ = some (.slice none 0 0) := (blk_cell BK103.out 0).trans rfl
    have hcz32_1 : wr.cell? ⟨gb103, 1, none⟩ = some (.slice none 0 0) := (blk_cell BK103.out 1).trans rfl
    have hfz32_0 := blk_frozen BK103.out 0
    have hfz32_1 := blk_frozen BK103.out 1
    obtain ⟨Ao33, co33, eo33⟩ := Kd.R_slice HO_111001.out
    subst eo33
    go_wp2
    refine bodyPost_ret (results_cell_row rfl _ _ gb103 107 #[.slice Ao31 x111000_1.length co31, .slice Ao33 x111001_1.length co33] (0, 0) _ rfl (by (with_reducible repeat (first | refine blk_drewN ?_ _ | refine blk_drew ?_ | refine blk_alloc ?_ _)); refine blk_put (cs := #[.slice Ao31 x111000_1.length co31, .slice none 0 0]) ?_ 1 _ rfl; (with_reducible repeat (first | refine blk_drewN ?_ _ | refine blk_drew ?_ | refine blk_alloc ?_ _)); refine blk_put (cs := #[.slice none 0 0, .slice none 0 0]) ?_ 0 _ rfl; (with_reducible repeat (first | refine blk_drewN ?_ _ | refine blk_drew ?_ | refine blk_alloc ?_ _)); exact BK103.out) Try.underlying107 rfl (by kernel_rfl)) rfl ?_
    exact ⟨_, _, zqR, by (with_reducible repeat (first | apply Kd.R_alloc | apply Kd.R_drewN | apply Kd.R_drew)); exact Kd.R_mono (Kd.R_far (p := ⟨gb103, 1, none⟩) (Kd.R_far (p := ⟨gb103, 0, none⟩) (Kd.R_types HO_111000.out BK103.out (by decide)) (fun _ hk => hk.2) (.slice Ao31 x111000_1.length co31)) (fun _ hk => hk.2) (.slice Ao33 x111001_1.length co33)) (fun _ hk => hk.1), by (with_reducible repeat (first | apply Kd.R_alloc | apply Kd.R_drewN | apply Kd.R_drew)); exact Kd.R_mono (Kd.R_far (p := ⟨gb103, 1, none⟩) (Kd.R_far (p := ⟨gb103, 0, none⟩) (Kd.R_types HO_111001.out BK103.out (by decide)) (fun _ hk => hk.2) (.slice Ao31 x111000_1.length co31)) (fun _ hk => hk.2) (.slice Ao33 x111001_1.length co33)) (fun _ hk => hk.1), zqH HB.out GE103.out GE110.out⟩
def tabled_most.f (l0 : List S71) (a1 : Int) : Option (List Int × List Int) := pump_tabledR.f pump_bounds_most.f (a1.toNat + 2) l0 a1
theorem tabled_most.calls (A0 : Option Addr) (c0 : Nat) (l0 : List (S71)) (a1 : Int) (r1 : List Int) (r2 : List Int) (w : World) (hr0 : Kd.C k71 w A0 l0.length l0) (hc0 : l0.length ≤ c0) (h : tabled_most.f l0 a1 = some (r1, r2)) :
    Calls Try.prog 70 #[.func (.func 53) #[.slice A0 l0.length c0] #[], .int .i64 a1] w fun e w' => ∃ v0_ v1_ : Value, e = .returned (.agg #[v0_, v1_]) ∧ Kd.R (Kd.int .i64) 3 w' w.heap.size (fun k_ => some k_ ≠ (v1_ : Value).ownBlock) v0_ r1 ∧ Kd.R (Kd.int .i64) 3 w' w.heap.size (fun k_ => some k_ ≠ (v0_ : Value).ownBlock) v1_ r2 ∧ Below w.heap.size w w' := pump_tabledR.calls pump_bounds_most.f 53 _ Try.func53 (by kernel_rfl) rfl most_rule (a1.toNat + 2) A0 c0 l0 a1 r1 r2 w hr0 hc0 h
def tabled_least.f (l0 : List S71) (a1 : Int) : Option (List Int × List Int) := pump_tabledR.f pump_bounds_least.f (a1.toNat + 2) l0 a1
theorem tabled_least.calls (A0 : Option Addr) (c0 : Nat) (l0 : List (S71)) (a1 : Int) (r1 : List Int) (r2 : List Int) (w : World) (hr0 : Kd.C k71 w A0 l0.length l0) (hc0 : l0.length ≤ c0) (h : tabled_least.f l0 a1 = some (r1, r2)) :
    Calls Try.prog 70 #[.func (.func 56) #[.slice A0 l0.length c0] #[], .int .i64 a1] w fun e w' => ∃ v0_ v1_ : Value, e = .returned (.agg #[v0_, v1_]) ∧ Kd.R (Kd.int .i64) 3 w' w.heap.size (fun k_ => some k_ ≠ (v1_ : Value).ownBlock) v0_ r1 ∧ Kd.R (Kd.int .i64) 3 w' w.heap.size (fun k_ => some k_ ≠ (v0_ : Value).ownBlock) v1_ r2 ∧ Below w.heap.size w w' := pump_tabledR.calls pump_bounds_least.f 56 _ Try.func56 (by kernel_rfl) rfl least_rule (a1.toNat + 2) A0 c0 l0 a1 r1 r2 w hr0 hc0 h
end Go.Proofs.Ythoeindopljmkaa.P
end
section
namespace Go.Proofs.Ythoeindopljmkaa.P
open Go.RowKit Go.Proofs.YthoeindopljmkaaW.PrintWords Go.Proofs.YthoeindopljmkaaW.PrintLast Go.Proofs.YthoeindopljmkaaW.PrintMore
attribute [local go_sem] max2_int min2_int max_two min_two max_three min_three max_four min_four
set_option linter.unusedVariables false
set_option linter.unusedSimpArgs false
abbrev TabF := List S71 → Int → Option (List Int × List Int)
def TabC (T : TabF) (fid : FuncId) : Prop := ∀ (A0 : Option Addr) (c0 : Nat) (l0 : List (S71)) (a1 : Int) (r1 : List Int) (r2 : List Int) (w : World) (hr0 : Kd.C k71 w A0 l0.length l0) (hc0 : l0.length ≤ c0) (h : T l0 a1 = some (r1, r2)), Calls Try.prog 70 #[.func (.func fid) #[.slice A0 l0.length c0] #[], .int .i64 a1] w fun e w' => ∃ v0_ v1_ : Value, e = .returned (.agg #[v0_, v1_]) ∧ Kd.R (Kd.int .i64) 3 w' w.heap.size (fun k_ => some k_ ≠ (v1_ : Value).ownBlock) v0_ r1 ∧ Kd.R (Kd.int .i64) 3 w' w.heap.size (fun k_ => some k_ ≠ (v0_ : Value).ownBlock) v1_ r2 ∧ Below w.heap.size w w'
theorem TabC.app {T : TabF} {fid : FuncId} (h : TabC T fid) : ∀ (A0 : Option Addr) (c0 : Nat) (l0 : List (S71)) (a1 : Int) (r1 : List Int) (r2 : List Int) (w : World) (hr0 : Kd.C k71 w A0 l0.length l0) (hc0 : l0.length ≤ c0) (h : T l0 a1 = some (r1, r2)), Calls Try.prog 70 #[.func (.func fid) #[.slice A0 l0.length c0] #[], .int .i64 a1] w fun e w' => ∃ v0_ v1_ : Value, e = .returned (.agg #[v0_, v1_]) ∧ Kd.R (Kd.int .i64) 3 w' w.heap.size (fun k_ => some k_ ≠ (v1_ : Value).ownBlock) v0_ r1 ∧ Kd.R (Kd.int .i64) 3 w' w.heap.size (fun k_ => some k_ ≠ (v0_ : Value).ownBlock) v1_ r2 ∧ Below w.heap.size w w' := h
def askedR.f (T : TabF) (l0 : List (S71)) (a1 : Int) (l2 : List (S71)) : Option (Int × List Int × Int) := (pump_ranged.f l0 a1).bind fun t107 => (if t107 = 0 then ((T l2 a1).bind fun bt108 => (if 0 ≤ a1 then (if a1 < (bt108.1.length : Int) then ((pump_bounds_taken.f l0 bt108.1 bt108.2 a1).bind fun t116 => (some (rd bt108.1 a1, t116, 0))) else (none)) else (none))) else (some (0, ([] : List Int), t107)))
def askedR.T5 : Bool × List (List Nat × List Nat) := (true, [([], []), ([0], [0]), ([], []), ([1, 2], [1, 2]), ([3], [3]), ([], []), ([], []), ([], []), ([5, 6, 7], [5, 6, 7]), ([4, 8, 0, 1, 2, 3, 4], [4]), ([8, 9, 0, 1, 2, 3, 4, 5, 6, 7, 8, 9], [8]), ([10, 0, 1, 2, 3, 4, 5, 6, 7, 8, 9, 10], [])])
def askedR.B5 : List Nat := [0, 1, 0, 7, 15, 0, 0, 0, 224, 511, 1023, 2047]
theorem askedR.tab5 : rtab .any (opsOf Try.f52 5) = askedR.T5 := by kernel_rfl
theorem askedR.bits5 : waitsOk askedR.T5.2 askedR.B5 = true := by kernel_rfl
set_option maxHeartbeats 8000000 in
set_option maxRecDepth 100000 in
theorem askedR.calls (T : TabF) (fid : FuncId) (hT : TabC T fid) (A0 : Option Addr) (c0 : Nat) (l0 : List (S71)) (a1 : Int) (A2 : Option Addr) (c2 : Nat) (l2 : List (S71)) (r1 : Int) (r2 : List Int) (r3 : Int) (w : World) (hr0 : Kd.C k71 w A0 l0.length l0) (hc0 : l0.length ≤ c0) (hr2 : Kd.C k71 w A2 l2.length l2) (hc2 : l2.length ≤ c2) (h : askedR.f T l0 a1 l2 = some (r1, r2, r3)) :
  Calls Try.prog 52 #[.slice A0 l0.length c0, .int .i64 a1, .func (.func fid) #[.slice A2 l2.length c2] #[]] w fun e w' => ∃ v1_ : Value, e = .returned (.tuple #[.int .i64 r1, v1_, .int .i64 r3]) ∧ Kd.R (Kd.int .i64) 3 w' w.heap.size (fun _ => True) v1_ r2 ∧ Below w.heap.size w w' := by
 have hu107 := Try.underlying107
 have HR0 := zA hr0
 have HC0 := zA hc0
 clear hr0 hc0
 have HR2 := zA hr2
 have HC2 := zA hc2
 clear hr2 hc2
 have HB := zA (Below.refl w.heap.size w)
 have H : ((pump_ranged.f l0 a1).bind fun t107 => (if t107 = 0 then ((T l2 a1).bind fun bt108 => (if 0 ≤ a1 then (if a1 < (bt108.1.length : Int) then ((pump_bounds_taken.f l0 bt108.1 bt108.2 a1).bind fun t116 => (some (rd bt108.1 a1, t116, 0))) else (none)) else (none))) else (some (0, ([] : List Int), t107)))) = some (r1, r2, r3) := h
 clear h
 replace H := Option.bind_eq_some_iff.mp H
 obtain ⟨t107, A40, H⟩ := H
 replace H : (if t107 = 0 then ((T l2 a1).bind fun bt108 => (if 0 ≤ a1 then (if a1 < (bt108.1.length : Int) then ((pump_bounds_taken.f l0 bt108.1 bt108.2 a1).bind fun t116 => (some (rd bt108.1 a1, t116, 0))) else (none)) else (none))) else (some (0, ([] : List Int), t107))) = some (r1, r2, r3) := H
 have A4 := zA A40
 clear A40
 by_cases c5 : t107 = 0
 ·
  rw [if_pos c5] at H
  have c5b0 : (t107 == 0) = true := beq_iff_eq.mpr c5
  have c5b1 : (t107 != 0) = false := bne_eq_false_iff_eq.mpr c5
  clear c5
  replace H := Option.bind_eq_some_iff.mp H
  obtain ⟨⟨t108, t111⟩, A60, H⟩ := H
  replace H : (if 0 ≤ a1 then (if a1 < (t108.length : Int) then ((pump_bounds_taken.f l0 t108 t111 a1).bind fun t116 => (some (rd t108 a1, t116, 0))) else (none)) else (none)) = some (r1, r2, r3) := H
  have A6 := zA A60
  clear A60
  by_cases c7 : 0 ≤ a1
  ·
   rw [if_pos c7] at H
   have c7b0 : decide (0 ≤ a1) = true := decide_eq_true c7
   clear c7
   by_cases c8 : a1 < (t108.length : Int)
   ·
    rw [if_pos c8] at H
    have c8b0 : decide (a1 < (t108.length : Int)) = true := decide_eq_true c8
    clear c8
    replace H := Option.bind_eq_some_iff.mp H
    obtain ⟨t116, A90, H⟩ := H
    replace H : (some (rd t108 a1, t116, 0)) = some (r1, r2, r3) := H
    have A9 := zA A90
    clear A90
    simp only [Option.some.injEq, Prod.mk.injEq] at H
    obtain ⟨rfl, rfl, rfl⟩ := H
    go_enter Try.func52, Try.ntmps52
    try go_wp2_with (first | ((with_reducible refine gate_callee (f := 82) rfl ?_); refine goesL_ (some 13) rfl rfl Try.func82 (by kernel_rfl) rfl #[.slice A0 l0.length c0, .int .i64 a1] rfl zqE ?_; (with_reducible refine (pump_ranged.calls _ _ l0 a1 t107 _ ?side1 ?side2 A4.out).mono ?_); (case side1 => exact zqK HR0.out); (case side2 => exact HC0.out); rintro e w10 ⟨rfl, hb⟩; refine ⟨_, rfl, ?_⟩; have n0_ := zA (below_step (zqA HB.out) hb); clear HB; have HB := n0_; clear n0_; (try clear hb); (try clear hb2); (try clear hk); (try clear hi)) | ((with_reducible refine gate_callee (f := 70) rfl ?_); refine goesL_ (some 19) rfl rfl Try.func70 (by kernel_rfl) rfl #[.func (.func fid) #[.slice A2 l2.length c2] #[], .int .i64 a1] rfl zqE ?_; (with_reducible refine (TabC.app hT _ _ l2 a1 t108 t111 _ ?side1 ?side2 A6.out).mono ?_); (case side1 => exact zqK (Kd.C_below HR2.out HB.out)); (case side2 => exact HC2.out); rintro e w11 ⟨v109, v112, rfl, ho0, ho1, hb⟩; refine ⟨_, rfl, ?_⟩; have n0_ := zA (Kd.R_lower ho0 (below_size (zqA HB.out))); have n1_ := zA (Kd.R_lower ho1 (below_size (zqA HB.out))); have n2_ := zA (below_step (zqA HB.out) hb); clear HB; have HO110 := n0_; have HO113 := n1_; have HB := n2_; clear n0_ n1_ n2_; (try clear hb); (try clear hb2); (try clear hk); (try clear hi); (try clear ho0); (try clear ho1)) | ((with_reducible refine gate_dst (N := 10) rfl ?_); refine box_event ?hg (N := 10) ?hd (cs := #[.slice none 0 0, .slice none 0 0]) (t := 107) ?hr ?_; (case hd => rfl); (case hg => rfl); (case hr => first | (go_simp; done) | (go_simp; rfl)); intro gb114 hg w12 hbox hb; have n0_ := zA (Kd.R_below (zqC HO110.out) hb); have n1_ := zA (Kd.R_below (zqC HO113.out) hb); have n2_ := zA (below_step (zqA HB.out) hb); have n3_ := zA (hbox); have n4_ := zA ((by rw [hg]; exact (below_size (zqA HB.out)) : w.heap.size ≤ gb114)); have n5_ := zA ((by rw [hg]; exact (below_size (zqA HB.out)) : w.heap.size ≤ gb114)); clear HO110; clear HO113; clear HB; have HO110 := n0_; have HO113 := n1_; have HB := n2_; have BK114 := n3_; have GW114 := n4_; have GE114 := n5_; clear n0_ n1_ n2_ n3_ n4_ n5_; clear hb hbox hg; obtain ⟨Ao13, co13, eo13⟩ := Kd.R_slice HO110.out; subst eo13; have hcz14_0 : w12.cell? ⟨gb114, 0, none⟩ = some (.slice none 0 0) := (blk_cell BK114.out 0).trans rfl; have hcz14_1 : w12.cell? ⟨gb114, 1, none⟩ = some (.slice none 0 0) := (blk_cell BK114.out 1).trans rfl; have hfz14_0 := blk_frozen BK114.out 0; have hfz14_1 := blk_frozen BK114.out 1; obtain ⟨Ao15, co15, eo15⟩ := Kd.R_slice HO113.out; subst eo15))
    have n0_ : Aside0 (Kd.R (Kd.int .i64) 3 ((w12.setCell ⟨gb114, 0, none⟩ (.slice Ao13 t108.length co13)).setCell ⟨gb114, 1, none⟩ (.slice Ao15 t111.length co15)) w.heap.size (fun k_ => some k_ ≠ (.slice Ao15 t111.length co15 : Value).ownBlock) (.slice Ao13 t108.length co13) t108) := ⟨by (with_reducible repeat (first | apply Kd.R_alloc | apply Kd.R_drewN | apply Kd.R_drew)); exact Kd.R_mono (Kd.R_far (p := ⟨gb114, 1, none⟩) (Kd.R_far (p := ⟨gb114, 0, none⟩) (Kd.R_types HO110.out BK114.out (by decide)) (fun _ hk => hk.2) (.slice Ao13 t108.length co13)) (fun _ hk => hk.2) (.slice Ao15 t111.length co15)) (fun _ hk => hk.1)⟩
    have n1_ : Aside0 (Kd.R (Kd.int .i64) 3 ((w12.setCell ⟨gb114, 0, none⟩ (.slice Ao13 t108.length co13)).setCell ⟨gb114, 1, none⟩ (.slice Ao15 t111.length co15)) w.heap.size (fun k_ => some k_ ≠ (.slice Ao13 t108.length co13 : Value).ownBlock) (.slice Ao15 t111.length co15) t111) := ⟨by (with_reducible repeat (first | apply Kd.R_alloc | apply Kd.R_drewN | apply Kd.R_drew)); exact Kd.R_mono (Kd.R_far (p := ⟨gb114, 1, none⟩) (Kd.R_far (p := ⟨gb114, 0, none⟩) (Kd.R_types HO113.out BK114.out (by decide)) (fun _ hk => hk.2) (.slice Ao13 t108.length co13)) (fun _ hk => hk.2) (.slice Ao15 t111.length co15)) (fun _ hk => hk.1)⟩
    have n2_ : Aside0 (((w12.setCell ⟨gb114, 0, none⟩ (.slice Ao13 t108.length co13)).setCell ⟨gb114, 1, none⟩ (.slice Ao15 t111.length co15)).heap[gb114]? = some (.cells #[.slice Ao13 t108.length co13, .slice Ao15 t111.length co15] 107 (0, 0))) := ⟨by (with_reducible repeat (first | refine blk_drewN ?_ _ | refine blk_drew ?_ | refine blk_alloc ?_ _)); refine blk_put (cs := #[.slice Ao13 t108.length co13, .slice none 0 0]) ?_ 1 _ rfl; (with_reducible repeat (first | refine blk_drewN ?_ _ | refine blk_drew ?_ | refine blk_alloc ?_ _)); refine blk_put (cs := #[.slice none 0 0, .slice none 0 0]) ?_ 0 _ rfl; (with_reducible repeat (first | refine blk_drewN ?_ _ | refine blk_drew ?_ | refine blk_alloc ?_ _)); exact BK114.out⟩
    have n3_ : Aside0 (Below w.heap.size w ((w12.setCell ⟨gb114, 0, none⟩ (.slice Ao13 t108.length co13)).setCell ⟨gb114, 1, none⟩ (.slice Ao15 t111.length co15))) := ⟨zqG HB.out GE114.out⟩
    (try clear HO110)
    (try clear HO113)
    (try clear BK114)
    (try clear HB)
    generalize ((w12.setCell ⟨gb114, 0, none⟩ (.slice Ao13 t108.length co13)).setCell ⟨gb114, 1, none⟩ (.slice Ao15 t111.length co15)) = w16 at n0_ n1_ n2_ n3_ ⊢; have HO110 := n0_; have HO113 := n1_; have BK114 := n2_; have HB := n3_; clear n0_ n1_ n2_ n3_; have n0_ := zA (Kd.R_drew HO110.out); have n1_ := zA (Kd.R_drew HO113.out); have n2_ := zA (blk_drew BK114.out); have n3_ := zA (below_drew1 HB.out); clear HO110 HO113 BK114 HB; have HO110 := n0_; have HO113 := n1_; have BK114 := n2_; have HB := n3_; clear n0_ n1_ n2_ n3_
    have p115 : 0 ≤ (a1 : Int) := of_decide_eq_true (zqD)
    have q115 : a1 < (t108.length : Int) := of_decide_eq_true (zqD)
    obtain ⟨ad115, e115, hx115_0⟩ := Kd.at_int (Kd.R_reads' HO110.out).2.2 a1 p115 q115
    cases e115; replace p115 := eq_true p115; replace q115 := eq_true q115
    refine start_ (n := 12) (S := fun w' => w'.cell? ⟨gb114, 0, none⟩ = some (.slice (some ad115) t108.length co13) ∧ w'.cell? ⟨gb114, 1, none⟩ = some (.slice Ao15 t111.length co15) ∧ w'.cell? (ad115.add (a1).toNat) = some (.int .i64 (rd t108 a1))) (ds := []) #[false, false, false, false, false, false, false, false, false, false, false, false] (by kernel_rfl) rfl rfl ⟨(blk_cell BK114.out 0).trans rfl, (blk_cell BK114.out 1).trans rfl, hx115_0⟩ (fun hHeld => ?_); refine with_tabW askedR.tab5 askedR.bits5 (fun HT_ HW_ => ?_)
    generalize w16.drew = w17 at HO110 HO113 BK114 HB hx115_0 hHeld ⊢
    refine pure_ (i := 0) (N := some 20) (v := ?_) (a' := ?_) #[true, false, false, false, false, false, false, false, false, false, false, false] rfl rfl (any_of HT_.out (by kernel_rfl)) (fun _ _ _ h => h) (Or.inl ⟨by rfl, ?_⟩) ?_ ?_
    rotate_left
    ·
     intro w'
     go_simp
     with_reducible rfl
    rotate_left
    ·
     simp only [Act.put, List.setIfInBounds_toArray, List.set_cons_zero, List.set_cons_succ, i64_w, i32_w]
     rfl
    refine pure_ (i := 2) (N := some 22) (v := ?_) (a' := ?_) #[true, false, true, false, false, false, false, false, false, false, false, false] rfl rfl (any_of HT_.out (by kernel_rfl)) (fun _ _ _ h => h) (Or.inl ⟨by rfl, ?_⟩) ?_ ?_
    rotate_left
    ·
     intro w'
     go_simp
     with_reducible rfl
    rotate_left
    ·
     simp only [Act.put, List.setIfInBounds_toArray, List.set_cons_zero, List.set_cons_succ, i64_w, i32_w]
     rfl
    refine pure_ (i := 5) (N := some 25) (v := ?_) (a' := ?_) #[true, false, true, false, false, true, false, false, false, false, false, false] rfl rfl (any_of HT_.out (by kernel_rfl)) (fun _ _ _ h => h) (Or.inl ⟨by rfl, ?_⟩) ?_ ?_
    rotate_left
    ·
     intro w'
     go_simp
     with_reducible rfl
    rotate_left
    ·
     simp only [Act.put, List.setIfInBounds_toArray, List.set_cons_zero, List.set_cons_succ, i64_w, i32_w]
     rfl
    refine pure_ (i := 7) (N := some 27) (v := ?_) (a' := ?_) #[true, false, true, false, false, true, false, true, false, false, false, false] rfl rfl (any_of HT_.out (by kernel_rfl)) (fun _ _ _ h => h) (Or.inl ⟨by rfl, ?_⟩) ?_ ?_
    rotate_left
    ·
     intro w'
     go_simp
     with_reducible rfl
    rotate_left
    ·
     simp only [Act.put, List.setIfInBounds_toArray, List.set_cons_zero, List.set_cons_succ, i64_w, i32_w]
     rfl
    refine take_ (i := 1) (N := some 21) (v := ?_) (a' := ?_) #[true, true, true, false, false, true, false, true, false, false, false, false] rfl rfl (take_ofW HT_.out HW_.out (by kernel_rfl)) (fun _ _ _ h => h) (Or.inl ⟨by rfl, ?_⟩) hHeld ?_ ?_
    rotate_left
    ·
     rintro w' ⟨s0, s1, s2⟩
     go_simp
     with_reducible rfl
    rotate_left
    ·
     simp only [Act.put, List.setIfInBounds_toArray, List.set_cons_zero, List.set_cons_succ, i64_w, i32_w]
     rfl
    refine pure_ (i := 3) (N := some 23) (v := ?_) (a' := ?_) #[true, true, true, true, false, true, false, true, false, false, false, false] rfl rfl (any_of HT_.out (by kernel_rfl)) (fun _ _ _ h => h) (Or.inl ⟨by rfl, ?_⟩) ?_ ?_
    rotate_left
    ·
     intro w'
     go_simp
     with_reducible rfl
    rotate_left
    ·
     simp only [Act.put, List.setIfInBounds_toArray, List.set_cons_zero, List.set_cons_succ, i64_w, i32_w]
     rfl
    refine take_ (i := 4) (N := some 24) (v := ?_) (a' := ?_) #[true, true, true, true, true, true, false, true, false, false, false, false] rfl rfl (take_ofW HT_.out HW_.out (by kernel_rfl)) (fun _ _ _ h => h) (Or.inl ⟨by rfl, ?_⟩) hHeld ?_ ?_
    rotate_left
    ·
     rintro w' ⟨s0, s1, s2⟩
     go_simp
     with_reducible rfl
    rotate_left
    ·
     simp only [Act.put, List.setIfInBounds_toArray, List.set_cons_zero, List.set_cons_succ, i64_w, i32_w]
     rfl
    refine take_ (i := 6) (N := some 26) (v := ?_) (a' := ?_) #[true, true, true, true, true, true, true, true, false, false, false, false] rfl rfl (take_ofW HT_.out HW_.out (by kernel_rfl)) (fun _ _ _ h => h) (Or.inl ⟨by rfl, ?_⟩) hHeld ?_ ?_
    rotate_left
    ·
     rintro w' ⟨s0, s1, s2⟩
     go_simp
     with_reducible rfl
    rotate_left
    ·
     simp only [Act.put, List.setIfInBounds_toArray, List.set_cons_zero, List.set_cons_succ, i64_w, i32_w]
     rfl
    refine one_ (i := 8) (N := some 28) #[true, true, true, true, true, true, true, true, true, false, false, false] rfl rfl (one_of HT_.out (by kernel_rfl)) (by decide) (fun K hK => ?_)
    refine goes_ Try.func83 (by kernel_rfl) rfl #[.slice A0 l0.length c0, .agg #[.slice (some ad115) t108.length co13, .slice Ao15 t111.length co15], .int .i64 a1] (by rfl) rfl rfl zqE ?_
    with_reducible refine (pump_bounds_taken.calls _ _ l0 _ _ t108 _ _ t111 a1 t116 _ ?side1 ?side2 ?side3 ?side4 ?side5 ?side6 A9.out).mono ?_
    (case side1 => exact zqK (Kd.C_below HR0.out HB.out))
    (case side2 => exact HC0.out)
    (case side3 => exact zqK (Kd.R_reads' HO110.out).2.2)
    (case side4 => exact (Kd.R_reads' HO110.out).2.1)
    (case side5 => exact zqK (Kd.R_reads' HO113.out).2.2)
    (case side6 => exact (Kd.R_reads' HO113.out).2.1)
    rintro e w18 ⟨v117, rfl, ho0, hb⟩
    have HS2_ := (hb.cell (World.block_lt_of_cell? _ _ (hHeld.2.2))).trans (hHeld.2.2)
    refine ⟨_, rfl, ?_⟩
    have n0_ := zA (Kd.R_elder' (zqC HO110.out) (Kd.R_base ho0) hb); have n1_ := zA (Kd.R_elder' (zqC HO113.out) (Kd.R_base ho0) hb); have n2_ := zA (Kd.R_lower (Kd.R_new' (Kd.R_new' ho0 (Kd.R_lt (zqC HO110.out))) (Kd.R_lt (zqC HO113.out))) (below_size (zqG HB.out GE114.out))); have n3_ := zA (blk_below (g := gb114) (o := .cells #[.slice (some ad115) t108.length co13, .slice Ao15 t111.length co15] 107 (0, 0)) (zqB BK114.out) hb); have n4_ := zA (below_step (zqG HB.out GE114.out) hb); clear HO110 HO113 BK114 HB; have HO110 := n0_; have HO113 := n1_; have HO118 := n2_; have BK114 := n3_; have HB := n4_; clear n0_ n1_ n2_ n3_ n4_
    (try clear hb)
    (try clear hb2)
    (try clear hk)
    (try clear hi)
    (try clear ho0)
    refine hK.out _ _ ⟨(blk_cell BK114.out 0).trans rfl, (blk_cell BK114.out 1).trans rfl, HS2_⟩ (fun hHeld => ?_)
    clear hK K
    refine norm_ (a' := ?_) ?_ ?_
    rotate_left
    ·
     show Act.put _ (some 28) _ = _
     simp only [Act.put, List.setIfInBounds_toArray, List.set_cons_zero, List.set_cons_succ, i64_w, i32_w]
     rfl
    refine pure_ (i := 9) (N := some 6) (v := ?_) (a' := ?_) #[true, true, true, true, true, true, true, true, true, true, false, false] rfl rfl (any_of HT_.out (by kernel_rfl)) (fun _ _ _ h => h) (Or.inl ⟨by rfl, ?_⟩) ?_ ?_
    rotate_left
    ·
     intro w'
     go_simp
     with_reducible rfl
    rotate_left
    ·
     simp only [Act.put, List.setIfInBounds_toArray, List.set_cons_zero, List.set_cons_succ, i64_w, i32_w]
     rfl
    refine pure_ (i := 10) (N := some 7) (v := ?_) (a' := ?_) #[true, true, true, true, true, true, true, true, true, true, true, false] rfl rfl (any_of HT_.out (by kernel_rfl)) (fun _ _ _ h => h) (Or.inl ⟨by rfl, ?_⟩) ?_ ?_
    rotate_left
    ·
     intro w'
     go_simp
     with_reducible rfl
    rotate_left
    ·
     simp only [Act.put, List.setIfInBounds_toArray, List.set_cons_zero, List.set_cons_succ, i64_w, i32_w]
     rfl
    refine pure_ (i := 11) (N := some 8) (v := ?_) (a' := ?_) #[true, true, true, true, true, true, true, true, true, true, true, true] rfl rfl (any_of HT_.out (by kernel_rfl)) (fun _ _ _ h => h) (Or.inl ⟨by rfl, ?_⟩) ?_ ?_
    rotate_left
    ·
     intro w'
     go_simp
     with_reducible rfl
    rotate_left
    ·
     simp only [Act.put, List.setIfInBounds_toArray, List.set_cons_zero, List.set_cons_succ, i64_w, i32_w]
     rfl
    refine done_ (done_of HT_.out (by kernel_rfl)) ?_
    try go_wp2
    go_ret3
    exact ⟨_, zqR, by (with_reducible repeat (first | apply Kd.R_alloc | apply Kd.R_drewN | apply Kd.R_drew)); exact Kd.R_mono HO118.out (fun _ hk => trivial), zqG HB.out GE114.out⟩
   ·
    rw [if_neg c8] at H
    exact absurd H (by simp)
  ·
   rw [if_neg c7] at H
   exact absurd H (by simp)
 ·
  rw [if_neg c5] at H
  have c5b0 : (t107 == 0) = false := beq_eq_false_iff_ne.mpr c5
  have c5b1 : (t107 != 0) = true := bne_iff_ne.mpr c5
  simp only [Option.some.injEq, Prod.mk.injEq] at H
  obtain ⟨rfl, rfl, rfl⟩ := H
  go_enter Try.func52, Try.ntmps52
  go_wp2_with (first | ((with_reducible refine gate_callee (f := 82) rfl ?_); refine goesL_ (some 13) rfl rfl Try.func82 (by kernel_rfl) rfl #[.slice A0 l0.length c0, .int .i64 a1] rfl zqE ?_; (with_reducible refine (pump_ranged.calls _ _ l0 a1 t107 _ ?side1 ?side2 A4.out).mono ?_); (case side1 => exact zqK HR0.out); (case side2 => exact HC0.out); rintro e w19 ⟨rfl, hb⟩; refine ⟨_, rfl, ?_⟩; have n0_ := zA (below_step (zqA HB.out) hb); clear HB; have HB := n0_; clear n0_; (try clear hb); (try clear hb2); (try clear hk); (try clear hi)))
  go_ret3
  exact ⟨_, zqR, by first | exact Kd.R_nil _ _ _ _ _ | exact Kd.N_nil _ _ _ _ _ | exact Kd.V_nil _ _ _ _ _ | exact Kd.Q_nil _ _ _ _ _ | exact Kd.S_nil _ _ _ _ _, zqA HB.out⟩
def asked_most.f (l0 : List (S71)) (a1 : Int) (l2 : List (S71)) : Option (Int × List Int × Int) := askedR.f tabled_most.f l0 a1 l2
theorem asked_most.calls (A0 : Option Addr) (c0 : Nat) (l0 : List (S71)) (a1 : Int) (A2 : Option Addr) (c2 : Nat) (l2 : List (S71)) (r1 : Int) (r2 : List Int) (r3 : Int) (w : World) (hr0 : Kd.C k71 w A0 l0.length l0) (hc0 : l0.length ≤ c0) (hr2 : Kd.C k71 w A2 l2.length l2) (hc2 : l2.length ≤ c2) (h : asked_most.f l0 a1 l2 = some (r1, r2, r3)) :
    Calls Try.prog 52 #[.slice A0 l0.length c0, .int .i64 a1, .func (.func 53) #[.slice A2 l2.length c2] #[]] w fun e w' => ∃ v1_ : Value, e = .returned (.tuple #[.int .i64 r1, v1_, .int .i64 r3]) ∧ Kd.R (Kd.int .i64) 3 w' w.heap.size (fun _ => True) v1_ r2 ∧ Below w.heap.size w w' :=
  askedR.calls tabled_most.f 53 tabled_most.calls A0 c0 l0 a1 A2 c2 l2 r1 r2 r3 w hr0 hc0 hr2 hc2 h
def asked_least.f (l0 : List (S71)) (a1 : Int) (l2 : List (S71)) : Option (Int × List Int × Int) := askedR.f tabled_least.f l0 a1 l2
theorem asked_least.calls (A0 : Option Addr) (c0 : Nat) (l0 : List (S71)) (a1 : Int) (A2 : Option Addr) (c2 : Nat) (l2 : List (S71)) (r1 : Int) (r2 : List Int) (r3 : Int) (w : World) (hr0 : Kd.C k71 w A0 l0.length l0) (hc0 : l0.length ≤ c0) (hr2 : Kd.C k71 w A2 l2.length l2) (hc2 : l2.length ≤ c2) (h : asked_least.f l0 a1 l2 = some (r1, r2, r3)) :
    Calls Try.prog 52 #[.slice A0 l0.length c0, .int .i64 a1, .func (.func 56) #[.slice A2 l2.length c2] #[]] w fun e w' => ∃ v1_ : Value, e = .returned (.tuple #[.int .i64 r1, v1_, .int .i64 r3]) ∧ Kd.R (Kd.int .i64) 3 w' w.heap.size (fun _ => True) v1_ r2 ∧ Below w.heap.size w w' :=
  askedR.calls tabled_least.f 56 tabled_least.calls A0 c0 l0 a1 A2 c2 l2 r1 r2 r3 w hr0 hc0 hr2 hc2 h
end Go.Proofs.Ythoeindopljmkaa.P
end
