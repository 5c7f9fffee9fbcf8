/- Words and contracts for a claim. -/
import Derived.Test.YtehpbmdphfbooaaBase12
import Derived.RangeFuncNested
import Derived.RangeFuncBound
import Derived.RangeFuncCalls
import Derived.RangeFuncLeaves
import Derived.Shelf.Abstract
import Derived.OwnWalkIn
import Derived.TacticsInMore
import Derived.LoopNIn
import Derived.LoopIn
import Derived.RangeFuncBox
section
namespace Go.Proofs.Ytehpbmdphfbooaa.P
open Go.RowKit Go.Shelf Go.Proofs.YtehpbmdphfbooaaW.PrintWords Go.Proofs.YtehpbmdphfbooaaW.PrintLast Go.Proofs.YtehpbmdphfbooaaW.PrintMore
set_option linter.unusedVariables false
set_option linter.unusedSimpArgs false
attribute [local go_sem] Oper.semAt_some
def leavesTo (F T : List S61) (O : List S67) (k : Nat) : List Int := ((List.range k).filter fun (j : Nat) => leavesI F T O (j : Int)).map fun (j : Nat) => (j : Int)
theorem leavesTo_succ (F T : List S61) (O : List S67) (k : Nat) : leavesTo F T O (k + 1) = if leavesI F T O (k : Int) = true then leavesTo F T O k ++ [(k : Int)] else leavesTo F T O k := by
  unfold leavesTo
  rw [List.range_succ, List.filter_append, List.map_append]
  by_cases h : leavesI F T O (k : Int) = true
  · rw [if_pos h]; simp [h]
  · rw [if_neg h]; simp [h]
theorem leavesTo_len (F T : List S61) (O : List S67) (k : Nat) : (leavesTo F T O k).length ≤ k := by
  unfold leavesTo
  rw [List.length_map]
  exact Nat.le_trans (List.length_filter_le _ _) (by rw [List.length_range]; exact Nat.le_refl _)
def ringStep (F T : List S61) (O : List S67) (i : Int) (s : Int × Bool) : Int × Bool := if s.2 = true ∧ i < s.1 then nextI F T O s.1 else s
def ringN (F T : List S61) (O : List S67) (i : Int) : Nat → Int × Bool
  | 0 => nextI F T O i
  | k + 1 => ringStep F T O i (ringN F T O i k)
def ringB (F T : List S61) (O : List S67) (i : Int) : Bool := (ringN F T O i F.length).2 && decide ((ringN F T O i F.length).1 = i)
def ringsL (F T : List S61) (O : List S67) : List Int := (leavesTo F T O F.length).filter (ringB F T O)
theorem nextI_lt {F T : List S61} {O : List S67} (ho : O.length = T.length) (hv : ∀ o ∈ O, o.f0 < (F.length : Int)) (i : Int) (hp : 0 < F.length) : (nextI F T O i).1 < F.length := by
  unfold nextI
  by_cases h : toI F T i < 0
  · rw [if_pos h]
    show (0 : Int) < _
    omega
  · rw [if_neg h]
    by_cases h2 : leavesI F T O i = false
    · rw [if_pos h2]
      show (0 : Int) < _
      omega
    · rw [if_neg h2]
      have ht : (toI F T i).toNat < O.length := by rcases toI_ge F T i with k | k <;> omega
      have e : rd_T67 O (toI F T i) = O[(toI F T i).toNat] := by
        have := rd67_at ht
        rwa [Int.toNat_of_nonneg (by omega)] at this
      show (rd_T67 O (toI F T i)).f0 < _
      rw [e]
      exact hv _ (List.getElem_mem ht)
theorem ringN_lt {F T : List S61} {O : List S67} (ho : O.length = T.length) (hv : ∀ o ∈ O, o.f0 < (F.length : Int)) (i : Int) (hp : 0 < F.length) : ∀ k, (ringN F T O i k).1 < F.length
  | 0 => nextI_lt ho hv i hp
  | k + 1 => by
    unfold ringN ringStep
    split
    · exact nextI_lt ho hv _ hp
    · exact ringN_lt ho hv i hp k
def KpL (n g : Nat) (o : Obj) (A B : World) : Prop := Below n A B ∧ (A.heap[g]? = some o → B.heap[g]? = some o)
theorem KpL.trans {n g : Nat} {o : Obj} {A B C : World} (h : KpL n g o A B) (k : KpL n g o B C) : KpL n g o A C := ⟨h.1.trans k.1, fun e => k.2 (h.2 e)⟩
theorem KpL.refl (n g : Nat) (o : Obj) (hn : n ≤ n) (A : World) : KpL n g o A A := ⟨⟨rfl, rfl, rfl, Nat.le_refl _, fun _ _ => rfl⟩, fun e => e⟩
theorem KpL.put {n g : Nat} {o : Obj} (W : World) (l : Nat) (o1 o2 : Obj) (hl : n ≤ l) (hg : g < l) : KpL n g o W (W.putObj l o2) :=
  ⟨⟨rfl, rfl, rfl, by simp, fun i hi => World.putObj_heap_other (fun e => by omega)⟩, fun e => (World.putObj_heap_other (fun e => by omega)).trans e⟩
theorem ownFrom_blk {β : Type} (B g : Nat) (cs : Array Value) (t : TypeId) : OwnFrom B (fun (_ : β) W => W.heap[g]? = some (.cells cs t (0, 0))) :=
  fun _ W W' row hs hg hr => (hg.block g (blk_lt hs) (fun e => by obtain ⟨_, o, ho, hc⟩ := hr g e.symm; rw [hs] at ho; cases ho; cases hc)).trans hs
theorem reps_nums (k : IntKind) : ∀ xs : List Int, Reps (fun x cs => cs = [Value.int k x]) 1 xs (nums k xs)
  | [] => Reps.none _ _
  | x :: xs => Reps.one rfl (reps_nums k xs)
theorem R_of_own {w : World} {base n : Nat} {v : Value} {xs : List Int} (h : w.ownsRow base 3 1 v n (nums .i64 xs)) (hn : n = xs.length) : (Kd.int .i64).R 3 w base (fun _ => True) v xs :=
  ⟨fun _ _ => trivial, nums .i64 xs, hn ▸ h, reps_nums .i64 xs⟩
theorem grown_of_below {W W' : World} (h : Below W.heap.size W W') (row : Option Nat) : W.grownBy W' row := ⟨h.os, h.tape, h.output, h.size, fun k hk _ => h.block k hk⟩
abbrev Ix (n : Nat) := {x : Int // 0 ≤ x ∧ x < (n : Int)}
def encI (n : Nat) (x : Ix n) : Array Value := #[.int .i64 x.1]
set_option maxHeartbeats 2000000 in
set_option maxRecDepth 100000 in
theorem leaving96 (v0 v1 v2 : Value) (w : World) : Calls Try.prog 96 #[.agg #[v0, v1, v2]] w fun e w' => e = .returned (.func (.func 110) #[] #[.pointer (some ⟨w.heap.size, 0, none⟩)]) ∧ w' = w.alloc (.cells #[v0, v1, v2] 28) := by
  have hu28 := Try.underlying28
  go_enter Try.func96, Try.ntmps96
  go_wp2
  go_ret
  exact ⟨rfl, rfl⟩
set_option maxHeartbeats 8000000 in
set_option maxRecDepth 100000 in
theorem leaving_stops (A0 : Option Addr) (c0 : Nat) (F : List S61) (A1 : Option Addr) (c1 : Nat) (T : List S61) (A2 : Option Addr) (c2 : Nat) (O : List S67) (gL : Nat) (w w3 : World) (h0 : Kd.C k61 w A0 F.length F) (d0 : F.length ≤ c0) (h1 : Kd.C k61 w A1 T.length T) (d1 : T.length ≤ c1) (h2 : Kd.C k67 w A2 O.length O) (d2 : O.length ≤ c2) (hl : O.length ≤ 1000000) (ho : O.length = T.length) (hf : F.length ≤ 1000) (hb3 : Below w.heap.size w w3) (hbox : w3.heap[gL]? = some (.cells #[.slice A0 F.length c0, .slice A1 T.length c1, .slice A2 O.length c2] 28 (0, 0))) :
  SeqStopsK Fence.wide 9 Try.prog 110 #[.pointer (some ⟨gL, 0, none⟩)] (encI F.length) (KpL w.heap.size gL (.cells #[.slice A0 F.length c0, .slice A1 T.length c1, .slice A2 O.length c2] 28 (0, 0))) (fun ys => ys.map (·.1) = leavesTo F T O F.length) (fun pre => True) 1000 w3 := by
 intro ll J Jx W hW hJ hJx hY h00
 have hu28 := Try.underlying28
 refine callsIn_of_wp Try.func110 rfl trivial ?_ rfl
 simp only [Try.ntmps110, List.size_toArray, List.length_cons, List.length_nil, Nat.reduceAdd, Nat.reduceSub, Array.replicate_succ, Array.replicate_zero, List.push_toArray, List.append_toArray, List.nil_append, List.cons_append]
 have HY := zA hY
 have HJ := zA hJ
 have KL := zA (fun (k : Nat) (hk : k < F.length) (W : World) (hb : Below w.heap.size w W) => leaves111 A0 c0 F A1 c1 T A2 c2 O (k : Int) W (Kd.C_below h0 hb) d0 (Kd.C_below h1 hb) d1 (Kd.C_below h2 hb) d2 hl ho (by omega) (by omega))
 have HF := zA hf
 have HB0 : Aside0 (Below w.heap.size w W) := ⟨hb3.trans (hW.mono hb3.size)⟩
 have aa := zA ((hW.block gL (blk_lt hbox)).trans hbox)
 have SZ0 : Aside0 (W.heap.size ≤ W.heap.size) := ⟨Nat.le_refl _⟩
 have x0 : W.cell? ⟨gL, 0, none⟩ = some (.slice A0 F.length c0) := (blk_cell aa.out 0).trans rfl
 clear hY hJ hJx hW hb3 hbox h0 d0 h1 d1 h2 d2 hl ho hf
 gi_wp2
 clear x0
 gi_loopw [7] (fun i wr => ∃ (f : Nat) (pre : List (Ix F.length)), i = .int .i64 f ∧ f ≤ F.length ∧ Aside0 (pre.map (·.1) = leavesTo F T O f) ∧ Aside0 (J pre wr) ∧ Aside0 (Below w.heap.size w wr) ∧ Aside0 (wr.heap[gL]? = some (.cells #[.slice A0 F.length c0, .slice A1 T.length c1, .slice A2 O.length c2] 28 (0, 0))) ∧ Aside0 (W.heap.size ≤ wr.heap.size))
  (fun i _ => F.length - (intOf i).toNat)
 case atStart => exact ⟨0, [], rfl, Nat.zero_le _, ⟨rfl⟩, ⟨h00⟩, HB0, aa, SZ0⟩
 case round =>
  clear HB0 aa SZ0
  obtain ⟨f, pre, rfl, hf, HP, HJ1, HB, BK, SZ⟩ := hrel
  by_cases hlt : f < F.length
  ·
   have hltz : (f : Int) < (F.length : Int) := by omega
   have W1 := zA (show IntKind.i64.wrap ((f : Int) + 1) = f + 1 from (i64_w _).trans (by have := HF.out; unfold wrap64; omega))
   have HT := zA (leavesTo_succ F T O f)
   have HLE := zA (leavesTo_len F T O f)
   obtain ⟨lv, hlv⟩ : ∃ b_, b_ = leavesI F T O (f : Int) := ⟨_, rfl⟩
   rw [← hlv] at HT
   have HLV := zA hlv.symm
   clear hlv
   have x0 : wr.cell? ⟨gL, 0, none⟩ = some (.slice A0 F.length c0) := (blk_cell BK.out 0).trans rfl
   have x1 : wr.cell? ⟨gL, 1, none⟩ = some (.slice A1 T.length c1) := (blk_cell BK.out 1).trans rfl
   have x2 : wr.cell? ⟨gL, 2, none⟩ = some (.slice A2 O.length c2) := (blk_cell BK.out 2).trans rfl
   have KL2 := zA (KL.out f hlt)
   gi_wp2
   refine ⟨trivial, (callsIn_wide.2 (KL2.out _ HB.out)).mono ?_⟩
   rintro e w5 ⟨rfl, hb5⟩
   have HJ5 := zA (HJ.out _ _ _ none HJ1.out (grown_of_below hb5 none) (fun r e => nomatch e))
   have HB5 := zA (below_step HB.out hb5)
   have ab := zA (blk_keep BK.out hb5)
   have SZ5 : Aside0 (W.heap.size ≤ w5.heap.size) := ⟨Nat.le_trans SZ.out hb5.size⟩
   clear HJ1 HB BK SZ x0 x1 x2 hb5 KL2
   rw [HLV.out]
   cases lv with
   | false =>
    have ht := HT.out
    rw [if_neg (by decide)] at ht
    have HT2 := zA ht
    have hw1 := W1.out
    clear ht
    gi_wp2
    refine ⟨(fun f h => nomatch h), ?_⟩
    gi_wp2
    go_roundw
    case rel => exact ⟨f + 1, pre, by first | rfl | simp, by omega, ⟨by rw [HT2.out]; exact HP.out⟩, HJ5, HB5, ab, SZ5⟩
    case measure => simp [intOf]; omega
   | true =>
    have ht := HT.out
    rw [if_pos rfl] at ht
    have HT2 := zA ht
    clear ht
    obtain ⟨fn, tmps, assign, body, hy, hR⟩ := HY.out pre ⟨(f : Int), by omega, hltz⟩ w5 HJ5.out (by have := HLE.out; have := HF.out; have := congrArg List.length HP.out; rw [List.length_map] at this; omega)
    have HRR := zA hR
    clear hR
    unfold encI at hy
    gi_wp2
    refine HRR.out.mono ?_
    rintro e W3 (⟨rfl, hJ3, hk3⟩ | ⟨rfl, hJx3⟩)
    ·
     have HB3 := zA (HB5.out.trans hk3.1)
     have BK3 := zA (hk3.2 ab.out)
     have HJ3 := zA hJ3
     have SZ3 : Aside0 (W.heap.size ≤ W3.heap.size) := ⟨Nat.le_trans SZ5.out hk3.1.size⟩
     clear hJ3 hk3
     have hw1 := W1.out
     gi_wp2
     go_roundw
     case rel => exact ⟨f + 1, pre ++ [⟨(f : Int), by omega, hltz⟩], by first | rfl | simp, by omega, ⟨by rw [HT2.out, List.map_append, HP.out]; rfl⟩, HJ3, HB3, BK3, SZ3⟩
     case measure => simp [intOf]; omega
    ·
     have HJX := zA hJx3
     clear hJx3
     gi_wp2
     refine bodyPost_ret (results_none rfl _ _ _) rfl ?_
     exact ⟨⟨_, rfl⟩, .inr ⟨_, trivial, HJX.out⟩⟩
  ·
   obtain rfl : f = F.length := by omega
   gi_wp2
   go_end0
   exact ⟨⟨_, rfl⟩, .inl ⟨_, HP.out, HJ1.out⟩⟩
set_option maxHeartbeats 8000000 in
set_option maxRecDepth 100000 in
theorem rings74 (A0 : Option Addr) (c0 : Nat) (F : List S61) (A1 : Option Addr) (c1 : Nat) (T : List S61) (A2 : Option Addr) (c2 : Nat) (O : List S67) (w : World) (h0 : Kd.C k61 w A0 F.length F) (d0 : F.length ≤ c0) (h1 : Kd.C k61 w A1 T.length T) (d1 : T.length ≤ c1) (h2 : Kd.C k67 w A2 O.length O) (d2 : O.length ≤ c2) (hl : O.length ≤ 1000000) (ho : O.length = T.length) (hf : F.length ≤ 1000) (hv : ∀ o ∈ O, o.f0 < (F.length : Int)) :
  Calls Try.prog 74 #[.agg #[.slice A0 F.length c0, .slice A1 T.length c1, .slice A2 O.length c2]] w fun e w' => ∃ v, e = .returned v ∧ (Kd.int .i64).R 3 w' w.heap.size (fun _ => True) v (ringsL F T O) ∧ Below w.heap.size w w' := by
 have hu28 := Try.underlying28
 have hu139 := Try.underlying139
 obtain ⟨i0, hi, hz0, hz1, hz2⟩ := info_parts info3
 refine callsIn_wide.1 (?_ : CallsIn Fence.wide 10 _ _ _ _ _)
 refine callsIn_of_wp_marks Try.func74 rfl trivial ?_
 simp only [Try.ntmps74, List.size_toArray, List.length_cons, List.length_nil, Nat.reduceAdd, Nat.reduceSub, Array.replicate_succ, Array.replicate_zero, List.push_toArray, List.append_toArray, List.nil_append, List.cons_append]
 have ST := zA (fun (gL : Nat) (W3 : World) => leaving_stops A0 c0 F A1 c1 T A2 c2 O gL w W3 h0 d0 h1 d1 h2 d2 hl ho hf)
 have KN := zA (fun (a : Int) (ha0 : 0 ≤ a) (ha1 : a < F.length) (W : World) (hb : Below w.heap.size w W) => next97 A0 c0 F A1 c1 T A2 c2 O a W (Kd.C_below h0 hb) d0 (Kd.C_below h1 hb) d1 (Kd.C_below h2 hb) d2 hl ho ha0 ha1)
 have RL := zA (fun (i : Int) (hp : 0 < F.length) => ringN_lt ho hv i hp)
 have HF := zA hf
 clear h0 d0 h1 d1 h2 d2 hl ho hf hv
 gi_wp2
 refine ⟨trivial, (callsIn_wide.2 (leaving96 _ _ _ _)).mono ?_⟩
 rintro e w3 ⟨rfl, hw3⟩
 have e2 : ((w.alloc (.cells #[.slice A0 F.length c0, .slice A1 T.length c1, .slice A2 O.length c2] 28)).alloc (.cells #[.slice none 0 0] 139)).heap.size = w.heap.size + 2 := by simp
 rw [e2]
 obtain ⟨g1, hg1⟩ : ∃ g_ : Nat, g_ = w.heap.size := ⟨_, rfl⟩
 obtain ⟨g3, hg3⟩ : ∃ g_ : Nat, g_ = w.heap.size + 1 := ⟨_, rfl⟩
 obtain ⟨gL, hgL⟩ : ∃ g_ : Nat, g_ = w.heap.size + 2 := ⟨_, rfl⟩
 have bk1 : w3.heap[g1]? = some (.cells #[.slice A0 F.length c0, .slice A1 T.length c1, .slice A2 O.length c2] 28 (0, 0)) := by
  rw [hw3, hg1]
  exact (Below.heap_alloc _ _ _ (by simp; omega)).trans ((Below.heap_alloc _ _ _ (by simp)).trans (heap_alloc_new w _))
 have bk3 : Boxed w3 g3 139 (.slice none 0 0) := by
  rw [hw3, hg3]
  have := Boxed.new (w.alloc (.cells #[.slice A0 F.length c0, .slice A1 T.length c1, .slice A2 O.length c2] 28)) 139 (.slice none 0 0)
  rw [World.size_alloc] at this
  exact this.alloc _
 have bkL : w3.heap[gL]? = some (.cells #[.slice A0 F.length c0, .slice A1 T.length c1, .slice A2 O.length c2] 28 (0, 0)) := by
  rw [hw3, hgL, ← e2]
  exact heap_alloc_new _ _
 have hb3 : Below w.heap.size w w3 := by rw [hw3]; exact below_alloc (below_alloc (below_alloc (Below.refl _ _) _) _) _
 have sz3 : w3.heap.size = w.heap.size + 3 := by rw [hw3]; simp
 have hst := ST.out gL w3 hb3 bkL
 have q13 : g1 < g3 := by omega
 have q3L : g3 < gL := by omega
 have qL : gL < w3.heap.size := by omega
 have q1 : w.heap.size ≤ g1 := by omega
 rw [← hgL, ← hg3, ← hg1]
 clear hw3 e2 hg1 hg3 hgL sz3 ST
 have HST := zA hst
 clear hst
 gi_wp2
 refine wpIn_rangeFunc_ownG_of_H rfl (by omega) (gf := 110) (lb := #[.pointer (some ⟨gL, 0, none⟩)]) rfl trivial (enters_of Try.func110 (by kernel_rfl) rfl) HST.out (fun h k => KpL.trans h k) (fun W l o o' hl _ _ _ => KpL.put W l o o' (by have := hb3.size; omega) (by omega)) (Below.refl _ _) (fun _ => rfl)
  (fun (pre : List (Ix F.length)) W => ((∃ v, Boxed W g3 139 v ∧ W.ownsRow w.heap.size 3 1 v ((pre.map (·.1)).filter (ringB F T O)).length (nums .i64 ((pre.map (·.1)).filter (ringB F T O))) ∧ True) ∧ Below w.heap.size w W) ∧ (W.heap[g1]? = some (.cells #[.slice A0 F.length c0, .slice A1 T.length c1, .slice A2 O.length c2] 28 (0, 0)) ∧ W.heap[gL]? = some (.cells #[.slice A0 F.length c0, .slice A1 T.length c1, .slice A2 O.length c2] 28 (0, 0))))
  (fun _ _ _ => False)
  (OwnFrom.and (OwnFrom.and (Own.from (holdsRow_own w.heap.size g3 139 3 1 (fun (pre : List (Ix F.length)) => ((pre.map (·.1)).filter (ringB F T O)).length) (fun (pre : List (Ix F.length)) => nums .i64 ((pre.map (·.1)).filter (ringB F T O))) (fun _ _ => True)) _) (ownFrom_below (Nat.le_refl _) (by have := hb3.size; omega))) (OwnFrom.and (ownFrom_blk _ g1 _ 28) (ownFrom_blk _ gL _ 28)))
  (fun _ _ _ _ _ hs _ _ => hs)
  ⟨⟨⟨_, bk3, World.ownsRow_nil _ _ _ _, trivial⟩, hb3⟩, bk1, bkL⟩
  (fun x => { tmps := #[.agg #[.slice A0 F.length c0, .slice A1 T.length c1, .slice A2 O.length c2], .pointer (some ⟨g1, 0, none⟩), .slice none 0 0, .pointer (some ⟨g3, 0, none⟩), .int .i64 x.1, undef, undef, .agg #[.slice A0 F.length c0, .slice A1 T.length c1, .slice A2 O.length c2], .func (.func 110) #[] #[.pointer (some ⟨gL, 0, none⟩)], .int .i64 x.1, undef, undef, undef, undef, undef, undef, undef, undef, undef, undef, undef, undef, undef, undef, undef, undef, undef, undef, undef, undef, undef, undef, undef, undef, undef, undef, undef, undef, undef, undef, undef, undef, undef, undef, undef], defers := [] })
  ?assign ?body ?done ?stop (fun W => KpL.refl _ _ _ (Nat.le_refl _) W)
 case assign =>
  rintro ll ⟨x, _, _⟩ W K hK
  unfold encI
  gi_wp2
  exact hK
 case body =>
  rintro ll pre ⟨x, hx0, hx1⟩ W ⟨⟨⟨v, bS1, hrow, _⟩, hB1⟩, b1, bL⟩ hlt
  have HE : Aside0 (((pre ++ [(⟨x, hx0, hx1⟩ : Ix F.length)]).map (·.1)).filter (ringB F T O) = if ringB F T O x = true then (pre.map (·.1)).filter (ringB F T O) ++ [x] else (pre.map (·.1)).filter (ringB F T O)) := ⟨by
   rw [List.map_append, List.filter_append]
   by_cases h : ringB F T O x = true
   ·
    rw [if_pos h]; simp [h]
   ·
    rw [if_neg h]; simp [h]⟩
  have hxl : ((pre.map (·.1)).filter (ringB F T O)).length ≤ 1000 := Nat.le_trans (List.length_filter_le _ _) (by rw [List.length_map]; omega)
  obtain ⟨xs, hxs⟩ : ∃ xs, xs = (pre.map (·.1)).filter (ringB F T O) := ⟨_, rfl⟩
  rw [← hxs] at HE hrow hxl
  have HXL := zA hxl
  have hp : 0 < F.length := by omega
  have RL2 := zA (fun k => RL.out x hp k)
  have BS := zA bS1
  have HROW := zA hrow
  have HB := zA hB1
  have aa := zA b1
  have ab := zA bL
  have HB0 : Aside0 (w.heap.size ≤ W.heap.size) := ⟨hB1.size⟩
  have KO : Aside0 (KeepsOthers W W) := ⟨KeepsOthers.refl _⟩
  have HBW : Aside0 (Below W.heap.size W W) := ⟨Below.refl _ _⟩
  have y0 : W.cell? ⟨g1, 0, none⟩ = some (.slice A0 F.length c0) := (blk_cell b1 0).trans rfl
  have y1 : W.cell? ⟨g1, 1, none⟩ = some (.slice A1 T.length c1) := (blk_cell b1 1).trans rfl
  have y2 : W.cell? ⟨g1, 2, none⟩ = some (.slice A2 O.length c2) := (blk_cell b1 2).trans rfl
  clear hxs hxl hp RL bS1 hrow hB1 b1 bL hlt
  gi_wp2
  refine ⟨trivial, (CallsIn.inRound ll (callsIn_wide.2 (KN.out x hx0 hx1 _ HB.out))).mono ?_⟩
  rintro e w5 ⟨rfl, hb⟩
  replace BS := zA (BS.out.kept (grown_of_below hb none) (by simp))
  replace HROW := zA (pw_own_below HROW.out hb)
  replace HB := zA (below_step HB.out hb)
  replace aa := zA (blk_keep aa.out hb)
  replace ab := zA (blk_keep ab.out hb)
  replace KO := zA (KO.out.trans (KeepsOthers.of_grownBy (grown_of_below hb none) (fun j o e => nomatch e)))
  replace HBW := zA (below_step HBW.out hb)
  clear hb y0 y1 y2
  have y0 : w5.cell? ⟨g1, 0, none⟩ = some (.slice A0 F.length c0) := (blk_cell aa.out 0).trans rfl
  obtain ⟨za, hza⟩ : ∃ z_ : Int, z_ = (nextI F T O x).1 := ⟨_, rfl⟩
  obtain ⟨zb, hzb⟩ : ∃ z_ : Bool, z_ = (nextI F T O x).2 := ⟨_, rfl⟩
  have ac : Aside0 (ringN F T O x 0 = (za, zb)) := ⟨by rw [hza, hzb]; rfl⟩
  rw [← hza, ← hzb]
  clear hza hzb
  gi_wp2
  clear y0
  gi_loopw [5, 6, 19] (fun v5 v6 v19 wr => ∃ (k : Nat) (a : Int) (b : Bool), v19 = .int .i64 k ∧ k ≤ F.length ∧ v5 = .int .i64 a ∧ v6 = .bool b ∧ Aside0 (ringN F T O x k = (a, b)) ∧ Aside0 (Below w.heap.size w wr) ∧ Aside0 (wr.heap[g1]? = some (.cells #[.slice A0 F.length c0, .slice A1 T.length c1, .slice A2 O.length c2] 28 (0, 0))) ∧ Aside0 (wr.heap[gL]? = some (.cells #[.slice A0 F.length c0, .slice A1 T.length c1, .slice A2 O.length c2] 28 (0, 0))) ∧ Aside0 (Boxed wr g3 139 v) ∧ Aside0 (wr.ownsRow w.heap.size 3 1 v xs.length (nums .i64 xs)) ∧ Aside0 (KeepsOthers W wr) ∧ Aside0 (Below W.heap.size W wr))
   (fun _ _ v19 _ => F.length - (intOf v19).toNat)
  case atStart => exact ⟨0, za, zb, rfl, Nat.zero_le _, rfl, rfl, ac, HB, aa, ab, BS, HROW, KO, HBW⟩
  case round =>
   clear ac HB aa ab BS HROW KO HBW
   obtain ⟨k, a, b, rfl, hk, rfl, rfl, HR, HB, aa, ab, BS, HROW, KO, HBW⟩ := hrel
   by_cases hlt : k < F.length
   ·
    have hltz : (k : Int) < (F.length : Int) := by omega
    have hw1 : IntKind.i64.wrap ((k : Int) + 1) = k + 1 := (i64_w _).trans (by have := HF.out; unfold wrap64; omega)
    have HA : Aside0 (a < (F.length : Int)) := ⟨by have := RL2.out k; rwa [HR.out] at this⟩
    have HS : Aside0 (ringN F T O x (k + 1) = if b = true ∧ x < a then nextI F T O a else (a, b)) := ⟨by show ringStep F T O x (ringN F T O x k) = _; rw [HR.out]; rfl⟩
    have hcase : b = false ∨ (b = true ∧ ¬ x < a) ∨ (b = true ∧ x < a) := by
     cases b
     ·
      exact .inl rfl
     ·
      by_cases h : x < a <;> simp [h]
    rcases hcase with rfl | ⟨rfl, hc⟩ | ⟨rfl, hc⟩
    ·
     gi_wp2
     go_roundw
     case rel => exact ⟨k + 1, a, false, by first | rfl | simp, by omega, rfl, rfl, ⟨HS.out.trans (by simp)⟩, HB, aa, ab, BS, HROW, KO, HBW⟩
     case measure => simp [intOf]; omega
    ·
     have hcb : decide (x < a) = false := decide_eq_false hc
     have HCN := zA hc
     clear hc
     gi_wp2
     go_roundw
     case rel => exact ⟨k + 1, a, true, by first | rfl | simp, by omega, rfl, rfl, ⟨HS.out.trans (if_neg (fun h => HCN.out h.2))⟩, HB, aa, ab, BS, HROW, KO, HBW⟩
     case measure => simp [intOf]; omega
    ·
     have hcb : decide (x < a) = true := decide_eq_true hc
     have HCN := zA hc
     have ha0 : 0 ≤ a := by omega
     clear hc
     have y0 : wr.cell? ⟨g1, 0, none⟩ = some (.slice A0 F.length c0) := (blk_cell aa.out 0).trans rfl
     have y1 : wr.cell? ⟨g1, 1, none⟩ = some (.slice A1 T.length c1) := (blk_cell aa.out 1).trans rfl
     have y2 : wr.cell? ⟨g1, 2, none⟩ = some (.slice A2 O.length c2) := (blk_cell aa.out 2).trans rfl
     gi_wp2
     refine ⟨trivial, (CallsIn.inRound ll (callsIn_wide.2 (KN.out a ha0 HA.out _ HB.out))).mono ?_⟩
     rintro e w5 ⟨rfl, hb⟩
     replace BS := zA (BS.out.kept (grown_of_below hb none) (by simp))
     replace HROW := zA (pw_own_below HROW.out hb)
     replace HB := zA (below_step HB.out hb)
     replace aa := zA (blk_keep aa.out hb)
     replace ab := zA (blk_keep ab.out hb)
     replace KO := zA (KO.out.trans (KeepsOthers.of_grownBy (grown_of_below hb none) (fun j o e => nomatch e)))
     replace HBW := zA (below_step HBW.out hb)
     clear hb y0 y1 y2
     obtain ⟨za, hza⟩ : ∃ z_ : Int, z_ = (nextI F T O a).1 := ⟨_, rfl⟩
     obtain ⟨zb, hzb⟩ : ∃ z_ : Bool, z_ = (nextI F T O a).2 := ⟨_, rfl⟩
     have ac : Aside0 (ringN F T O x (k + 1) = (za, zb)) := ⟨by rw [HS.out, if_pos ⟨trivial, HCN.out⟩, hza, hzb]⟩
     rw [← hza, ← hzb]
     clear hza hzb
     gi_wp2
     go_roundw
     case rel => exact ⟨k + 1, za, zb, by first | rfl | simp, by omega, rfl, rfl, ac, HB, aa, ab, BS, HROW, KO, HBW⟩
     case measure => simp [intOf]; omega
   ·
    obtain rfl : k = F.length := by omega
    have hrb : ringB F T O x = (b && decide (a = x)) := by unfold ringB; rw [HR.out]
    have he := HE.out
    rw [hrb] at he
    have hcase : b = false ∨ (b = true ∧ ¬ a = x) ∨ (b = true ∧ a = x) := by
     cases b
     ·
      exact .inl rfl
     ·
      by_cases h : a = x <;> simp [h]
    rcases hcase with rfl | ⟨rfl, hc⟩ | ⟨rfl, rfl⟩
    ·
     rw [if_neg (by simp)] at he
     have HE2 := zA he
     clear he hrb
     gi_wp2
     exact ⟨KO.out.from _, ⟨HBW.out.mono (by have := HB0.out; omega), fun _ => ab.out⟩, ⟨⟨v, BS.out, by rw [HE2.out]; exact HROW.out, trivial⟩, HB.out⟩, aa.out, ab.out⟩
    ·
     rw [if_neg (by simp [hc])] at he
     have HE2 := zA he
     have hcb : (a == x) = false := beq_eq_false_iff_ne.mpr hc
     clear he hrb hc
     gi_wp2
     exact ⟨KO.out.from _, ⟨HBW.out.mono (by have := HB0.out; omega), fun _ => ab.out⟩, ⟨⟨v, BS.out, by rw [HE2.out]; exact HROW.out, trivial⟩, HB.out⟩, aa.out, ab.out⟩
    ·
     rw [if_pos (by simp)] at he
     have HE2 := zA he
     clear he hrb
     have cB := BS.out.cell
     gi_wp2_with (gi_at_builtin; refine wpListIn_append_own _ rfl _ _ 139 rfl w.heap.size 3 i0 (.int .i64 0) 1 8 hu139 hi hz0 hz1 hz2 rfl (by decide) _ _ _ rfl (HROW.out.alloc _) ⟨wr.heap.size, 0, none⟩ 1 1 [.int .i64 a] rfl rfl (by simpa using World.news_of_block (cs := #[.int .i64 a]) (t := 3) (fr := (0, 0)) (heap_alloc_new wr (.cells #[.int .i64 a] 3))) (by simp [Value.oneCell']) (by have := HXL.out; simp only [maxLen]; omega) (by have := HXL.out; omega) (by have := HB.out.size; simp; omega) ?_; intro v' w1 hown' hgrow _; obtain ⟨g', cap', ev⟩ := ownsRow_succ hown'; subst ev; obtain ⟨hv1, hv2, hr2, hk2, hb2⟩ := BS.out.appended (by decide) HROW.out HB.out.size (by omega) hown' hgrow; have hc1 := hv1.cell; have hf1 := hv1.frozen)
     have bkx : ∀ g : Nat, g ≠ g3 → wr.heap[g]? = some (.cells #[.slice A0 F.length c0, .slice A1 T.length c1, .slice A2 O.length c2] 28 (0, 0)) → (World.setCell w1 ⟨g3, 0, none⟩ (.slice (some ⟨g', 0, none⟩) (xs.length + 1) cap')).heap[g]? = some (.cells #[.slice A0 F.length c0, .slice A1 T.length c1, .slice A2 O.length c2] 28 (0, 0)) := fun g hg h => by
      have h1 : (wr.alloc (.cells #[.int .i64 a] 3)).heap[g]? = some (.cells #[.slice A0 F.length c0, .slice A1 T.length c1, .slice A2 O.length c2] 28 (0, 0)) := (Below.heap_alloc _ _ _ (blk_lt h)).trans h
      exact (Below.heap_setCell _ _ _ _ hg).trans ((hgrow.block g (blk_lt h1) (own_ne (HROW.out.alloc _) h1 (by decide))).trans h1)
     exact ⟨(KO.out.trans hk2).from _, ⟨(HBW.out.mono (by have := HB0.out; omega)).trans hb2, fun _ => bkx gL (by omega) ab.out⟩, ⟨⟨_, hv2, by rw [HE2.out, List.length_append, nums_append]; exact hr2, trivial⟩, HB.out.trans hb2⟩, bkx g1 (by omega) aa.out, bkx gL (by omega) ab.out⟩
 case done =>
  rintro D ys W hD hys ⟨⟨⟨v, bS1, hrow, _⟩, hB1⟩, _, _⟩ hK
  rw [hys] at hrow
  have cB := bS1.cell
  have HR := zA hrow
  have HB := zA hB1
  clear hrow hB1
  gi_wp2
  refine ⟨by simp, .inl ⟨_, _, rfl, run_takeDeferred hK, ?_⟩⟩
  exact ⟨_, results_tmp rfl _ _ _, v, rfl, R_of_own (ownsRow_putObj HR.out _ hK rfl) rfl, HB.out.trans (belowK_b (w := w) (Nat.le_refl _) W D _ _ (by have := hb3.size; omega) hK rfl rfl)⟩
 case stop =>
  rintro D c' pre W _ _ h _
  exact h.elim
end Go.Proofs.Ytehpbmdphfbooaa.P
end
section
namespace Go.Proofs.Ytehpbmdphfbooaa.P
open Go.RowKit Go.Proofs.YtehpbmdphfbooaaW.PrintWords Go.Proofs.YtehpbmdphfbooaaW.PrintLast Go.Proofs.YtehpbmdphfbooaaW.PrintMore
set_option linter.unusedVariables false
def edit_Patch_rings.f (F T : List S61) (O : List S67) : Option (List Int) :=
  if F.length ≤ 1000 ∧ O.length = T.length ∧ O.length ≤ 1000000 ∧ (O.all fun o => decide (o.f0 < (F.length : Int))) = true then some (ringsL F T O) else none
theorem edit_Patch_rings.calls (A0_0 : Option Addr) (c0_0 : Nat) (l0_0 : List S61) (A0_1 : Option Addr) (c0_1 : Nat) (l0_1 : List S61) (A0_2 : Option Addr) (c0_2 : Nat) (l0_2 : List S67) (r : List Int) (w : World) (hr0_0 : Kd.C k61 w A0_0 l0_0.length l0_0) (hc0_0 : l0_0.length ≤ c0_0) (hr0_1 : Kd.C k61 w A0_1 l0_1.length l0_1) (hc0_1 : l0_1.length ≤ c0_1) (hr0_2 : Kd.C k67 w A0_2 l0_2.length l0_2) (hc0_2 : l0_2.length ≤ c0_2) (h : edit_Patch_rings.f l0_0 l0_1 l0_2 = some r) :
    Calls Try.prog 74 #[.agg #[.slice A0_0 l0_0.length c0_0, .slice A0_1 l0_1.length c0_1, .slice A0_2 l0_2.length c0_2]] w fun e w' => ∃ v0_ : Value, e = .returned (v0_) ∧ (Kd.int .i64).R 3 w' w.heap.size (fun _ => True) v0_ r ∧ Below w.heap.size w w' := by
  unfold edit_Patch_rings.f at h
  split at h
  · rename_i hh
    obtain rfl := Option.some.inj h
    exact rings74 A0_0 c0_0 l0_0 A0_1 c0_1 l0_1 A0_2 c0_2 l0_2 w hr0_0 hc0_0 hr0_1 hc0_1 hr0_2 hc0_2 hh.2.2.1 hh.2.1 hh.1 (fun o ho => by simpa using List.all_eq_true.1 hh.2.2.2 o ho)
  · cases h
end Go.Proofs.Ytehpbmdphfbooaa.P
end
section
namespace Go.Proofs.Ytehpbmdphfbooaa.P
open Go.RowKit Go.Proofs.YtehpbmdphfbooaaW.PrintWords Go.Proofs.YtehpbmdphfbooaaW.PrintLast Go.Proofs.YtehpbmdphfbooaaW.PrintMore
attribute [local go_sem] max2_int min2_int max_two min_two max_three min_three max_four min_four
set_option linter.unusedVariables false
set_option linter.unusedSimpArgs false
attribute [local go_sem high] eqA61
def edit_Fewest.l0 : Nat → Int → List (S67) → Int → Int → List (S61) → List (S61) → List (S67) → Option (Int × Int)
  | 0, _, _, _, _, _, _, _ => none
  | k + 1, x5, x21, x22, x23, x102000, x102001, x102002 => if x23 < x22 then (if 0 ≤ x23 then (if x23 < (x21.length : Int) then ((edit_Origin_self.f ((rd_T67 x21 x23).f0) ((rd_T67 x21 x23).f1)).bind fun t108 => (if t108 = true then (if 0 ≤ ((rd_T67 x21 x23).f0) then (if ((rd_T67 x21 x23).f0) < (x102000.length : Int) then (if x23 < (x102001.length : Int) then (if (((rd_T61 x102000 ((rd_T67 x21 x23).f0)).f0) == ((rd_T61 x102001 x23).f0) && (((rd_T61 x102000 ((rd_T67 x21 x23).f0)).f1) == ((rd_T61 x102001 x23).f1) && (((rd_T61 x102000 ((rd_T67 x21 x23).f0)).f2) == ((rd_T61 x102001 x23).f2)))) = true then (edit_Fewest.l0 k (wrap64 (x5 - 1)) x21 x22 (wrap64 (x23 + 1)) x102000 x102001 x102002) else (edit_Fewest.l0 k x5 x21 x22 (wrap64 (x23 + 1)) x102000 x102001 x102002)) else (none)) else (none)) else (none)) else (edit_Fewest.l0 k (wrap64 (x5 + 1)) x21 x22 (wrap64 (x23 + 1)) x102000 x102001 x102002))) else (none)) else (none)) else (some (x5, 0))
def edit_Fewest.f (k : Nat) (l0_0 : List (S61)) (l0_1 : List (S61)) (l0_2 : List (S67)) : Option (Int × Int) := (edit_CheckPatch.f l0_0 l0_1 l0_2).bind fun t102 => (if t102 = 0 then ((edit_Patch_rings.f l0_0 l0_1 l0_2).bind fun t103 => (edit_Fewest.l0 k (wrap64 ((l0_0.length : Int) + (t103.length : Int))) l0_2 (l0_2.length : Int) 0 l0_0 l0_1 l0_2)) else (some (0, t102)))
def edit_Fewest.T4 : Bool × List (List Nat × List Nat) := (true, [([], []), ([0], [0]), ([1], [1]), ([], []), ([3], [3]), ([4], [4]), ([2, 5], [2, 5]), ([6, 4, 0, 1, 2, 3, 4, 5, 6], [6])])
def edit_Fewest.B4 : List Nat := [0, 1, 3, 0, 8, 24, 63, 127]
theorem edit_Fewest.tab4 : rtab .any (opsOf Try.f41 4) = edit_Fewest.T4 := by kernel_rfl
theorem edit_Fewest.bits4 : waitsOk edit_Fewest.T4.2 edit_Fewest.B4 = true := by kernel_rfl
def edit_Fewest.T10 : Bool × List (List Nat × List Nat) := (true, [([], []), ([0], [0]), ([], []), ([2], [2]), ([1, 3], [1, 3]), ([4], [4]), ([], []), ([6], [6]), ([], []), ([7, 8], [7, 8]), ([9], [9]), ([5, 10], [5, 10]), ([11], [11])])
def edit_Fewest.B10 : List Nat := [0, 1, 0, 4, 15, 31, 0, 64, 0, 448, 960, 2047, 4095]
theorem edit_Fewest.tab10 : rtab .any (opsOf Try.f41 10) = edit_Fewest.T10 := by kernel_rfl
theorem edit_Fewest.bits10 : waitsOk edit_Fewest.T10.2 edit_Fewest.B10 = true := by kernel_rfl
set_option maxHeartbeats 8000000 in
set_option maxRecDepth 100000 in
theorem edit_Fewest.calls (k : Nat) (aj : Option Addr) (ag : Nat) (ab : List (S61)) (ak : Option Addr) (ah : Nat) (ac : List (S61)) (an : Option Addr) (ai : Nat) (aa : List (S67)) (r1 : Int) (r2 : Int) (w : World) (az : Kd.C k61 w aj ab.length ab) (aA : ab.length ≤ ag) (aB : Kd.C k61 w ak ac.length ac) (aC : ac.length ≤ ah) (aD : Kd.C k67 w an aa.length aa) (aE : aa.length ≤ ai) (h : edit_Fewest.f k ab ac aa = some (r1, r2)) :
  Calls Try.prog 41 #[.agg #[.slice aj ab.length ag, .slice ak ac.length ah, .slice an aa.length ai]] w fun e w' => e = .returned (.tuple #[.int .i64 r1, .int .i64 r2]) ∧ Below w.heap.size w w' := by
 have hu28 := Try.underlying28
 have hu67 := Try.underlying67
 have hu61 := Try.underlying61
 have ar := zA az
 have aw := zA aA
 clear az aA
 have au := zA aB
 have ax := zA aC
 clear aB aC
 have aq := zA aD
 have ay := zA aE
 clear aD aE
 have HB := zA (Below.refl w.heap.size w)
 have H : ((edit_CheckPatch.f ab ac aa).bind fun t102 => (if t102 = 0 then ((edit_Patch_rings.f ab ac aa).bind fun t103 => (edit_Fewest.l0 k (wrap64 ((ab.length : Int) + (t103.length : Int))) aa (aa.length : Int) 0 ab ac aa)) else (some (0, t102)))) = some (r1, r2) := h
 clear h
 replace H := Option.bind_eq_some_iff.mp H
 obtain ⟨t102, A20, H⟩ := H
 replace H : (if t102 = 0 then ((edit_Patch_rings.f ab ac aa).bind fun t103 => (edit_Fewest.l0 k (wrap64 ((ab.length : Int) + (t103.length : Int))) aa (aa.length : Int) 0 ab ac aa)) else (some (0, t102))) = some (r1, r2) := H
 have A2 := zA A20
 clear A20
 by_cases c3 : t102 = 0
 ·
  rw [if_pos c3] at H
  have c3b0 : (t102 == 0) = true := beq_iff_eq.mpr c3
  have c3b1 : (t102 != 0) = false := bne_eq_false_iff_eq.mpr c3
  clear c3
  replace H := Option.bind_eq_some_iff.mp H
  obtain ⟨t103, A40, H⟩ := H
  replace H : (edit_Fewest.l0 k (wrap64 ((ab.length : Int) + (t103.length : Int))) aa (aa.length : Int) 0 ab ac aa) = some (r1, r2) := H
  have A4 := zA A40
  clear A40
  have H' := zA H
  clear H
  go_enter Try.func41, Try.ntmps41
  try go_wp2_with (first | ((with_reducible refine gate_dst (N := 1) rfl ?_); refine box_event ?hg (N := 1) ?hd (cs := #[.slice aj ab.length ag, .slice ak ac.length ah, .slice an aa.length ai]) (t := 28) ?hr ?_; (case hd => rfl); (case hg => rfl); (case hr => first | (go_simp; done) | (go_simp; rfl)); intro ae hg w5 hbox hb; have ad := zA (hbox); have GW101 := zA ((by rw [hg]; exact (below_size (zqA HB.out)) : w.heap.size ≤ ae)); have am := zA ((by rw [hg]; exact (below_size (zqA HB.out)) : w.heap.size ≤ ae)); replace HB := zA (below_step (zqA HB.out) hb); clear hb hbox hg; have hcz6_0 : w5.cell? ⟨ae, 0, none⟩ = some (.slice aj ab.length ag) := (blk_cell ad.out 0).trans rfl; have hcz6_1 : w5.cell? ⟨ae, 1, none⟩ = some (.slice ak ac.length ah) := (blk_cell ad.out 1).trans rfl; have hcz6_2 : w5.cell? ⟨ae, 2, none⟩ = some (.slice an aa.length ai) := (blk_cell ad.out 2).trans rfl; have hfz6_0 := blk_frozen ad.out 0; have hfz6_1 := blk_frozen ad.out 1; have hfz6_2 := blk_frozen ad.out 2) | ((with_reducible refine gate_callee (f := 34) rfl ?_); refine goesL_ (some 9) rfl rfl Try.func34 (by kernel_rfl) rfl #[.agg #[.slice aj ab.length ag, .slice ak ac.length ah, .slice an aa.length ai]] rfl zqE ?_; (with_reducible refine (edit_CheckPatch.calls _ _ ab _ _ ac _ _ aa t102 _ ?side1 ?side2 ?side3 ?side4 ?side5 ?side6 A2.out).mono ?_); (case side1 => exact zqK (Kd.C_below ar.out HB.out)); (case side2 => exact aw.out); (case side3 => exact zqK (Kd.C_below au.out HB.out)); (case side4 => exact ax.out); (case side5 => exact zqK (Kd.C_below aq.out HB.out)); (case side6 => exact ay.out); rintro e w7 ⟨rfl, hb⟩; refine ⟨_, rfl, ?_⟩; replace ad := zA (blk_below (g := ae) (o := .cells #[.slice aj ab.length ag, .slice ak ac.length ah, .slice an aa.length ai] 28 (0, 0)) (zqB ad.out) hb); replace HB := zA (below_step (zqG HB.out am.out) hb); (try clear hb); (try clear hb2); (try clear hk); (try clear hi)))
  replace ad := zA (blk_drew ad.out)
  replace HB := zA (below_drew1 HB.out)
  refine start_ (n := 8) (S := fun w' => w'.cell? ⟨ae, 0, none⟩ = some (.slice aj ab.length ag) ∧ w'.cell? ⟨ae, 1, none⟩ = some (.slice ak ac.length ah) ∧ w'.cell? ⟨ae, 2, none⟩ = some (.slice an aa.length ai)) (ds := []) #[false, false, false, false, false, false, false, false] (by kernel_rfl) rfl rfl ⟨(blk_cell ad.out 0).trans rfl, (blk_cell ad.out 1).trans rfl, (blk_cell ad.out 2).trans rfl⟩ (fun hHeld => ?_); refine with_tabW edit_Fewest.tab4 edit_Fewest.bits4 (fun HT_ HW_ => ?_)
  generalize w7.drew = w8 at ad HB hHeld ⊢
  refine pureQ 0 (some 13) HT_ ?_
  refine takeQ (v := ?_) (a' := ?_) 1 (some 14) HT_ HW_ hHeld ?_ ?_ ?_
  rotate_left
  ·
   rintro w' ⟨s0, s1, s2⟩
   go_simp
   with_reducible rfl
  rotate_left
  ·
   exact putQ
  refine pureQ 2 (some 15) HT_ ?_
  refine takeQ (v := ?_) (a' := ?_) 3 (some 16) HT_ HW_ hHeld ?_ ?_ ?_
  rotate_left
  ·
   rintro w' ⟨s0, s1, s2⟩
   go_simp
   with_reducible rfl
  rotate_left
  ·
   exact putQ
  refine one_ (i := 4) (N := some 17) #[true, true, true, true, true, false, false, false] rfl rfl (one_of HT_.out (by kernel_rfl)) (by decide) (fun K hK => ?_)
  refine goes_ Try.func74 (by kernel_rfl) rfl #[.agg #[.slice aj ab.length ag, .slice ak ac.length ah, .slice an aa.length ai]] (by rfl) rfl rfl zqE ?_
  with_reducible refine (edit_Patch_rings.calls _ _ ab _ _ ac _ _ aa t103 _ ?side1 ?side2 ?side3 ?side4 ?side5 ?side6 A4.out).mono ?_
  (case side1 => exact zqK (Kd.C_below ar.out HB.out))
  (case side2 => exact aw.out)
  (case side3 => exact zqK (Kd.C_below au.out HB.out))
  (case side4 => exact ax.out)
  (case side5 => exact zqK (Kd.C_below aq.out HB.out))
  (case side6 => exact ay.out)
  rintro e w9 ⟨v104, rfl, ho0, hb⟩
  refine ⟨_, rfl, ?_⟩
  have HO105 := zA (Kd.R_lower ho0 (below_size (zqG HB.out am.out)))
  replace ad := zA (blk_below (g := ae) (o := .cells #[.slice aj ab.length ag, .slice ak ac.length ah, .slice an aa.length ai] 28 (0, 0)) (zqB ad.out) hb)
  replace HB := zA (below_step (zqG HB.out am.out) hb)
  obtain ⟨Ao10, co10, eo10⟩ := Kd.R_slice HO105.out
  (first | subst eo10 | (injection eo10 with f1_ f2_ f3_; have f4_ := f1_.symm; have f5_ := f3_.symm; clear f1_ f2_ f3_; subst f4_; subst f5_))
  refine hK.out _ _ ⟨(blk_cell ad.out 0).trans rfl, (blk_cell ad.out 1).trans rfl, (blk_cell ad.out 2).trans rfl⟩ (fun hHeld => ?_)
  clear hK K
  refine normQ ?_
  refine pureQ 5 (some 18) HT_ ?_
  refine pureQ 6 (some 19) HT_ ?_
  refine pureQ 7 (some 5) HT_ ?_
  refine done_ (done_of HT_.out (by kernel_rfl)) ?_
  have hcz11_0 : w9.cell? ⟨ae, 0, none⟩ = some (.slice aj ab.length ag) := (blk_cell ad.out 0).trans rfl
  have hcz11_1 : w9.cell? ⟨ae, 1, none⟩ = some (.slice ak ac.length ah) := (blk_cell ad.out 1).trans rfl
  have hcz11_2 : w9.cell? ⟨ae, 2, none⟩ = some (.slice an aa.length ai) := (blk_cell ad.out 2).trans rfl
  have hfz11_0 := blk_frozen ad.out 0
  have hfz11_1 := blk_frozen ad.out 1
  have hfz11_2 := blk_frozen ad.out 2
  try go_wp2
  go_loopg [5, 23] k (fun kq v5 v23 w' => ∃ (x5_1 : Int) (x23_1 : Int), v5 = .int .i64 x5_1 ∧ v23 = .int .i64 x23_1 ∧ Aside0 (edit_Fewest.l0 kq x5_1 aa (aa.length : Int) x23_1 ab ac aa = some (r1, r2)) ∧ Aside0 (kq ≤ k) ∧ Aside0 (w'.heap[ae]? = some (.cells #[(.slice aj ab.length ag), (.slice ak ac.length ah), (.slice an aa.length ai)] 28 (0, 0))) ∧ Aside0 (Below w.heap.size w w'))
  case atStart => exact ⟨(wrap64 ((ab.length : Int) + (t103.length : Int))), (0), zqQ, zqQ, H', ⟨Nat.le_refl _⟩, ⟨zqB ad.out⟩, ⟨zqG HB.out am.out⟩⟩
  case round =>
   clear H'
   obtain ⟨x5_1, x23_1, rfl, rfl, HA, HK1, ad, HB⟩ := hrel
   cases gk with
   | zero => exact absurd HA.out (by simp [edit_Fewest.l0])
   | succ k1 =>
    have H := HA.out
    clear HA
    simp only [edit_Fewest.l0] at H
    by_cases c12 : x23_1 < (aa.length : Int)
    ·
     rw [if_pos c12] at H
     have c12b0 : decide (x23_1 < (aa.length : Int)) = true := decide_eq_true c12
     clear c12
     by_cases c13 : 0 ≤ x23_1
     ·
      rw [if_pos c13] at H
      have c13b0 : decide (0 ≤ x23_1) = true := decide_eq_true c13
      clear c13
      by_cases c14 : x23_1 < (aa.length : Int)
      ·
       rw [if_pos c14] at H
       have c14b0 : decide (x23_1 < (aa.length : Int)) = true := decide_eq_true c14
       clear c14
       replace H := Option.bind_eq_some_iff.mp H
       obtain ⟨t108, A150, H⟩ := H
       replace H : (if t108 = true then (if 0 ≤ ((rd_T67 aa x23_1).f0) then (if ((rd_T67 aa x23_1).f0) < (ab.length : Int) then (if x23_1 < (ac.length : Int) then (if (((rd_T61 ab ((rd_T67 aa x23_1).f0)).f0) == ((rd_T61 ac x23_1).f0) && (((rd_T61 ab ((rd_T67 aa x23_1).f0)).f1) == ((rd_T61 ac x23_1).f1) && (((rd_T61 ab ((rd_T67 aa x23_1).f0)).f2) == ((rd_T61 ac x23_1).f2)))) = true then (edit_Fewest.l0 k1 (wrap64 (x5_1 - 1)) aa (aa.length : Int) (wrap64 (x23_1 + 1)) ab ac aa) else (edit_Fewest.l0 k1 x5_1 aa (aa.length : Int) (wrap64 (x23_1 + 1)) ab ac aa)) else (none)) else (none)) else (none)) else (edit_Fewest.l0 k1 (wrap64 (x5_1 + 1)) aa (aa.length : Int) (wrap64 (x23_1 + 1)) ab ac aa)) = some (r1, r2) := H
       have A15 := zA A150
       clear A150
       by_cases c16 : t108 = true
       ·
        subst c16
        have H1 : (if 0 ≤ ((rd_T67 aa x23_1).f0) then (if ((rd_T67 aa x23_1).f0) < (ab.length : Int) then (if x23_1 < (ac.length : Int) then (if (((rd_T61 ab ((rd_T67 aa x23_1).f0)).f0) == ((rd_T61 ac x23_1).f0) && (((rd_T61 ab ((rd_T67 aa x23_1).f0)).f1) == ((rd_T61 ac x23_1).f1) && (((rd_T61 ab ((rd_T67 aa x23_1).f0)).f2) == ((rd_T61 ac x23_1).f2)))) = true then (edit_Fewest.l0 k1 (wrap64 (x5_1 - 1)) aa (aa.length : Int) (wrap64 (x23_1 + 1)) ab ac aa) else (edit_Fewest.l0 k1 x5_1 aa (aa.length : Int) (wrap64 (x23_1 + 1)) ab ac aa)) else (none)) else (none)) else (none)) = some (r1, r2) := by rw [if_pos rfl] at H; exact H
        clear H; have H := H1; clear H1
        by_cases c17 : 0 ≤ ((rd_T67 aa x23_1).f0)
        ·
         rw [if_pos c17] at H
         have c17b0 : decide (0 ≤ ((rd_T67 aa x23_1).f0)) = true := decide_eq_true c17
         clear c17
         by_cases c18 : ((rd_T67 aa x23_1).f0) < (ab.length : Int)
         ·
          rw [if_pos c18] at H
          have c18b0 : decide (((rd_T67 aa x23_1).f0) < (ab.length : Int)) = true := decide_eq_true c18
          clear c18
          by_cases c19 : x23_1 < (ac.length : Int)
          ·
           rw [if_pos c19] at H
           have c19b0 : decide (x23_1 < (ac.length : Int)) = true := decide_eq_true c19
           clear c19
           by_cases c20 : (((rd_T61 ab ((rd_T67 aa x23_1).f0)).f0) == ((rd_T61 ac x23_1).f0) && (((rd_T61 ab ((rd_T67 aa x23_1).f0)).f1) == ((rd_T61 ac x23_1).f1) && (((rd_T61 ab ((rd_T67 aa x23_1).f0)).f2) == ((rd_T61 ac x23_1).f2)))) = true
           ·
            rw [if_pos c20] at H
            have c20b0 : (((rd_T61 ab ((rd_T67 aa x23_1).f0)).f0) == ((rd_T61 ac x23_1).f0) && (((rd_T61 ab ((rd_T67 aa x23_1).f0)).f1) == ((rd_T61 ac x23_1).f1) && (((rd_T61 ab ((rd_T67 aa x23_1).f0)).f2) == ((rd_T61 ac x23_1).f2)))) = true := c20
            (try (have c20b1 : decide (((rd_T61 ab ((rd_T67 aa x23_1).f0)).f0) = ((rd_T61 ac x23_1).f0) && (((rd_T61 ab ((rd_T67 aa x23_1).f0)).f1) == ((rd_T61 ac x23_1).f1) && (((rd_T61 ab ((rd_T67 aa x23_1).f0)).f2) == ((rd_T61 ac x23_1).f2)))) = true := by simpa using c20))
            (try (have c20b2 : (((rd_T61 ab ((rd_T67 aa x23_1).f0)).f0) == ((rd_T61 ac x23_1).f0) && (((rd_T61 ab ((rd_T67 aa x23_1).f0)).f1) == ((rd_T61 ac x23_1).f1) && (((rd_T61 ab ((rd_T67 aa x23_1).f0)).f2) == ((rd_T61 ac x23_1).f2)))) = true := by simpa using c20))
            clear c20
            have H' := zA H
            clear H
            have p106 : 0 ≤ (x23_1 : Int) := of_decide_eq_true (zqD)
            have q106 : x23_1 < (aa.length : Int) := of_decide_eq_true (zqD)
            obtain ⟨ad106, e106, hx106_0, hx106_1⟩ := at_T67 aq.out x23_1 p106 q106
            cases e106
            replace hx106_0 := (HB.out.cell (World.block_lt_of_cell? w _ hx106_0)).trans hx106_0
            replace hx106_1 := (HB.out.cell (World.block_lt_of_cell? w _ hx106_1)).trans hx106_1
            replace p106 := eq_true p106; replace q106 := eq_true q106
            try go_wp2_with (first | ((with_reducible refine gate_dst (N := 7) rfl ?_); refine box_event ?hg (N := 7) ?hd (cs := #[.int .i64 0, .bool false]) (t := 67) ?hr ?_; (case hd => rfl); (case hg => rfl); (case hr => first | (go_simp; done) | (go_simp; rfl)); intro al hg w21 hbox hb; have af := zA (hbox); have aF := zA ((by rw [hg]; exact (below_size (zqG HB.out am.out)) : w.heap.size ≤ al)); have ap := zA ((by rw [hg]; exact (below_size (zqG HB.out am.out)) : w.heap.size ≤ al)); replace HB := zA (below_step (zqG HB.out am.out) hb); have ao := zA ((by rw [hg]; exact Nat.ne_of_lt (blk_lt (g := ae) (o := .cells #[.slice aj ab.length ag, .slice ak ac.length ah, .slice (some ad106) aa.length ai] 28 (0, 0)) (zqB ad.out)) : ae ≠ al)); have av := zA ((by rw [hg]; exact Nat.ne_of_gt (blk_lt (g := ae) (o := .cells #[.slice aj ab.length ag, .slice ak ac.length ah, .slice (some ad106) aa.length ai] 28 (0, 0)) (zqB ad.out)) : al ≠ ae)); replace ad := zA (blk_below (g := ae) (o := .cells #[.slice aj ab.length ag, .slice ak ac.length ah, .slice (some ad106) aa.length ai] 28 (0, 0)) (zqB ad.out) hb); clear hb hbox hg; have hnb22 := av.out; have hnc22 := ao.out; have hcz23_0 : w21.cell? ⟨al, 0, none⟩ = some (.int .i64 0) := (blk_cell af.out 0).trans rfl; have hcz23_1 : w21.cell? ⟨al, 1, none⟩ = some (.bool false) := (blk_cell af.out 1).trans rfl; have hfz23_0 := blk_frozen af.out 0; have hfz23_1 := blk_frozen af.out 1) | ((with_reducible refine gate_callee (f := 71) rfl ?_); refine goesL_ (some 30) rfl rfl Try.func71 (by kernel_rfl) rfl #[.agg #[.int .i64 ((rd_T67 aa x23_1).f0), .bool ((rd_T67 aa x23_1).f1)]] rfl zqE ?_; (with_reducible refine (edit_Origin_self.calls ((rd_T67 aa x23_1).f0) ((rd_T67 aa x23_1).f1) true _ A15.out).mono ?_); rintro e w24 ⟨rfl, hb⟩; refine ⟨_, rfl, ?_⟩; replace ad := zA (blk_below (g := ae) (o := .cells #[.slice aj ab.length ag, .slice ak ac.length ah, .slice (some ad106) aa.length ai] 28 (0, 0)) (by (with_reducible repeat (first | refine blk_drewN ?_ _ | refine blk_drew ?_ | refine blk_alloc ?_ _)); refine blk_far ?_ ao.out _; (with_reducible repeat (first | refine blk_drewN ?_ _ | refine blk_drew ?_ | refine blk_alloc ?_ _)); refine blk_far ?_ ao.out _; (with_reducible repeat (first | refine blk_drewN ?_ _ | refine blk_drew ?_ | refine blk_alloc ?_ _)); exact ad.out) hb); replace af := zA (blk_below (g := al) (o := .cells #[.int .i64 ((rd_T67 aa x23_1).f0), .bool ((rd_T67 aa x23_1).f1)] 67 (0, 0)) (by (with_reducible repeat (first | refine blk_drewN ?_ _ | refine blk_drew ?_ | refine blk_alloc ?_ _)); refine blk_put (cs := #[.int .i64 ((rd_T67 aa x23_1).f0), .bool false]) ?_ 1 _ rfl; (with_reducible repeat (first | refine blk_drewN ?_ _ | refine blk_drew ?_ | refine blk_alloc ?_ _)); refine blk_put (cs := #[.int .i64 0, .bool false]) ?_ 0 _ rfl; (with_reducible repeat (first | refine blk_drewN ?_ _ | refine blk_drew ?_ | refine blk_alloc ?_ _)); exact af.out) hb); replace HB := zA (below_step (zqH HB.out am.out ap.out) hb); (try clear hb); (try clear hb2); (try clear hk); (try clear hi)))
            replace ad := zA (blk_drew ad.out)
            replace af := zA (blk_drew af.out)
            replace HB := zA (below_drew1 HB.out)
            have p109 : 0 ≤ (((rd_T67 aa x23_1).f0) : Int) := of_decide_eq_true (zqD)
            have q109 : ((rd_T67 aa x23_1).f0) < (ab.length : Int) := of_decide_eq_true (zqD)
            obtain ⟨ad109, e109, hx109_0, hx109_1, hx109_2⟩ := at_T61 ar.out ((rd_T67 aa x23_1).f0) p109 q109
            have hw109_2 := hx109_2; have hw109_1 := hx109_1; have hw109_0 := hx109_0; cases e109
            replace hx109_0 := (HB.out.cell (World.block_lt_of_cell? w _ hx109_0)).trans hx109_0
            replace hx109_1 := (HB.out.cell (World.block_lt_of_cell? w _ hx109_1)).trans hx109_1
            replace hx109_2 := (HB.out.cell (World.block_lt_of_cell? w _ hx109_2)).trans hx109_2
            replace p109 := eq_true p109; replace q109 := eq_true q109
            have p110 : 0 ≤ (x23_1 : Int) := of_decide_eq_true (zqD)
            have q110 : x23_1 < (ac.length : Int) := of_decide_eq_true (zqD)
            obtain ⟨ad110, e110, hx110_0, hx110_1, hx110_2⟩ := at_T61 au.out x23_1 p110 q110
            have hw110_2 := hx110_2; have hw110_1 := hx110_1; have hw110_0 := hx110_0; cases e110
            replace hx110_0 := (HB.out.cell (World.block_lt_of_cell? w _ hx110_0)).trans hx110_0
            replace hx110_1 := (HB.out.cell (World.block_lt_of_cell? w _ hx110_1)).trans hx110_1
            replace hx110_2 := (HB.out.cell (World.block_lt_of_cell? w _ hx110_2)).trans hx110_2
            replace p110 := eq_true p110; replace q110 := eq_true q110
            refine start_ (n := 13) (S := fun w' => w'.cell? ⟨ae, 0, none⟩ = some (.slice (some ad109) ab.length ag) ∧ w'.cell? ⟨ae, 1, none⟩ = some (.slice (some ad110) ac.length ah) ∧ w'.cell? ⟨ae, 2, none⟩ = some (.slice (some ad106) aa.length ai) ∧ w'.cell? ⟨al, 0, none⟩ = some (.int .i64 ((rd_T67 aa x23_1).f0)) ∧ w'.cell? ⟨al, 1, none⟩ = some (.bool ((rd_T67 aa x23_1).f1)) ∧ w'.cell? (ad109.add ((((rd_T67 aa x23_1).f0)).toNat * 3)) = some (.int .i64 ((rd_T61 ab ((rd_T67 aa x23_1).f0)).f0)) ∧ w'.cell? ⟨(ad109.add ((((rd_T67 aa x23_1).f0)).toNat * 3)).block, (ad109.add ((((rd_T67 aa x23_1).f0)).toNat * 3)).off + 1, none⟩ = some (.int .i64 ((rd_T61 ab ((rd_T67 aa x23_1).f0)).f1)) ∧ w'.cell? ⟨(ad109.add ((((rd_T67 aa x23_1).f0)).toNat * 3)).block, (ad109.add ((((rd_T67 aa x23_1).f0)).toNat * 3)).off + 2, none⟩ = some (.int .i64 ((rd_T61 ab ((rd_T67 aa x23_1).f0)).f2)) ∧ w'.cell? (ad110.add ((x23_1).toNat * 3)) = some (.int .i64 ((rd_T61 ac x23_1).f0)) ∧ w'.cell? ⟨(ad110.add ((x23_1).toNat * 3)).block, (ad110.add ((x23_1).toNat * 3)).off + 1, none⟩ = some (.int .i64 ((rd_T61 ac x23_1).f1)) ∧ w'.cell? ⟨(ad110.add ((x23_1).toNat * 3)).block, (ad110.add ((x23_1).toNat * 3)).off + 2, none⟩ = some (.int .i64 ((rd_T61 ac x23_1).f2))) (ds := []) #[false, false, false, false, false, false, false, false, false, false, false, false, false] (by kernel_rfl) rfl rfl ⟨(blk_cell ad.out 0).trans rfl, (blk_cell ad.out 1).trans rfl, (blk_cell ad.out 2).trans rfl, (blk_cell af.out 0).trans rfl, (blk_cell af.out 1).trans rfl, ((HB.out.cell (World.block_lt_of_cell? w _ hw109_0)).trans hw109_0), ((HB.out.cell (World.block_lt_of_cell? w _ hw109_1)).trans hw109_1), ((HB.out.cell (World.block_lt_of_cell? w _ hw109_2)).trans hw109_2), ((HB.out.cell (World.block_lt_of_cell? w _ hw110_0)).trans hw110_0), ((HB.out.cell (World.block_lt_of_cell? w _ hw110_1)).trans hw110_1), ((HB.out.cell (World.block_lt_of_cell? w _ hw110_2)).trans hw110_2)⟩ (fun hHeld => ?_); refine with_tabW edit_Fewest.tab10 edit_Fewest.bits10 (fun HT_ HW_ => ?_)
            generalize w24.drew = w25 at ad af HB hx109_0 hx109_1 hx109_2 hx110_0 hx110_1 hx110_2 hHeld ⊢
            refine pureQ 0 (some 35) HT_ ?_
            refine pureQ 2 (some 37) HT_ ?_
            refine pureQ 6 (some 41) HT_ ?_
            refine pureQ 8 (some 43) HT_ ?_
            refine takeQ (v := ?_) (a' := ?_) 1 (some 36) HT_ HW_ hHeld ?_ ?_ ?_
            rotate_left
            ·
             rintro w' ⟨s0, s1, s2, s3, s4, s5, s6, s7, s8, s9, s10⟩
             go_simp
             with_reducible rfl
            rotate_left
            ·
             exact putQ
            refine takeQ (v := ?_) (a' := ?_) 3 (some 38) HT_ HW_ hHeld ?_ ?_ ?_
            rotate_left
            ·
             rintro w' ⟨s0, s1, s2, s3, s4, s5, s6, s7, s8, s9, s10⟩
             go_simp
             with_reducible rfl
            rotate_left
            ·
             exact putQ
            refine pureQ 4 (some 39) HT_ ?_
            refine takeQ (v := ?_) (a' := ?_) 5 (some 40) HT_ HW_ hHeld ?_ ?_ ?_
            rotate_left
            ·
             rintro w' ⟨s0, s1, s2, s3, s4, s5, s6, s7, s8, s9, s10⟩
             go_simp
             with_reducible rfl
            rotate_left
            ·
             exact putQ
            refine takeQ (v := ?_) (a' := ?_) 7 (some 42) HT_ HW_ hHeld ?_ ?_ ?_
            rotate_left
            ·
             rintro w' ⟨s0, s1, s2, s3, s4, s5, s6, s7, s8, s9, s10⟩
             go_simp
             with_reducible rfl
            rotate_left
            ·
             exact putQ
            refine pureQ 9 (some 44) HT_ ?_
            refine takeQ (v := ?_) (a' := ?_) 10 (some 45) HT_ HW_ hHeld ?_ ?_ ?_
            rotate_left
            ·
             rintro w' ⟨s0, s1, s2, s3, s4, s5, s6, s7, s8, s9, s10⟩
             go_simp
             with_reducible rfl
            rotate_left
            ·
             exact putQ
            refine pureQ 11 (some 46) HT_ ?_
            refine pureQ 12 (some 34) HT_ ?_
            refine done_ (done_of HT_.out (by kernel_rfl)) ?_
            try go_wp2
            go_roundg k1
            case measure => have := HK1.out; omega
            case rel => exact ⟨(wrap64 (x5_1 - 1)), (wrap64 (x23_1 + 1)), zqQ, zqQ, H', ⟨by have := HK1.out; omega⟩, ⟨zqB ad.out⟩, ⟨zqH HB.out am.out ap.out⟩⟩
           ·
            rw [if_neg c20] at H
            have c20b0 : (((rd_T61 ab ((rd_T67 aa x23_1).f0)).f0) == ((rd_T61 ac x23_1).f0) && (((rd_T61 ab ((rd_T67 aa x23_1).f0)).f1) == ((rd_T61 ac x23_1).f1) && (((rd_T61 ab ((rd_T67 aa x23_1).f0)).f2) == ((rd_T61 ac x23_1).f2)))) = false := by simpa using c20
            (try (have c20b1 : decide (((rd_T61 ab ((rd_T67 aa x23_1).f0)).f0) = ((rd_T61 ac x23_1).f0) && (((rd_T61 ab ((rd_T67 aa x23_1).f0)).f1) == ((rd_T61 ac x23_1).f1) && (((rd_T61 ab ((rd_T67 aa x23_1).f0)).f2) == ((rd_T61 ac x23_1).f2)))) = false := by simpa using c20))
            (try (have c20b2 : (((rd_T61 ab ((rd_T67 aa x23_1).f0)).f0) == ((rd_T61 ac x23_1).f0) && (((rd_T61 ab ((rd_T67 aa x23_1).f0)).f1) == ((rd_T61 ac x23_1).f1) && (((rd_T61 ab ((rd_T67 aa x23_1).f0)).f2) == ((rd_T61 ac x23_1).f2)))) = false := by simpa using c20))
            (try (have c20b3 : ¬ (((rd_T61 ab ((rd_T67 aa x23_1).f0)).f0) = ((rd_T61 ac x23_1).f0) && (((rd_T61 ab ((rd_T67 aa x23_1).f0)).f1) == ((rd_T61 ac x23_1).f1) && (((rd_T61 ab ((rd_T67 aa x23_1).f0)).f2) == ((rd_T61 ac x23_1).f2)))) := by simpa using c20))
            clear c20
            have H' := zA H
            clear H
            have p106 : 0 ≤ (x23_1 : Int) := of_decide_eq_true (zqD)
            have q106 : x23_1 < (aa.length : Int) := of_decide_eq_true (zqD)
            obtain ⟨ad106, e106, hx106_0, hx106_1⟩ := at_T67 aq.out x23_1 p106 q106
            cases e106
            replace hx106_0 := (HB.out.cell (World.block_lt_of_cell? w _ hx106_0)).trans hx106_0
            replace hx106_1 := (HB.out.cell (World.block_lt_of_cell? w _ hx106_1)).trans hx106_1
            replace p106 := eq_true p106; replace q106 := eq_true q106
            try go_wp2_with (first | ((with_reducible refine gate_dst (N := 7) rfl ?_); refine box_event ?hg (N := 7) ?hd (cs := #[.int .i64 0, .bool false]) (t := 67) ?hr ?_; (case hd => rfl); (case hg => rfl); (case hr => first | (go_simp; done) | (go_simp; rfl)); intro al hg w26 hbox hb; have af := zA (hbox); have aF := zA ((by rw [hg]; exact (below_size (zqG HB.out am.out)) : w.heap.size ≤ al)); have ap := zA ((by rw [hg]; exact (below_size (zqG HB.out am.out)) : w.heap.size ≤ al)); replace HB := zA (below_step (zqG HB.out am.out) hb); have ao := zA ((by rw [hg]; exact Nat.ne_of_lt (blk_lt (g := ae) (o := .cells #[.slice aj ab.length ag, .slice ak ac.length ah, .slice (some ad106) aa.length ai] 28 (0, 0)) (zqB ad.out)) : ae ≠ al)); have av := zA ((by rw [hg]; exact Nat.ne_of_gt (blk_lt (g := ae) (o := .cells #[.slice aj ab.length ag, .slice ak ac.length ah, .slice (some ad106) aa.length ai] 28 (0, 0)) (zqB ad.out)) : al ≠ ae)); replace ad := zA (blk_below (g := ae) (o := .cells #[.slice aj ab.length ag, .slice ak ac.length ah, .slice (some ad106) aa.length ai] 28 (0, 0)) (zqB ad.out) hb); clear hb hbox hg; have hnb27 := av.out; have hnc27 := ao.out; have hcz28_0 : w26.cell? ⟨al, 0, none⟩ = some (.int .i64 0) := (blk_cell af.out 0).trans rfl; have hcz28_1 : w26.cell? ⟨al, 1, none⟩ = some (.bool false) := (blk_cell af.out 1).trans rfl; have hfz28_0 := blk_frozen af.out 0; have hfz28_1 := blk_frozen af.out 1) | ((with_reducible refine gate_callee (f := 71) rfl ?_); refine goesL_ (some 30) rfl rfl Try.func71 (by kernel_rfl) rfl #[.agg #[.int .i64 ((rd_T67 aa x23_1).f0), .bool ((rd_T67 aa x23_1).f1)]] rfl zqE ?_; (with_reducible refine (edit_Origin_self.calls ((rd_T67 aa x23_1).f0) ((rd_T67 aa x23_1).f1) true _ A15.out).mono ?_); rintro e w29 ⟨rfl, hb⟩; refine ⟨_, rfl, ?_⟩; replace ad := zA (blk_below (g := ae) (o := .cells #[.slice aj ab.length ag, .slice ak ac.length ah, .slice (some ad106) aa.length ai] 28 (0, 0)) (by (with_reducible repeat (first | refine blk_drewN ?_ _ | refine blk_drew ?_ | refine blk_alloc ?_ _)); refine blk_far ?_ ao.out _; (with_reducible repeat (first | refine blk_drewN ?_ _ | refine blk_drew ?_ | refine blk_alloc ?_ _)); refine blk_far ?_ ao.out _; (with_reducible repeat (first | refine blk_drewN ?_ _ | refine blk_drew ?_ | refine blk_alloc ?_ _)); exact ad.out) hb); replace af := zA (blk_below (g := al) (o := .cells #[.int .i64 ((rd_T67 aa x23_1).f0), .bool ((rd_T67 aa x23_1).f1)] 67 (0, 0)) (by (with_reducible repeat (first | refine blk_drewN ?_ _ | refine blk_drew ?_ | refine blk_alloc ?_ _)); refine blk_put (cs := #[.int .i64 ((rd_T67 aa x23_1).f0), .bool false]) ?_ 1 _ rfl; (with_reducible repeat (first | refine blk_drewN ?_ _ | refine blk_drew ?_ | refine blk_alloc ?_ _)); refine blk_put (cs := #[.int .i64 0, .bool false]) ?_ 0 _ rfl; (with_reducible repeat (first | refine blk_drewN ?_ _ | refine blk_drew ?_ | refine blk_alloc ?_ _)); exact af.out) hb); replace HB := zA (below_step (zqH HB.out am.out ap.out) hb); (try clear hb); (try clear hb2); (try clear hk); (try clear hi)))
            replace ad := zA (blk_drew ad.out)
            replace af := zA (blk_drew af.out)
            replace HB := zA (below_drew1 HB.out)
            have p109 : 0 ≤ (((rd_T67 aa x23_1).f0) : Int) := of_decide_eq_true (zqD)
            have q109 : ((rd_T67 aa x23_1).f0) < (ab.length : Int) := of_decide_eq_true (zqD)
            obtain ⟨ad109, e109, hx109_0, hx109_1, hx109_2⟩ := at_T61 ar.out ((rd_T67 aa x23_1).f0) p109 q109
            have hw109_2 := hx109_2; have hw109_1 := hx109_1; have hw109_0 := hx109_0; cases e109
            replace hx109_0 := (HB.out.cell (World.block_lt_of_cell? w _ hx109_0)).trans hx109_0
            replace hx109_1 := (HB.out.cell (World.block_lt_of_cell? w _ hx109_1)).trans hx109_1
            replace hx109_2 := (HB.out.cell (World.block_lt_of_cell? w _ hx109_2)).trans hx109_2
            replace p109 := eq_true p109; replace q109 := eq_true q109
            have p110 : 0 ≤ (x23_1 : Int) := of_decide_eq_true (zqD)
            have q110 : x23_1 < (ac.length : Int) := of_decide_eq_true (zqD)
            obtain ⟨ad110, e110, hx110_0, hx110_1, hx110_2⟩ := at_T61 au.out x23_1 p110 q110
            have hw110_2 := hx110_2; have hw110_1 := hx110_1; have hw110_0 := hx110_0; cases e110
            replace hx110_0 := (HB.out.cell (World.block_lt_of_cell? w _ hx110_0)).trans hx110_0
            replace hx110_1 := (HB.out.cell (World.block_lt_of_cell? w _ hx110_1)).trans hx110_1
            replace hx110_2 := (HB.out.cell (World.block_lt_of_cell? w _ hx110_2)).trans hx110_2
            replace p110 := eq_true p110; replace q110 := eq_true q110
            refine start_ (n := 13) (S := fun w' => w'.cell? ⟨ae, 0, none⟩ = some (.slice (some ad109) ab.length ag) ∧ w'.cell? ⟨ae, 1, none⟩ = some (.slice (some ad110) ac.length ah) ∧ w'.cell? ⟨ae, 2, none⟩ = some (.slice (some ad106) aa.length ai) ∧ w'.cell? ⟨al, 0, none⟩ = some (.int .i64 ((rd_T67 aa x23_1).f0)) ∧ w'.cell? ⟨al, 1, none⟩ = some (.bool ((rd_T67 aa x23_1).f1)) ∧ w'.cell? (ad109.add ((((rd_T67 aa x23_1).f0)).toNat * 3)) = some (.int .i64 ((rd_T61 ab ((rd_T67 aa x23_1).f0)).f0)) ∧ w'.cell? ⟨(ad109.add ((((rd_T67 aa x23_1).f0)).toNat * 3)).block, (ad109.add ((((rd_T67 aa x23_1).f0)).toNat * 3)).off + 1, none⟩ = some (.int .i64 ((rd_T61 ab ((rd_T67 aa x23_1).f0)).f1)) ∧ w'.cell? ⟨(ad109.add ((((rd_T67 aa x23_1).f0)).toNat * 3)).block, (ad109.add ((((rd_T67 aa x23_1).f0)).toNat * 3)).off + 2, none⟩ = some (.int .i64 ((rd_T61 ab ((rd_T67 aa x23_1).f0)).f2)) ∧ w'.cell? (ad110.add ((x23_1).toNat * 3)) = some (.int .i64 ((rd_T61 ac x23_1).f0)) ∧ w'.cell? ⟨(ad110.add ((x23_1).toNat * 3)).block, (ad110.add ((x23_1).toNat * 3)).off + 1, none⟩ = some (.int .i64 ((rd_T61 ac x23_1).f1)) ∧ w'.cell? ⟨(ad110.add ((x23_1).toNat * 3)).block, (ad110.add ((x23_1).toNat * 3)).off + 2, none⟩ = some (.int .i64 ((rd_T61 ac x23_1).f2))) (ds := []) #[false, false, false, false, false, false, false, false, false, false, false, false, false] (by kernel_rfl) rfl rfl ⟨(blk_cell ad.out 0).trans rfl, (blk_cell ad.out 1).trans rfl, (blk_cell ad.out 2).trans rfl, (blk_cell af.out 0).trans rfl, (blk_cell af.out 1).trans rfl, ((HB.out.cell (World.block_lt_of_cell? w _ hw109_0)).trans hw109_0), ((HB.out.cell (World.block_lt_of_cell? w _ hw109_1)).trans hw109_1), ((HB.out.cell (World.block_lt_of_cell? w _ hw109_2)).trans hw109_2), ((HB.out.cell (World.block_lt_of_cell? w _ hw110_0)).trans hw110_0), ((HB.out.cell (World.block_lt_of_cell? w _ hw110_1)).trans hw110_1), ((HB.out.cell (World.block_lt_of_cell? w _ hw110_2)).trans hw110_2)⟩ (fun hHeld => ?_); refine with_tabW edit_Fewest.tab10 edit_Fewest.bits10 (fun HT_ HW_ => ?_)
            generalize w29.drew = w30 at ad af HB hx109_0 hx109_1 hx109_2 hx110_0 hx110_1 hx110_2 hHeld ⊢
            refine pureQ 0 (some 35) HT_ ?_
            refine pureQ 2 (some 37) HT_ ?_
            refine pureQ 6 (some 41) HT_ ?_
            refine pureQ 8 (some 43) HT_ ?_
            refine takeQ (v := ?_) (a' := ?_) 1 (some 36) HT_ HW_ hHeld ?_ ?_ ?_
            rotate_left
            ·
             rintro w' ⟨s0, s1, s2, s3, s4, s5, s6, s7, s8, s9, s10⟩
             go_simp
             with_reducible rfl
            rotate_left
            ·
             exact putQ
            refine takeQ (v := ?_) (a' := ?_) 3 (some 38) HT_ HW_ hHeld ?_ ?_ ?_
            rotate_left
            ·
             rintro w' ⟨s0, s1, s2, s3, s4, s5, s6, s7, s8, s9, s10⟩
             go_simp
             with_reducible rfl
            rotate_left
            ·
             exact putQ
            refine pureQ 4 (some 39) HT_ ?_
            refine takeQ (v := ?_) (a' := ?_) 5 (some 40) HT_ HW_ hHeld ?_ ?_ ?_
            rotate_left
            ·
             rintro w' ⟨s0, s1, s2, s3, s4, s5, s6, s7, s8, s9, s10⟩
             go_simp
             with_reducible rfl
            rotate_left
            ·
             exact putQ
            refine takeQ (v := ?_) (a' := ?_) 7 (some 42) HT_ HW_ hHeld ?_ ?_ ?_
            rotate_left
            ·
             rintro w' ⟨s0, s1, s2, s3, s4, s5, s6, s7, s8, s9, s10⟩
             go_simp
             with_reducible rfl
            rotate_left
            ·
             exact putQ
            refine pureQ 9 (some 44) HT_ ?_
            refine takeQ (v := ?_) (a' := ?_) 10 (some 45) HT_ HW_ hHeld ?_ ?_ ?_
            rotate_left
            ·
             rintro w' ⟨s0, s1, s2, s3, s4, s5, s6, s7, s8, s9, s10⟩
             go_simp
             with_reducible rfl
            rotate_left
            ·
             exact putQ
            refine pureQ 11 (some 46) HT_ ?_
            refine pureQ 12 (some 34) HT_ ?_
            refine done_ (done_of HT_.out (by kernel_rfl)) ?_
            try go_wp2
            go_roundg k1
            case measure => have := HK1.out; omega
            case rel => exact ⟨(x5_1), (wrap64 (x23_1 + 1)), zqQ, zqQ, H', ⟨by have := HK1.out; omega⟩, ⟨zqB ad.out⟩, ⟨zqH HB.out am.out ap.out⟩⟩
          ·
           rw [if_neg c19] at H
           exact absurd H (by simp)
         ·
          rw [if_neg c18] at H
          exact absurd H (by simp)
        ·
         rw [if_neg c17] at H
         exact absurd H (by simp)
       ·
        replace c16 := Bool.eq_false_iff.mpr c16
        subst c16
        have H1 : (edit_Fewest.l0 k1 (wrap64 (x5_1 + 1)) aa (aa.length : Int) (wrap64 (x23_1 + 1)) ab ac aa) = some (r1, r2) := by rw [if_neg (show ¬ (false = true) by decide)] at H; exact H
        clear H; have H := H1; clear H1
        have H' := zA H
        clear H
        have p106 : 0 ≤ (x23_1 : Int) := of_decide_eq_true (zqD)
        have q106 : x23_1 < (aa.length : Int) := of_decide_eq_true (zqD)
        obtain ⟨ad106, e106, hx106_0, hx106_1⟩ := at_T67 aq.out x23_1 p106 q106
        cases e106
        replace hx106_0 := (HB.out.cell (World.block_lt_of_cell? w _ hx106_0)).trans hx106_0
        replace hx106_1 := (HB.out.cell (World.block_lt_of_cell? w _ hx106_1)).trans hx106_1
        replace p106 := eq_true p106; replace q106 := eq_true q106
        go_wp2_with (first | ((with_reducible refine gate_dst (N := 7) rfl ?_); refine box_event ?hg (N := 7) ?hd (cs := #[.int .i64 0, .bool false]) (t := 67) ?hr ?_; (case hd => rfl); (case hg => rfl); (case hr => first | (go_simp; done) | (go_simp; rfl)); intro al hg w31 hbox hb; have af := zA (hbox); have aF := zA ((by rw [hg]; exact (below_size (zqG HB.out am.out)) : w.heap.size ≤ al)); have ap := zA ((by rw [hg]; exact (below_size (zqG HB.out am.out)) : w.heap.size ≤ al)); replace HB := zA (below_step (zqG HB.out am.out) hb); have ao := zA ((by rw [hg]; exact Nat.ne_of_lt (blk_lt (g := ae) (o := .cells #[.slice aj ab.length ag, .slice ak ac.length ah, .slice (some ad106) aa.length ai] 28 (0, 0)) (zqB ad.out)) : ae ≠ al)); have av := zA ((by rw [hg]; exact Nat.ne_of_gt (blk_lt (g := ae) (o := .cells #[.slice aj ab.length ag, .slice ak ac.length ah, .slice (some ad106) aa.length ai] 28 (0, 0)) (zqB ad.out)) : al ≠ ae)); replace ad := zA (blk_below (g := ae) (o := .cells #[.slice aj ab.length ag, .slice ak ac.length ah, .slice (some ad106) aa.length ai] 28 (0, 0)) (zqB ad.out) hb); clear hb hbox hg; have hnb32 := av.out; have hnc32 := ao.out; have hcz33_0 : w31.cell? ⟨al, 0, none⟩ = some (.int .i64 0) := (blk_cell af.out 0).trans rfl; have hcz33_1 : w31.cell? ⟨al, 1, none⟩ = some (.bool false) := (blk_cell af.out 1).trans rfl; have hfz33_0 := blk_frozen af.out 0; have hfz33_1 := blk_frozen af.out 1) | ((with_reducible refine gate_callee (f := 71) rfl ?_); refine goesL_ (some 30) rfl rfl Try.func71 (by kernel_rfl) rfl #[.agg #[.int .i64 ((rd_T67 aa x23_1).f0), .bool ((rd_T67 aa x23_1).f1)]] rfl zqE ?_; (with_reducible refine (edit_Origin_self.calls ((rd_T67 aa x23_1).f0) ((rd_T67 aa x23_1).f1) false _ A15.out).mono ?_); rintro e w34 ⟨rfl, hb⟩; refine ⟨_, rfl, ?_⟩; replace ad := zA (blk_below (g := ae) (o := .cells #[.slice aj ab.length ag, .slice ak ac.length ah, .slice (some ad106) aa.length ai] 28 (0, 0)) (by (with_reducible repeat (first | refine blk_drewN ?_ _ | refine blk_drew ?_ | refine blk_alloc ?_ _)); refine blk_far ?_ ao.out _; (with_reducible repeat (first | refine blk_drewN ?_ _ | refine blk_drew ?_ | refine blk_alloc ?_ _)); refine blk_far ?_ ao.out _; (with_reducible repeat (first | refine blk_drewN ?_ _ | refine blk_drew ?_ | refine blk_alloc ?_ _)); exact ad.out) hb); replace af := zA (blk_below (g := al) (o := .cells #[.int .i64 ((rd_T67 aa x23_1).f0), .bool ((rd_T67 aa x23_1).f1)] 67 (0, 0)) (by (with_reducible repeat (first | refine blk_drewN ?_ _ | refine blk_drew ?_ | refine blk_alloc ?_ _)); refine blk_put (cs := #[.int .i64 ((rd_T67 aa x23_1).f0), .bool false]) ?_ 1 _ rfl; (with_reducible repeat (first | refine blk_drewN ?_ _ | refine blk_drew ?_ | refine blk_alloc ?_ _)); refine blk_put (cs := #[.int .i64 0, .bool false]) ?_ 0 _ rfl; (with_reducible repeat (first | refine blk_drewN ?_ _ | refine blk_drew ?_ | refine blk_alloc ?_ _)); exact af.out) hb); replace HB := zA (below_step (zqH HB.out am.out ap.out) hb); (try clear hb); (try clear hb2); (try clear hk); (try clear hi)))
        go_roundg k1
        case measure => have := HK1.out; omega
        case rel => exact ⟨(wrap64 (x5_1 + 1)), (wrap64 (x23_1 + 1)), zqQ, zqQ, H', ⟨by have := HK1.out; omega⟩, ⟨zqB ad.out⟩, ⟨zqH HB.out am.out ap.out⟩⟩
      ·
       rw [if_neg c14] at H
       exact absurd H (by simp)
     ·
      rw [if_neg c13] at H
      exact absurd H (by simp)
    ·
     rw [if_neg c12] at H
     have c12b0 : decide (x23_1 < (aa.length : Int)) = false := decide_eq_false c12
     clear c12
     simp only [Option.some.injEq, Prod.mk.injEq] at H
     obtain ⟨rfl, rfl⟩ := H
     go_wp2
     go_ret2
     exact ⟨zqR, zqG HB.out am.out⟩
 ·
  rw [if_neg c3] at H
  have c3b0 : (t102 == 0) = false := beq_eq_false_iff_ne.mpr c3
  have c3b1 : (t102 != 0) = true := bne_iff_ne.mpr c3
  simp only [Option.some.injEq, Prod.mk.injEq] at H
  obtain ⟨rfl, rfl⟩ := H
  go_enter Try.func41, Try.ntmps41
  go_wp2_with (first | ((with_reducible refine gate_dst (N := 1) rfl ?_); refine box_event ?hg (N := 1) ?hd (cs := #[.slice aj ab.length ag, .slice ak ac.length ah, .slice an aa.length ai]) (t := 28) ?hr ?_; (case hd => rfl); (case hg => rfl); (case hr => first | (go_simp; done) | (go_simp; rfl)); intro ae hg w35 hbox hb; have ad := zA (hbox); have GW101 := zA ((by rw [hg]; exact (below_size (zqA HB.out)) : w.heap.size ≤ ae)); have am := zA ((by rw [hg]; exact (below_size (zqA HB.out)) : w.heap.size ≤ ae)); replace HB := zA (below_step (zqA HB.out) hb); clear hb hbox hg; have hcz36_0 : w35.cell? ⟨ae, 0, none⟩ = some (.slice aj ab.length ag) := (blk_cell ad.out 0).trans rfl; have hcz36_1 : w35.cell? ⟨ae, 1, none⟩ = some (.slice ak ac.length ah) := (blk_cell ad.out 1).trans rfl; have hcz36_2 : w35.cell? ⟨ae, 2, none⟩ = some (.slice an aa.length ai) := (blk_cell ad.out 2).trans rfl; have hfz36_0 := blk_frozen ad.out 0; have hfz36_1 := blk_frozen ad.out 1; have hfz36_2 := blk_frozen ad.out 2) | ((with_reducible refine gate_callee (f := 34) rfl ?_); refine goesL_ (some 9) rfl rfl Try.func34 (by kernel_rfl) rfl #[.agg #[.slice aj ab.length ag, .slice ak ac.length ah, .slice an aa.length ai]] rfl zqE ?_; (with_reducible refine (edit_CheckPatch.calls _ _ ab _ _ ac _ _ aa t102 _ ?side1 ?side2 ?side3 ?side4 ?side5 ?side6 A2.out).mono ?_); (case side1 => exact zqK (Kd.C_below ar.out HB.out)); (case side2 => exact aw.out); (case side3 => exact zqK (Kd.C_below au.out HB.out)); (case side4 => exact ax.out); (case side5 => exact zqK (Kd.C_below aq.out HB.out)); (case side6 => exact ay.out); rintro e w37 ⟨rfl, hb⟩; refine ⟨_, rfl, ?_⟩; replace ad := zA (blk_below (g := ae) (o := .cells #[.slice aj ab.length ag, .slice ak ac.length ah, .slice an aa.length ai] 28 (0, 0)) (zqB ad.out) hb); replace HB := zA (below_step (zqG HB.out am.out) hb); (try clear hb); (try clear hb2); (try clear hk); (try clear hi)))
  go_ret2
  exact ⟨zqR, zqG HB.out am.out⟩
def edit_both.f (k : Nat) (l0_0 : List (S61)) (l0_1 : List (S61)) (l0_2 : List (S67)) (l1_0 : List (S61)) (l1_1 : List (S61)) (l1_2 : List (S67)) : Option ((List (S108)) × Int) := (edit_CheckPatch.f l0_0 l0_1 l0_2).bind fun t433 => ((edit_CheckPatch.f l1_0 l1_1 l1_2).bind fun t434 => ((api_Errno.f k (([t433, t434] : List Int))).bind fun t438 => (if t438 = 0 then ((edit_Note.f k l0_0 l1_0).bind fun t439 => (if t439 = true then ((edit_meet.f k l0_0 l0_1 l0_2 l1_0 l1_1 l1_2).bind fun bt440 => (some (bt440.1, bt440.2))) else (some (([] : List (S108)), 6)))) else (some (([] : List (S108)), t438)))))
set_option maxHeartbeats 8000000 in
set_option maxRecDepth 100000 in
theorem edit_both.calls (k : Nat) (al : Option Addr) (am : Nat) (ac : List (S61)) (an : Option Addr) (ao : Nat) (ae : List (S61)) (ap : Option Addr) (aq : Nat) (af : List (S67)) (au : Option Addr) (av : Nat) (ad : List (S61)) (aw : Option Addr) (ax : Nat) (ah : List (S61)) (ay : Option Addr) (az : Nat) (ai : List (S67)) (r1 : List (S108)) (r2 : Int) (w : World) (aR : Kd.C k61 w al ac.length ac) (aS : ac.length ≤ am) (aT : Kd.C k61 w an ae.length ae) (aU : ae.length ≤ ao) (aV : Kd.C k67 w ap af.length af) (aW : af.length ≤ aq) (aX : Kd.C k61 w au ad.length ad) (aY : ad.length ≤ av) (aZ : Kd.C k61 w aw ah.length ah) (a0 : ah.length ≤ ax) (a1 : Kd.C k67 w ay ai.length ai) (a2 : ai.length ≤ az) (h : edit_both.f k ac ae af ad ah ai = some (r1, r2)) :
  Calls Try.prog 63 #[.agg #[.slice al ac.length am, .slice an ae.length ao, .slice ap af.length aq], .agg #[.slice au ad.length av, .slice aw ah.length ax, .slice ay ai.length az]] w fun e w' => ∃ v0_ : Value, e = .returned (.tuple #[v0_, .int .i64 r2]) ∧ Kd.R k108 108 w' w.heap.size (fun _ => True) v0_ r1 ∧ Below w.heap.size w w' := by
 have hu28 := Try.underlying28
 have aB := zA aR
 have aC := zA aS
 clear aR aS
 have aG := zA aT
 have aH := zA aU
 clear aT aU
 have aI := zA aV
 have aJ := zA aW
 clear aV aW
 have aD := zA aX
 have aE := zA aY
 clear aX aY
 have aK := zA aZ
 have aL := zA a0
 clear aZ a0
 have aM := zA a1
 have aN := zA a2
 clear a1 a2
 have HB := zA (Below.refl w.heap.size w)
 have H : ((edit_CheckPatch.f ac ae af).bind fun t433 => ((edit_CheckPatch.f ad ah ai).bind fun t434 => ((api_Errno.f k (([t433, t434] : List Int))).bind fun t438 => (if t438 = 0 then ((edit_Note.f k ac ad).bind fun t439 => (if t439 = true then ((edit_meet.f k ac ae af ad ah ai).bind fun bt440 => (some (bt440.1, bt440.2))) else (some (([] : List (S108)), 6)))) else (some (([] : List (S108)), t438)))))) = some (r1, r2) := h
 clear h
 replace H := Option.bind_eq_some_iff.mp H
 obtain ⟨t433, A30, H⟩ := H
 replace H : ((edit_CheckPatch.f ad ah ai).bind fun t434 => ((api_Errno.f k (([t433, t434] : List Int))).bind fun t438 => (if t438 = 0 then ((edit_Note.f k ac ad).bind fun t439 => (if t439 = true then ((edit_meet.f k ac ae af ad ah ai).bind fun bt440 => (some (bt440.1, bt440.2))) else (some (([] : List (S108)), 6)))) else (some (([] : List (S108)), t438))))) = some (r1, r2) := H
 have A3 := zA A30
 clear A30
 replace H := Option.bind_eq_some_iff.mp H
 obtain ⟨t434, A40, H⟩ := H
 replace H : ((api_Errno.f k (([t433, t434] : List Int))).bind fun t438 => (if t438 = 0 then ((edit_Note.f k ac ad).bind fun t439 => (if t439 = true then ((edit_meet.f k ac ae af ad ah ai).bind fun bt440 => (some (bt440.1, bt440.2))) else (some (([] : List (S108)), 6)))) else (some (([] : List (S108)), t438)))) = some (r1, r2) := H
 have A4 := zA A40
 clear A40
 obtain ⟨y435, aQ⟩ : ∃ y_ : List Int, y_ = (([t433, t434] : List Int)) := ⟨_, rfl⟩
 replace H : ((api_Errno.f k y435).bind fun t438 => (if t438 = 0 then ((edit_Note.f k ac ad).bind fun t439 => (if t439 = true then ((edit_meet.f k ac ae af ad ah ai).bind fun bt440 => (some (bt440.1, bt440.2))) else (some (([] : List (S108)), 6)))) else (some (([] : List (S108)), t438)))) = some (r1, r2) := zqF aQ H
 have aF := zA aQ
 clear aQ
 replace H := Option.bind_eq_some_iff.mp H
 obtain ⟨t438, A50, H⟩ := H
 replace H : (if t438 = 0 then ((edit_Note.f k ac ad).bind fun t439 => (if t439 = true then ((edit_meet.f k ac ae af ad ah ai).bind fun bt440 => (some (bt440.1, bt440.2))) else (some (([] : List (S108)), 6)))) else (some (([] : List (S108)), t438))) = some (r1, r2) := H
 have A5 := zA A50
 clear A50
 by_cases c6 : t438 = 0
 ·
  rw [if_pos c6] at H
  have c6b0 : (t438 == 0) = true := beq_iff_eq.mpr c6
  have c6b1 : (t438 != 0) = false := bne_eq_false_iff_eq.mpr c6
  clear c6
  replace H := Option.bind_eq_some_iff.mp H
  obtain ⟨t439, A70, H⟩ := H
  replace H : (if t439 = true then ((edit_meet.f k ac ae af ad ah ai).bind fun bt440 => (some (bt440.1, bt440.2))) else (some (([] : List (S108)), 6))) = some (r1, r2) := H
  have A7 := zA A70
  clear A70
  by_cases c8 : t439 = true
  ·
   subst c8
   have H1 : ((edit_meet.f k ac ae af ad ah ai).bind fun bt440 => (some (bt440.1, bt440.2))) = some (r1, r2) := by rw [if_pos rfl] at H; exact H
   clear H; have H := H1; clear H1
   replace H := Option.bind_eq_some_iff.mp H
   obtain ⟨⟨t440, t443⟩, A90, H⟩ := H
   replace H : (some (t440, t443)) = some (r1, r2) := H
   have A9 := zA A90
   clear A90
   simp only [Option.some.injEq, Prod.mk.injEq] at H
   obtain ⟨rfl, rfl⟩ := H
   go_enter Try.func63, Try.ntmps63
   try go_wp2_with (first | ((with_reducible refine gate_dst (N := 2) rfl ?_); refine box_event ?hg (N := 2) ?hd (cs := #[.slice al ac.length am, .slice an ae.length ao, .slice ap af.length aq]) (t := 28) ?hr ?_; (case hd => rfl); (case hg => rfl); (case hr => first | (go_simp; done) | (go_simp; rfl)); intro ag hg w10 hbox hb; have aa := zA (hbox); have a3 := zA ((by rw [hg]; exact (below_size (zqA HB.out)) : w.heap.size ≤ ag)); have ak := zA ((by rw [hg]; exact (below_size (zqA HB.out)) : w.heap.size ≤ ag)); replace HB := zA (below_step (zqA HB.out) hb); clear hb hbox hg) | ((with_reducible refine gate_dst (N := 3) rfl ?_); refine box_event ?hg (N := 3) ?hd (cs := #[.slice au ad.length av, .slice aw ah.length ax, .slice ay ai.length az]) (t := 28) ?hr ?_; (case hd => rfl); (case hg => rfl); (case hr => first | (go_simp; done) | (go_simp; rfl)); intro aj hg w11 hbox hb; have ab := zA (hbox); have a4 := zA ((by rw [hg]; exact (below_size (zqG HB.out ak.out)) : w.heap.size ≤ aj)); have ar := zA ((by rw [hg]; exact (below_size (zqG HB.out ak.out)) : w.heap.size ≤ aj)); replace HB := zA (below_step (zqG HB.out ak.out) hb); have aO := zA ((by rw [hg]; exact Nat.ne_of_lt (blk_lt (g := ag) (o := .cells #[.slice al ac.length am, .slice an ae.length ao, .slice ap af.length aq] 28 (0, 0)) (zqB aa.out)) : ag ≠ aj)); have aP := zA ((by rw [hg]; exact Nat.ne_of_gt (blk_lt (g := ag) (o := .cells #[.slice al ac.length am, .slice an ae.length ao, .slice ap af.length aq] 28 (0, 0)) (zqB aa.out)) : aj ≠ ag)); replace aa := zA (blk_below (g := ag) (o := .cells #[.slice al ac.length am, .slice an ae.length ao, .slice ap af.length aq] 28 (0, 0)) (zqB aa.out) hb); clear hb hbox hg))
   replace aa := zA (blk_drew aa.out)
   replace ab := zA (blk_drew ab.out)
   replace HB := zA (below_drew1 HB.out)
   refine start_ (n := 7) (S := fun w' => w'.cell? ⟨ag, 0, none⟩ = some (.slice al ac.length am) ∧ w'.cell? ⟨ag, 1, none⟩ = some (.slice an ae.length ao) ∧ w'.cell? ⟨ag, 2, none⟩ = some (.slice ap af.length aq) ∧ w'.cell? ⟨aj, 0, none⟩ = some (.slice au ad.length av) ∧ w'.cell? ⟨aj, 1, none⟩ = some (.slice aw ah.length ax) ∧ w'.cell? ⟨aj, 2, none⟩ = some (.slice ay ai.length az)) (ds := []) #[false, false, false, false, false, false, false] (by kernel_rfl) rfl rfl ⟨(blk_cell aa.out 0).trans rfl, (blk_cell aa.out 1).trans rfl, (blk_cell aa.out 2).trans rfl, (blk_cell ab.out 0).trans rfl, (blk_cell ab.out 1).trans rfl, (blk_cell ab.out 2).trans rfl⟩ (fun hHeld => ?_)
   generalize w11.drew = w12 at aa ab HB hHeld ⊢
   refine take_ (i := 0) (N := some 7) (v := ?_) (a' := ?_) #[true, false, false, false, false, false, false] rfl rfl (by kernel_rfl) (fun _ _ _ h => h) (Or.inl ⟨by rfl, ?_⟩) hHeld ?_ ?_
   rotate_left
   ·
    rintro w' ⟨s0, s1, s2, s3, s4, s5⟩
    go_simp
    with_reducible rfl
   rotate_left
   ·
    exact putQ
   refine take_ (i := 2) (N := some 9) (v := ?_) (a' := ?_) #[true, false, true, false, false, false, false] rfl rfl (by kernel_rfl) (fun _ _ _ h => h) (Or.inl ⟨by rfl, ?_⟩) hHeld ?_ ?_
   rotate_left
   ·
    rintro w' ⟨s0, s1, s2, s3, s4, s5⟩
    go_simp
    with_reducible rfl
   rotate_left
   ·
    exact putQ
   refine one_ (i := 1) (N := some 8) #[true, true, true, false, false, false, false] rfl rfl (by kernel_rfl) (by decide) (fun K hK => ?_)
   refine goes_ Try.func34 (by kernel_rfl) rfl #[.agg #[.slice al ac.length am, .slice an ae.length ao, .slice ap af.length aq]] (by rfl) rfl rfl zqE ?_
   with_reducible refine (edit_CheckPatch.calls _ _ ac _ _ ae _ _ af t433 _ ?side1 ?side2 ?side3 ?side4 ?side5 ?side6 A3.out).mono ?_
   (case side1 => exact zqK (Kd.C_below aB.out HB.out))
   (case side2 => exact aC.out)
   (case side3 => exact zqK (Kd.C_below aG.out HB.out))
   (case side4 => exact aH.out)
   (case side5 => exact zqK (Kd.C_below aI.out HB.out))
   (case side6 => exact aJ.out)
   rintro e w13 ⟨rfl, hb⟩
   refine ⟨_, rfl, ?_⟩
   replace aa := zA (blk_below (g := ag) (o := .cells #[.slice al ac.length am, .slice an ae.length ao, .slice ap af.length aq] 28 (0, 0)) (zqB aa.out) hb)
   replace ab := zA (blk_below (g := aj) (o := .cells #[.slice au ad.length av, .slice aw ah.length ax, .slice ay ai.length az] 28 (0, 0)) (zqB ab.out) hb)
   replace HB := zA (below_step (zqH HB.out ak.out ar.out) hb)
   refine hK.out _ _ ⟨(blk_cell aa.out 0).trans rfl, (blk_cell aa.out 1).trans rfl, (blk_cell aa.out 2).trans rfl, (blk_cell ab.out 0).trans rfl, (blk_cell ab.out 1).trans rfl, (blk_cell ab.out 2).trans rfl⟩ (fun hHeld => ?_)
   clear hK K
   refine normQ ?_
   refine one_ (i := 3) (N := some 10) #[true, true, true, true, false, false, false] rfl rfl (by kernel_rfl) (by decide) (fun K hK => ?_)
   refine goes_ Try.func34 (by kernel_rfl) rfl #[.agg #[.slice au ad.length av, .slice aw ah.length ax, .slice ay ai.length az]] (by rfl) rfl rfl zqE ?_
   with_reducible refine (edit_CheckPatch.calls _ _ ad _ _ ah _ _ ai t434 _ ?side1 ?side2 ?side3 ?side4 ?side5 ?side6 A4.out).mono ?_
   (case side1 => exact zqK (Kd.C_below aD.out HB.out))
   (case side2 => exact aE.out)
   (case side3 => exact zqK (Kd.C_below aK.out HB.out))
   (case side4 => exact aL.out)
   (case side5 => exact zqK (Kd.C_below aM.out HB.out))
   (case side6 => exact aN.out)
   rintro e w14 ⟨rfl, hb⟩
   refine ⟨_, rfl, ?_⟩
   replace aa := zA (blk_below (g := ag) (o := .cells #[.slice al ac.length am, .slice an ae.length ao, .slice ap af.length aq] 28 (0, 0)) (zqB aa.out) hb)
   replace ab := zA (blk_below (g := aj) (o := .cells #[.slice au ad.length av, .slice aw ah.length ax, .slice ay ai.length az] 28 (0, 0)) (zqB ab.out) hb)
   replace HB := zA (below_step (zqH HB.out ak.out ar.out) hb)
   refine hK.out _ _ ⟨(blk_cell aa.out 0).trans rfl, (blk_cell aa.out 1).trans rfl, (blk_cell aa.out 2).trans rfl, (blk_cell ab.out 0).trans rfl, (blk_cell ab.out 1).trans rfl, (blk_cell ab.out 2).trans rfl⟩ (fun hHeld => ?_)
   clear hK K
   refine normQ ?_
   refine one_ (i := 4) (N := some 11) #[true, true, true, true, true, false, false] rfl rfl (by kernel_rfl) (by decide) (fun K hK => ?_)
   refine Kd.R_lit_step (Kd.int .i64) _ 29 ?hg (N := 11) ?hd (xs := ([t433, t434] : List Int)) (inner := [.int .i64 t433, .int .i64 t434]) (ok := fun _ => True) (okp := fun _ => True) ?hr ?hp (fun _ hk => hk) trivial (Below.refl _ _) (Nat.le_refl _) (by simp) ?_; (case hd => rfl); (case hg => rfl); (case hr => first | (go_simp; done) | (go_simp; rfl)); (case hp => exact (Reps.one (show Kd.M (Kd.int .i64) _ _ _ t433 [.int .i64 t433] from rfl) (Reps.one (show Kd.M (Kd.int .i64) _ _ _ t434 [.int .i64 t434] from rfl) (Reps.none _ _))))
   intro v436 w15 ho16 hb hg_ hnew_
   clear hg_ hnew_
   (first | rw [← aF.out] at ho16 | (simp only [Int.reduceToNat] at ho16; rw [← aF.out] at ho16))
   have aA := zA (Kd.R_lower ho16 (below_size (zqH HB.out ak.out ar.out)))
   replace aa := zA (blk_below (g := ag) (o := .cells #[.slice al ac.length am, .slice an ae.length ao, .slice ap af.length aq] 28 (0, 0)) (zqB aa.out) hb)
   replace ab := zA (blk_below (g := aj) (o := .cells #[.slice au ad.length av, .slice aw ah.length ax, .slice ay ai.length az] 28 (0, 0)) (zqB ab.out) hb)
   replace HB := zA (below_step (zqH HB.out ak.out ar.out) hb)
   clear hb ho16
   obtain ⟨Ao17, co17, eo17⟩ := Kd.R_slice aA.out
   (first | subst eo17 | (injection eo17 with f1_ f2_ f3_; have f4_ := f1_.symm; have f5_ := f3_.symm; clear f1_ f2_ f3_; subst f4_; subst f5_))
   refine hK.out _ _ ⟨(blk_cell aa.out 0).trans rfl, (blk_cell aa.out 1).trans rfl, (blk_cell aa.out 2).trans rfl, (blk_cell ab.out 0).trans rfl, (blk_cell ab.out 1).trans rfl, (blk_cell ab.out 2).trans rfl⟩ (fun hHeld => ?_)
   clear hK K
   refine normQ ?_
   refine one_ (i := 5) (N := some 12) #[true, true, true, true, true, true, false] rfl rfl (by kernel_rfl) (by decide) (fun K hK => ?_)
   refine goes_ Try.func58 (by kernel_rfl) rfl #[.slice Ao17 y435.length co17] (by rfl) rfl rfl zqE ?_
   with_reducible refine (api_Errno.calls k _ _ y435 t438 _ ?side1 ?side2 A5.out).mono ?_
   (case side1 => exact zqK (Kd.R_reads' aA.out).2.2)
   (case side2 => exact (Kd.R_reads' aA.out).2.1)
   rintro e w' ⟨rfl, ⟨nd, rfl⟩⟩
   refine ⟨_, rfl, ?_⟩
   refine hK.out _ _ ⟨(blk_cell aa.out 0).trans rfl, (blk_cell aa.out 1).trans rfl, (blk_cell aa.out 2).trans rfl, (blk_cell ab.out 0).trans rfl, (blk_cell ab.out 1).trans rfl, (blk_cell ab.out 2).trans rfl⟩ (fun hHeld => ?_)
   clear hK K
   refine normQ ?_
   refine pure_ (i := 6) (N := some 6) (v := ?_) (a' := ?_) #[true, true, true, true, true, true, true] rfl rfl (by kernel_rfl) (fun _ _ _ h => h) (Or.inl ⟨by rfl, ?_⟩) ?_ ?_
   rotate_left
   ·
    intro w'
    go_simp
    with_reducible rfl
   rotate_left
   ·
    exact putQ
   refine done_ (by kernel_rfl) ?_
   have hnb18 := aO.out
   have hnc18 := aP.out
   have hcz19_0 : w15.cell? ⟨ag, 0, none⟩ = some (.slice al ac.length am) := (blk_cell aa.out 0).trans rfl
   have hcz19_1 : w15.cell? ⟨ag, 1, none⟩ = some (.slice an ae.length ao) := (blk_cell aa.out 1).trans rfl
   have hcz19_2 : w15.cell? ⟨ag, 2, none⟩ = some (.slice ap af.length aq) := (blk_cell aa.out 2).trans rfl
   have hfz19_0 := blk_frozen aa.out 0
   have hfz19_1 := blk_frozen aa.out 1
   have hfz19_2 := blk_frozen aa.out 2
   have hcz20_0 : w15.cell? ⟨aj, 0, none⟩ = some (.slice au ad.length av) := (blk_cell ab.out 0).trans rfl
   have hcz20_1 : w15.cell? ⟨aj, 1, none⟩ = some (.slice aw ah.length ax) := (blk_cell ab.out 1).trans rfl
   have hcz20_2 : w15.cell? ⟨aj, 2, none⟩ = some (.slice ay ai.length az) := (blk_cell ab.out 2).trans rfl
   have hfz20_0 := blk_frozen ab.out 0
   have hfz20_1 := blk_frozen ab.out 1
   have hfz20_2 := blk_frozen ab.out 2
   try go_wp2_with (first | ((with_reducible refine gate_callee (f := 59) rfl ?_); refine goesL_ (some 20) rfl rfl Try.func59 (by kernel_rfl) rfl #[.slice al ac.length am, .slice au ad.length av] rfl zqE ?_; (with_reducible refine (edit_Note.calls k _ _ ac _ _ ad true _ ?side1 ?side2 ?side3 ?side4 A7.out).mono ?_); (case side1 => repeat (first | exact (Kd.C_below aB.out (zqH HB.out ak.out ar.out)) | (with_reducible refine Kd.C_alloc ?_ _) | (with_reducible refine Kd.C_drewN ?_ _) | (with_reducible refine Kd.C_drew ?_))); (case side2 => exact aC.out); (case side3 => repeat (first | exact (Kd.C_below aD.out (zqH HB.out ak.out ar.out)) | (with_reducible refine Kd.C_alloc ?_ _) | (with_reducible refine Kd.C_drewN ?_ _) | (with_reducible refine Kd.C_drew ?_))); (case side4 => exact aE.out); rintro e w' ⟨rfl, ⟨nd, rfl⟩⟩; refine ⟨_, rfl, ?_⟩) | ((with_reducible refine gate_callee (f := 93) rfl ?_); refine goesL_ (some 24) rfl rfl Try.func93 (by kernel_rfl) rfl #[.agg #[.slice al ac.length am, .slice an ae.length ao, .slice ap af.length aq], .agg #[.slice au ad.length av, .slice aw ah.length ax, .slice ay ai.length az]] rfl zqE ?_; (with_reducible refine (edit_meet.calls k _ _ ac _ _ ae _ _ af _ _ ad _ _ ah _ _ ai t440 t443 _ ?side1 ?side2 ?side3 ?side4 ?side5 ?side6 ?side7 ?side8 ?side9 ?side10 ?side11 ?side12 A9.out).mono ?_); (case side1 => repeat (first | exact (Kd.C_below aB.out (zqH HB.out ak.out ar.out)) | (with_reducible refine Kd.C_alloc ?_ _) | (with_reducible refine Kd.C_drewN ?_ _) | (with_reducible refine Kd.C_drew ?_))); (case side2 => exact aC.out); (case side3 => repeat (first | exact (Kd.C_below aG.out (zqH HB.out ak.out ar.out)) | (with_reducible refine Kd.C_alloc ?_ _) | (with_reducible refine Kd.C_drewN ?_ _) | (with_reducible refine Kd.C_drew ?_))); (case side4 => exact aH.out); (case side5 => repeat (first | exact (Kd.C_below aI.out (zqH HB.out ak.out ar.out)) | (with_reducible refine Kd.C_alloc ?_ _) | (with_reducible refine Kd.C_drewN ?_ _) | (with_reducible refine Kd.C_drew ?_))); (case side6 => exact aJ.out); (case side7 => repeat (first | exact (Kd.C_below aD.out (zqH HB.out ak.out ar.out)) | (with_reducible refine Kd.C_alloc ?_ _) | (with_reducible refine Kd.C_drewN ?_ _) | (with_reducible refine Kd.C_drew ?_))); (case side8 => exact aE.out); (case side9 => repeat (first | exact (Kd.C_below aK.out (zqH HB.out ak.out ar.out)) | (with_reducible refine Kd.C_alloc ?_ _) | (with_reducible refine Kd.C_drewN ?_ _) | (with_reducible refine Kd.C_drew ?_))); (case side10 => exact aL.out); (case side11 => repeat (first | exact (Kd.C_below aM.out (zqH HB.out ak.out ar.out)) | (with_reducible refine Kd.C_alloc ?_ _) | (with_reducible refine Kd.C_drewN ?_ _) | (with_reducible refine Kd.C_drew ?_))); (case side12 => exact aN.out); rintro e w21 ⟨v441, rfl, ho0, hb⟩; refine ⟨_, rfl, ?_⟩; replace aA := zA (Kd.R_below (zqC aA.out) hb); have HO442 := zA (Kd.R_lower ho0 (below_size (zqH HB.out ak.out ar.out))); replace aa := zA (blk_below (g := ag) (o := .cells #[.slice al ac.length am, .slice an ae.length ao, .slice ap af.length aq] 28 (0, 0)) (zqB aa.out) hb); replace ab := zA (blk_below (g := aj) (o := .cells #[.slice au ad.length av, .slice aw ah.length ax, .slice ay ai.length az] 28 (0, 0)) (zqB ab.out) hb); replace HB := zA (below_step (zqH HB.out ak.out ar.out) hb); (try clear hb); (try clear hb2); (try clear hk); (try clear hi); (try clear ho0)))
   go_ret2
   exact ⟨_, zqR, zqC HO442.out, zqH HB.out ak.out ar.out⟩
  ·
   replace c8 := Bool.eq_false_iff.mpr c8
   subst c8
   have H1 : (some (([] : List (S108)), 6)) = some (r1, r2) := by rw [if_neg (show ¬ (false = true) by decide)] at H; exact H
   clear H; have H := H1; clear H1
   simp only [Option.some.injEq, Prod.mk.injEq] at H
   obtain ⟨rfl, rfl⟩ := H
   go_enter Try.func63, Try.ntmps63
   try go_wp2_with (first | ((with_reducible refine gate_dst (N := 2) rfl ?_); refine box_event ?hg (N := 2) ?hd (cs := #[.slice al ac.length am, .slice an ae.length ao, .slice ap af.length aq]) (t := 28) ?hr ?_; (case hd => rfl); (case hg => rfl); (case hr => first | (go_simp; done) | (go_simp; rfl)); intro ag hg w22 hbox hb; have aa := zA (hbox); have a3 := zA ((by rw [hg]; exact (below_size (zqA HB.out)) : w.heap.size ≤ ag)); have ak := zA ((by rw [hg]; exact (below_size (zqA HB.out)) : w.heap.size ≤ ag)); replace HB := zA (below_step (zqA HB.out) hb); clear hb hbox hg) | ((with_reducible refine gate_dst (N := 3) rfl ?_); refine box_event ?hg (N := 3) ?hd (cs := #[.slice au ad.length av, .slice aw ah.length ax, .slice ay ai.length az]) (t := 28) ?hr ?_; (case hd => rfl); (case hg => rfl); (case hr => first | (go_simp; done) | (go_simp; rfl)); intro aj hg w23 hbox hb; have ab := zA (hbox); have a4 := zA ((by rw [hg]; exact (below_size (zqG HB.out ak.out)) : w.heap.size ≤ aj)); have ar := zA ((by rw [hg]; exact (below_size (zqG HB.out ak.out)) : w.heap.size ≤ aj)); replace HB := zA (below_step (zqG HB.out ak.out) hb); have aO := zA ((by rw [hg]; exact Nat.ne_of_lt (blk_lt (g := ag) (o := .cells #[.slice al ac.length am, .slice an ae.length ao, .slice ap af.length aq] 28 (0, 0)) (zqB aa.out)) : ag ≠ aj)); have aP := zA ((by rw [hg]; exact Nat.ne_of_gt (blk_lt (g := ag) (o := .cells #[.slice al ac.length am, .slice an ae.length ao, .slice ap af.length aq] 28 (0, 0)) (zqB aa.out)) : aj ≠ ag)); replace aa := zA (blk_below (g := ag) (o := .cells #[.slice al ac.length am, .slice an ae.length ao, .slice ap af.length aq] 28 (0, 0)) (zqB aa.out) hb); clear hb hbox hg))
   replace aa := zA (blk_drew aa.out)
   replace ab := zA (blk_drew ab.out)
   replace HB := zA (below_drew1 HB.out)
   refine start_ (n := 7) (S := fun w' => w'.cell? ⟨ag, 0, none⟩ = some (.slice al ac.length am) ∧ w'.cell? ⟨ag, 1, none⟩ = some (.slice an ae.length ao) ∧ w'.cell? ⟨ag, 2, none⟩ = some (.slice ap af.length aq) ∧ w'.cell? ⟨aj, 0, none⟩ = some (.slice au ad.length av) ∧ w'.cell? ⟨aj, 1, none⟩ = some (.slice aw ah.length ax) ∧ w'.cell? ⟨aj, 2, none⟩ = some (.slice ay ai.length az)) (ds := []) #[false, false, false, false, false, false, false] (by kernel_rfl) rfl rfl ⟨(blk_cell aa.out 0).trans rfl, (blk_cell aa.out 1).trans rfl, (blk_cell aa.out 2).trans rfl, (blk_cell ab.out 0).trans rfl, (blk_cell ab.out 1).trans rfl, (blk_cell ab.out 2).trans rfl⟩ (fun hHeld => ?_)
   generalize w23.drew = w24 at aa ab HB hHeld ⊢
   refine take_ (i := 0) (N := some 7) (v := ?_) (a' := ?_) #[true, false, false, false, false, false, false] rfl rfl (by kernel_rfl) (fun _ _ _ h => h) (Or.inl ⟨by rfl, ?_⟩) hHeld ?_ ?_
   rotate_left
   ·
    rintro w' ⟨s0, s1, s2, s3, s4, s5⟩
    go_simp
    with_reducible rfl
   rotate_left
   ·
    exact putQ
   refine take_ (i := 2) (N := some 9) (v := ?_) (a' := ?_) #[true, false, true, false, false, false, false] rfl rfl (by kernel_rfl) (fun _ _ _ h => h) (Or.inl ⟨by rfl, ?_⟩) hHeld ?_ ?_
   rotate_left
   ·
    rintro w' ⟨s0, s1, s2, s3, s4, s5⟩
    go_simp
    with_reducible rfl
   rotate_left
   ·
    exact putQ
   refine one_ (i := 1) (N := some 8) #[true, true, true, false, false, false, false] rfl rfl (by kernel_rfl) (by decide) (fun K hK => ?_)
   refine goes_ Try.func34 (by kernel_rfl) rfl #[.agg #[.slice al ac.length am, .slice an ae.length ao, .slice ap af.length aq]] (by rfl) rfl rfl zqE ?_
   with_reducible refine (edit_CheckPatch.calls _ _ ac _ _ ae _ _ af t433 _ ?side1 ?side2 ?side3 ?side4 ?side5 ?side6 A3.out).mono ?_
   (case side1 => exact zqK (Kd.C_below aB.out HB.out))
   (case side2 => exact aC.out)
   (case side3 => exact zqK (Kd.C_below aG.out HB.out))
   (case side4 => exact aH.out)
   (case side5 => exact zqK (Kd.C_below aI.out HB.out))
   (case side6 => exact aJ.out)
   rintro e w25 ⟨rfl, hb⟩
   refine ⟨_, rfl, ?_⟩
   replace aa := zA (blk_below (g := ag) (o := .cells #[.slice al ac.length am, .slice an ae.length ao, .slice ap af.length aq] 28 (0, 0)) (zqB aa.out) hb)
   replace ab := zA (blk_below (g := aj) (o := .cells #[.slice au ad.length av, .slice aw ah.length ax, .slice ay ai.length az] 28 (0, 0)) (zqB ab.out) hb)
   replace HB := zA (below_step (zqH HB.out ak.out ar.out) hb)
   refine hK.out _ _ ⟨(blk_cell aa.out 0).trans rfl, (blk_cell aa.out 1).trans rfl, (blk_cell aa.out 2).trans rfl, (blk_cell ab.out 0).trans rfl, (blk_cell ab.out 1).trans rfl, (blk_cell ab.out 2).trans rfl⟩ (fun hHeld => ?_)
   clear hK K
   refine normQ ?_
   refine one_ (i := 3) (N := some 10) #[true, true, true, true, false, false, false] rfl rfl (by kernel_rfl) (by decide) (fun K hK => ?_)
   refine goes_ Try.func34 (by kernel_rfl) rfl #[.agg #[.slice au ad.length av, .slice aw ah.length ax, .slice ay ai.length az]] (by rfl) rfl rfl zqE ?_
   with_reducible refine (edit_CheckPatch.calls _ _ ad _ _ ah _ _ ai t434 _ ?side1 ?side2 ?side3 ?side4 ?side5 ?side6 A4.out).mono ?_
   (case side1 => exact zqK (Kd.C_below aD.out HB.out))
   (case side2 => exact aE.out)
   (case side3 => exact zqK (Kd.C_below aK.out HB.out))
   (case side4 => exact aL.out)
   (case side5 => exact zqK (Kd.C_below aM.out HB.out))
   (case side6 => exact aN.out)
   rintro e w26 ⟨rfl, hb⟩
   refine ⟨_, rfl, ?_⟩
   replace aa := zA (blk_below (g := ag) (o := .cells #[.slice al ac.length am, .slice an ae.length ao, .slice ap af.length aq] 28 (0, 0)) (zqB aa.out) hb)
   replace ab := zA (blk_below (g := aj) (o := .cells #[.slice au ad.length av, .slice aw ah.length ax, .slice ay ai.length az] 28 (0, 0)) (zqB ab.out) hb)
   replace HB := zA (below_step (zqH HB.out ak.out ar.out) hb)
   refine hK.out _ _ ⟨(blk_cell aa.out 0).trans rfl, (blk_cell aa.out 1).trans rfl, (blk_cell aa.out 2).trans rfl, (blk_cell ab.out 0).trans rfl, (blk_cell ab.out 1).trans rfl, (blk_cell ab.out 2).trans rfl⟩ (fun hHeld => ?_)
   clear hK K
   refine normQ ?_
   refine one_ (i := 4) (N := some 11) #[true, true, true, true, true, false, false] rfl rfl (by kernel_rfl) (by decide) (fun K hK => ?_)
   refine Kd.R_lit_step (Kd.int .i64) _ 29 ?hg (N := 11) ?hd (xs := ([t433, t434] : List Int)) (inner := [.int .i64 t433, .int .i64 t434]) (ok := fun _ => True) (okp := fun _ => True) ?hr ?hp (fun _ hk => hk) trivial (Below.refl _ _) (Nat.le_refl _) (by simp) ?_; (case hd => rfl); (case hg => rfl); (case hr => first | (go_simp; done) | (go_simp; rfl)); (case hp => exact (Reps.one (show Kd.M (Kd.int .i64) _ _ _ t433 [.int .i64 t433] from rfl) (Reps.one (show Kd.M (Kd.int .i64) _ _ _ t434 [.int .i64 t434] from rfl) (Reps.none _ _))))
   intro v436 w27 ho28 hb hg_ hnew_
   clear hg_ hnew_
   (first | rw [← aF.out] at ho28 | (simp only [Int.reduceToNat] at ho28; rw [← aF.out] at ho28))
   have aA := zA (Kd.R_lower ho28 (below_size (zqH HB.out ak.out ar.out)))
   replace aa := zA (blk_below (g := ag) (o := .cells #[.slice al ac.length am, .slice an ae.length ao, .slice ap af.length aq] 28 (0, 0)) (zqB aa.out) hb)
   replace ab := zA (blk_below (g := aj) (o := .cells #[.slice au ad.length av, .slice aw ah.length ax, .slice ay ai.length az] 28 (0, 0)) (zqB ab.out) hb)
   replace HB := zA (below_step (zqH HB.out ak.out ar.out) hb)
   clear hb ho28
   obtain ⟨Ao29, co29, eo29⟩ := Kd.R_slice aA.out
   (first | subst eo29 | (injection eo29 with f1_ f2_ f3_; have f4_ := f1_.symm; have f5_ := f3_.symm; clear f1_ f2_ f3_; subst f4_; subst f5_))
   refine hK.out _ _ ⟨(blk_cell aa.out 0).trans rfl, (blk_cell aa.out 1).trans rfl, (blk_cell aa.out 2).trans rfl, (blk_cell ab.out 0).trans rfl, (blk_cell ab.out 1).trans rfl, (blk_cell ab.out 2).trans rfl⟩ (fun hHeld => ?_)
   clear hK K
   refine normQ ?_
   refine one_ (i := 5) (N := some 12) #[true, true, true, true, true, true, false] rfl rfl (by kernel_rfl) (by decide) (fun K hK => ?_)
   refine goes_ Try.func58 (by kernel_rfl) rfl #[.slice Ao29 y435.length co29] (by rfl) rfl rfl zqE ?_
   with_reducible refine (api_Errno.calls k _ _ y435 t438 _ ?side1 ?side2 A5.out).mono ?_
   (case side1 => exact zqK (Kd.R_reads' aA.out).2.2)
   (case side2 => exact (Kd.R_reads' aA.out).2.1)
   rintro e w' ⟨rfl, ⟨nd, rfl⟩⟩
   refine ⟨_, rfl, ?_⟩
   refine hK.out _ _ ⟨(blk_cell aa.out 0).trans rfl, (blk_cell aa.out 1).trans rfl, (blk_cell aa.out 2).trans rfl, (blk_cell ab.out 0).trans rfl, (blk_cell ab.out 1).trans rfl, (blk_cell ab.out 2).trans rfl⟩ (fun hHeld => ?_)
   clear hK K
   refine normQ ?_
   refine pure_ (i := 6) (N := some 6) (v := ?_) (a' := ?_) #[true, true, true, true, true, true, true] rfl rfl (by kernel_rfl) (fun _ _ _ h => h) (Or.inl ⟨by rfl, ?_⟩) ?_ ?_
   rotate_left
   ·
    intro w'
    go_simp
    with_reducible rfl
   rotate_left
   ·
    exact putQ
   refine done_ (by kernel_rfl) ?_
   have hnb30 := aO.out
   have hnc30 := aP.out
   have hcz31_0 : w27.cell? ⟨ag, 0, none⟩ = some (.slice al ac.length am) := (blk_cell aa.out 0).trans rfl
   have hcz31_1 : w27.cell? ⟨ag, 1, none⟩ = some (.slice an ae.length ao) := (blk_cell aa.out 1).trans rfl
   have hcz31_2 : w27.cell? ⟨ag, 2, none⟩ = some (.slice ap af.length aq) := (blk_cell aa.out 2).trans rfl
   have hfz31_0 := blk_frozen aa.out 0
   have hfz31_1 := blk_frozen aa.out 1
   have hfz31_2 := blk_frozen aa.out 2
   have hcz32_0 : w27.cell? ⟨aj, 0, none⟩ = some (.slice au ad.length av) := (blk_cell ab.out 0).trans rfl
   have hcz32_1 : w27.cell? ⟨aj, 1, none⟩ = some (.slice aw ah.length ax) := (blk_cell ab.out 1).trans rfl
   have hcz32_2 : w27.cell? ⟨aj, 2, none⟩ = some (.slice ay ai.length az) := (blk_cell ab.out 2).trans rfl
   have hfz32_0 := blk_frozen ab.out 0
   have hfz32_1 := blk_frozen ab.out 1
   have hfz32_2 := blk_frozen ab.out 2
   try go_wp2_with (first | ((with_reducible refine gate_callee (f := 59) rfl ?_); refine goesL_ (some 20) rfl rfl Try.func59 (by kernel_rfl) rfl #[.slice al ac.length am, .slice au ad.length av] rfl zqE ?_; (with_reducible refine (edit_Note.calls k _ _ ac _ _ ad false _ ?side1 ?side2 ?side3 ?side4 A7.out).mono ?_); (case side1 => repeat (first | exact (Kd.C_below aB.out (zqH HB.out ak.out ar.out)) | (with_reducible refine Kd.C_alloc ?_ _) | (with_reducible refine Kd.C_drewN ?_ _) | (with_reducible refine Kd.C_drew ?_))); (case side2 => exact aC.out); (case side3 => repeat (first | exact (Kd.C_below aD.out (zqH HB.out ak.out ar.out)) | (with_reducible refine Kd.C_alloc ?_ _) | (with_reducible refine Kd.C_drewN ?_ _) | (with_reducible refine Kd.C_drew ?_))); (case side4 => exact aE.out); rintro e w' ⟨rfl, ⟨nd, rfl⟩⟩; refine ⟨_, rfl, ?_⟩))
   go_ret2
   exact ⟨_, zqR, by first | exact Kd.R_nil _ _ _ _ _ | exact Kd.N_nil _ _ _ _ _ | exact Kd.V_nil _ _ _ _ _ | exact Kd.Q_nil _ _ _ _ _ | exact Kd.S_nil _ _ _ _ _, zqH HB.out ak.out ar.out⟩
 ·
  rw [if_neg c6] at H
  have c6b0 : (t438 == 0) = false := beq_eq_false_iff_ne.mpr c6
  have c6b1 : (t438 != 0) = true := bne_iff_ne.mpr c6
  simp only [Option.some.injEq, Prod.mk.injEq] at H
  obtain ⟨rfl, rfl⟩ := H
  go_enter Try.func63, Try.ntmps63
  try go_wp2_with (first | ((with_reducible refine gate_dst (N := 2) rfl ?_); refine box_event ?hg (N := 2) ?hd (cs := #[.slice al ac.length am, .slice an ae.length ao, .slice ap af.length aq]) (t := 28) ?hr ?_; (case hd => rfl); (case hg => rfl); (case hr => first | (go_simp; done) | (go_simp; rfl)); intro ag hg w33 hbox hb; have aa := zA (hbox); have a3 := zA ((by rw [hg]; exact (below_size (zqA HB.out)) : w.heap.size ≤ ag)); have ak := zA ((by rw [hg]; exact (below_size (zqA HB.out)) : w.heap.size ≤ ag)); replace HB := zA (below_step (zqA HB.out) hb); clear hb hbox hg) | ((with_reducible refine gate_dst (N := 3) rfl ?_); refine box_event ?hg (N := 3) ?hd (cs := #[.slice au ad.length av, .slice aw ah.length ax, .slice ay ai.length az]) (t := 28) ?hr ?_; (case hd => rfl); (case hg => rfl); (case hr => first | (go_simp; done) | (go_simp; rfl)); intro aj hg w34 hbox hb; have ab := zA (hbox); have a4 := zA ((by rw [hg]; exact (below_size (zqG HB.out ak.out)) : w.heap.size ≤ aj)); have ar := zA ((by rw [hg]; exact (below_size (zqG HB.out ak.out)) : w.heap.size ≤ aj)); replace HB := zA (below_step (zqG HB.out ak.out) hb); have aO := zA ((by rw [hg]; exact Nat.ne_of_lt (blk_lt (g := ag) (o := .cells #[.slice al ac.length am, .slice an ae.length ao, .slice ap af.length aq] 28 (0, 0)) (zqB aa.out)) : ag ≠ aj)); have aP := zA ((by rw [hg]; exact Nat.ne_of_gt (blk_lt (g := ag) (o := .cells #[.slice al ac.length am, .slice an ae.length ao, .slice ap af.length aq] 28 (0, 0)) (zqB aa.out)) : aj ≠ ag)); replace aa := zA (blk_below (g := ag) (o := .cells #[.slice al ac.length am, .slice an ae.length ao, .slice ap af.length aq] 28 (0, 0)) (zqB aa.out) hb); clear hb hbox hg))
  replace aa := zA (blk_drew aa.out)
  replace ab := zA (blk_drew ab.out)
  replace HB := zA (below_drew1 HB.out)
  refine start_ (n := 7) (S := fun w' => w'.cell? ⟨ag, 0, none⟩ = some (.slice al ac.length am) ∧ w'.cell? ⟨ag, 1, none⟩ = some (.slice an ae.length ao) ∧ w'.cell? ⟨ag, 2, none⟩ = some (.slice ap af.length aq) ∧ w'.cell? ⟨aj, 0, none⟩ = some (.slice au ad.length av) ∧ w'.cell? ⟨aj, 1, none⟩ = some (.slice aw ah.length ax) ∧ w'.cell? ⟨aj, 2, none⟩ = some (.slice ay ai.length az)) (ds := []) #[false, false, false, false, false, false, false] (by kernel_rfl) rfl rfl ⟨(blk_cell aa.out 0).trans rfl, (blk_cell aa.out 1).trans rfl, (blk_cell aa.out 2).trans rfl, (blk_cell ab.out 0).trans rfl, (blk_cell ab.out 1).trans rfl, (blk_cell ab.out 2).trans rfl⟩ (fun hHeld => ?_)
  generalize w34.drew = w35 at aa ab HB hHeld ⊢
  refine take_ (i := 0) (N := some 7) (v := ?_) (a' := ?_) #[true, false, false, false, false, false, false] rfl rfl (by kernel_rfl) (fun _ _ _ h => h) (Or.inl ⟨by rfl, ?_⟩) hHeld ?_ ?_
  rotate_left
  ·
   rintro w' ⟨s0, s1, s2, s3, s4, s5⟩
   go_simp
   with_reducible rfl
  rotate_left
  ·
   exact putQ
  refine take_ (i := 2) (N := some 9) (v := ?_) (a' := ?_) #[true, false, true, false, false, false, false] rfl rfl (by kernel_rfl) (fun _ _ _ h => h) (Or.inl ⟨by rfl, ?_⟩) hHeld ?_ ?_
  rotate_left
  ·
   rintro w' ⟨s0, s1, s2, s3, s4, s5⟩
   go_simp
   with_reducible rfl
  rotate_left
  ·
   exact putQ
  refine one_ (i := 1) (N := some 8) #[true, true, true, false, false, false, false] rfl rfl (by kernel_rfl) (by decide) (fun K hK => ?_)
  refine goes_ Try.func34 (by kernel_rfl) rfl #[.agg #[.slice al ac.length am, .slice an ae.length ao, .slice ap af.length aq]] (by rfl) rfl rfl zqE ?_
  with_reducible refine (edit_CheckPatch.calls _ _ ac _ _ ae _ _ af t433 _ ?side1 ?side2 ?side3 ?side4 ?side5 ?side6 A3.out).mono ?_
  (case side1 => exact zqK (Kd.C_below aB.out HB.out))
  (case side2 => exact aC.out)
  (case side3 => exact zqK (Kd.C_below aG.out HB.out))
  (case side4 => exact aH.out)
  (case side5 => exact zqK (Kd.C_below aI.out HB.out))
  (case side6 => exact aJ.out)
  rintro e w36 ⟨rfl, hb⟩
  refine ⟨_, rfl, ?_⟩
  replace aa := zA (blk_below (g := ag) (o := .cells #[.slice al ac.length am, .slice an ae.length ao, .slice ap af.length aq] 28 (0, 0)) (zqB aa.out) hb)
  replace ab := zA (blk_below (g := aj) (o := .cells #[.slice au ad.length av, .slice aw ah.length ax, .slice ay ai.length az] 28 (0, 0)) (zqB ab.out) hb)
  replace HB := zA (below_step (zqH HB.out ak.out ar.out) hb)
  refine hK.out _ _ ⟨(blk_cell aa.out 0).trans rfl, (blk_cell aa.out 1).trans rfl, (blk_cell aa.out 2).trans rfl, (blk_cell ab.out 0).trans rfl, (blk_cell ab.out 1).trans rfl, (blk_cell ab.out 2).trans rfl⟩ (fun hHeld => ?_)
  clear hK K
  refine normQ ?_
  refine one_ (i := 3) (N := some 10) #[true, true, true, true, false, false, false] rfl rfl (by kernel_rfl) (by decide) (fun K hK => ?_)
  refine goes_ Try.func34 (by kernel_rfl) rfl #[.agg #[.slice au ad.length av, .slice aw ah.length ax, .slice ay ai.length az]] (by rfl) rfl rfl zqE ?_
  with_reducible refine (edit_CheckPatch.calls _ _ ad _ _ ah _ _ ai t434 _ ?side1 ?side2 ?side3 ?side4 ?side5 ?side6 A4.out).mono ?_
  (case side1 => exact zqK (Kd.C_below aD.out HB.out))
  (case side2 => exact aE.out)
  (case side3 => exact zqK (Kd.C_below aK.out HB.out))
  (case side4 => exact aL.out)
  (case side5 => exact zqK (Kd.C_below aM.out HB.out))
  (case side6 => exact aN.out)
  rintro e w37 ⟨rfl, hb⟩
  refine ⟨_, rfl, ?_⟩
  replace aa := zA (blk_below (g := ag) (o := .cells #[.slice al ac.length am, .slice an ae.length ao, .slice ap af.length aq] 28 (0, 0)) (zqB aa.out) hb)
  replace ab := zA (blk_below (g := aj) (o := .cells #[.slice au ad.length av, .slice aw ah.length ax, .slice ay ai.length az] 28 (0, 0)) (zqB ab.out) hb)
  replace HB := zA (below_step (zqH HB.out ak.out ar.out) hb)
  refine hK.out _ _ ⟨(blk_cell aa.out 0).trans rfl, (blk_cell aa.out 1).trans rfl, (blk_cell aa.out 2).trans rfl, (blk_cell ab.out 0).trans rfl, (blk_cell ab.out 1).trans rfl, (blk_cell ab.out 2).trans rfl⟩ (fun hHeld => ?_)
  clear hK K
  refine normQ ?_
  refine one_ (i := 4) (N := some 11) #[true, true, true, true, true, false, false] rfl rfl (by kernel_rfl) (by decide) (fun K hK => ?_)
  refine Kd.R_lit_step (Kd.int .i64) _ 29 ?hg (N := 11) ?hd (xs := ([t433, t434] : List Int)) (inner := [.int .i64 t433, .int .i64 t434]) (ok := fun _ => True) (okp := fun _ => True) ?hr ?hp (fun _ hk => hk) trivial (Below.refl _ _) (Nat.le_refl _) (by simp) ?_; (case hd => rfl); (case hg => rfl); (case hr => first | (go_simp; done) | (go_simp; rfl)); (case hp => exact (Reps.one (show Kd.M (Kd.int .i64) _ _ _ t433 [.int .i64 t433] from rfl) (Reps.one (show Kd.M (Kd.int .i64) _ _ _ t434 [.int .i64 t434] from rfl) (Reps.none _ _))))
  intro v436 w38 ho39 hb hg_ hnew_
  clear hg_ hnew_
  (first | rw [← aF.out] at ho39 | (simp only [Int.reduceToNat] at ho39; rw [← aF.out] at ho39))
  have aA := zA (Kd.R_lower ho39 (below_size (zqH HB.out ak.out ar.out)))
  replace aa := zA (blk_below (g := ag) (o := .cells #[.slice al ac.length am, .slice an ae.length ao, .slice ap af.length aq] 28 (0, 0)) (zqB aa.out) hb)
  replace ab := zA (blk_below (g := aj) (o := .cells #[.slice au ad.length av, .slice aw ah.length ax, .slice ay ai.length az] 28 (0, 0)) (zqB ab.out) hb)
  replace HB := zA (below_step (zqH HB.out ak.out ar.out) hb)
  clear hb ho39
  obtain ⟨Ao40, co40, eo40⟩ := Kd.R_slice aA.out
  (first | subst eo40 | (injection eo40 with f1_ f2_ f3_; have f4_ := f1_.symm; have f5_ := f3_.symm; clear f1_ f2_ f3_; subst f4_; subst f5_))
  refine hK.out _ _ ⟨(blk_cell aa.out 0).trans rfl, (blk_cell aa.out 1).trans rfl, (blk_cell aa.out 2).trans rfl, (blk_cell ab.out 0).trans rfl, (blk_cell ab.out 1).trans rfl, (blk_cell ab.out 2).trans rfl⟩ (fun hHeld => ?_)
  clear hK K
  refine normQ ?_
  refine one_ (i := 5) (N := some 12) #[true, true, true, true, true, true, false] rfl rfl (by kernel_rfl) (by decide) (fun K hK => ?_)
  refine goes_ Try.func58 (by kernel_rfl) rfl #[.slice Ao40 y435.length co40] (by rfl) rfl rfl zqE ?_
  with_reducible refine (api_Errno.calls k _ _ y435 t438 _ ?side1 ?side2 A5.out).mono ?_
  (case side1 => exact zqK (Kd.R_reads' aA.out).2.2)
  (case side2 => exact (Kd.R_reads' aA.out).2.1)
  rintro e w' ⟨rfl, ⟨nd, rfl⟩⟩
  refine ⟨_, rfl, ?_⟩
  refine hK.out _ _ ⟨(blk_cell aa.out 0).trans rfl, (blk_cell aa.out 1).trans rfl, (blk_cell aa.out 2).trans rfl, (blk_cell ab.out 0).trans rfl, (blk_cell ab.out 1).trans rfl, (blk_cell ab.out 2).trans rfl⟩ (fun hHeld => ?_)
  clear hK K
  refine normQ ?_
  refine pure_ (i := 6) (N := some 6) (v := ?_) (a' := ?_) #[true, true, true, true, true, true, true] rfl rfl (by kernel_rfl) (fun _ _ _ h => h) (Or.inl ⟨by rfl, ?_⟩) ?_ ?_
  rotate_left
  ·
   intro w'
   go_simp
   with_reducible rfl
  rotate_left
  ·
   exact putQ
  refine done_ (by kernel_rfl) ?_
  try go_wp2
  go_ret2
  exact ⟨_, zqR, by first | exact Kd.R_nil _ _ _ _ _ | exact Kd.N_nil _ _ _ _ _ | exact Kd.V_nil _ _ _ _ _ | exact Kd.Q_nil _ _ _ _ _ | exact Kd.S_nil _ _ _ _ _, zqH HB.out ak.out ar.out⟩
end Go.Proofs.Ytehpbmdphfbooaa.P
end
section
namespace Go.Proofs.Ytehpbmdphfbooaa.P
open Go.RowKit Go.Proofs Go.Proofs.YtehpbmdphfbooaaW.PrintWords Go.Proofs.YtehpbmdphfbooaaW.PrintLast Go.Proofs.YtehpbmdphfbooaaW.PrintMore
set_option linter.unusedVariables false
set_option linter.unusedSimpArgs false
def packP (F : List S61) (l : List S108) : (List S61) × (List S61) × (List S67) × Int := (F, (sortP l).map S108.f0, (sortP l).map S108.f1, 0)
def okP (F : List S61) (l : List S108) : Prop := F.length < 1000000 ∧ l.length ≤ 1000000 ∧ (l.map plc).Nodup
instance (F : List S61) (l : List S108) : Decidable (okP F l) := by unfold okP; infer_instance
def edit_Merge.f (k : Nat) (l0_0 l0_1 : List S61) (l0_2 : List S67) (l1_0 l1_1 : List S61) (l1_2 : List S67) : Option ((List S61) × (List S61) × (List S67) × Int) :=
  (edit_both.f k l0_0 l0_1 l0_2 l1_0 l1_1 l1_2).bind fun b => if b.2 = 0 then (if okP l0_0 b.1 then some (packP l0_0 b.1) else none) else some ([], [], [], b.2)
set_option maxHeartbeats 8000000 in
set_option maxRecDepth 100000 in
theorem edit_Merge.calls (k : Nat) (af : Option Addr) (ag : Nat) (ac : List (S61)) (al : Option Addr) (am : Nat) (ad : List (S61)) (an : Option Addr) (ao : Nat) (ae : List (S67)) (aq : Option Addr) (ar : Nat) (ah : List (S61)) (au : Option Addr) (av : Nat) (ai : List (S61)) (aw : Option Addr) (ax : Nat) (aj : List (S67)) (r1 : List (S61)) (r2 : List (S61)) (r3 : List (S67)) (r4 : Int) (w : World) (ay : Kd.C k61 w af ac.length ac) (az : ac.length ≤ ag) (aD : Kd.C k61 w al ad.length ad) (aE : ad.length ≤ am) (aF : Kd.C k67 w an ae.length ae) (aG : ae.length ≤ ao) (aH : Kd.C k61 w aq ah.length ah) (aI : ah.length ≤ ar) (aJ : Kd.C k61 w au ai.length ai) (aK : ai.length ≤ av) (aL : Kd.C k67 w aw aj.length aj) (aM : aj.length ≤ ax) (h : edit_Merge.f k ac ad ae ah ai aj = some (r1, r2, r3, r4)) :
  Calls Try.prog 28 #[.agg #[.slice af ac.length ag, .slice al ad.length am, .slice an ae.length ao], .agg #[.slice aq ah.length ar, .slice au ai.length av, .slice aw aj.length ax]] w fun e w' => ∃ v0_ v1_ v2_ : Value, e = .returned (.tuple #[.agg #[v0_, v1_, v2_], .int .i64 r4]) ∧ Kd.R k61 61 w' w.heap.size (fun k_ => some k_ ≠ (v1_ : Value).ownBlock) v0_ r1 ∧ Kd.R k61 61 w' w.heap.size (fun k_ => some k_ ≠ (v0_ : Value).ownBlock) v1_ r2 ∧ Kd.R k67 67 w' w.heap.size (fun _ => True) v2_ r3 ∧ Below w.heap.size w w' := by
 have hu28 := Try.underlying28
 have hu23 := Try.underlying23
 have hu108 := Try.underlying108
 have hu104 := Try.underlying104
 have hu67 := Try.underlying67
 unfold edit_Merge.f at h
 obtain ⟨⟨l, t⟩, hb0, h⟩ := Option.bind_eq_some_iff.mp h
 have HB := zA (Below.refl w.heap.size w)
 have HRF := zA ay
 have HCF := zA az
 have KB := zA (fun (W : World) (hb : Below w.heap.size w W) => edit_both.calls k af ag ac al am ad an ao ae aq ar ah au av ai aw ax aj l t W (Kd.C_below ay hb) az (Kd.C_below aD hb) aE (Kd.C_below aF hb) aG (Kd.C_below aH hb) aI (Kd.C_below aJ hb) aK (Kd.C_below aL hb) aM hb0)
 have H := zA h
 clear ay az aD aE aF aG aH aI aJ aK aL aM h hb0
 go_enter Try.func28, Try.ntmps28
 go_upto_region 2 with (first | ((with_reducible refine gate_dst (N := 2) rfl ?_); refine box_event ?hg (N := 2) ?hd (cs := #[.slice af ac.length ag, .slice al ad.length am, .slice an ae.length ao]) (t := 28) ?hr ?_; (case hd => rfl); (case hg => rfl); (case hr => first | (go_simp; done) | (go_simp; rfl)); intro g2 hg w2 hbox hb; have GE2 : Aside0 (w.heap.size ≤ g2) := ⟨by rw [hg]; exact HB.out.size⟩; replace HB := zA (below_step HB.out hb); have ab := zA hbox; clear hb hbox hg) | ((with_reducible refine gate_dst (N := 3) rfl ?_); refine box_event ?hg (N := 3) ?hd (cs := #[.slice aq ah.length ar, .slice au ai.length av, .slice aw aj.length ax]) (t := 28) ?hr ?_; (case hd => rfl); (case hg => rfl); (case hr => first | (go_simp; done) | (go_simp; rfl)); intro g3 hg w3 hbox hb; have N23 : Aside0 (g2 ≠ g3) := ⟨by have := blk_lt ab.out; omega⟩; have GE3 : Aside0 (w.heap.size ≤ g3) := ⟨by rw [hg]; exact HB.out.size⟩; replace HB := zA (below_step HB.out hb); replace ab := zA (blk_keep ab.out hb); have ak := zA hbox; clear hb hbox hg; have p0 : w3.cell? ⟨g2, 0, none⟩ = some (.slice af ac.length ag) := (blk_cell ab.out 0).trans rfl; have p1 : w3.cell? ⟨g2, 1, none⟩ = some (.slice al ad.length am) := (blk_cell ab.out 1).trans rfl; have p2 : w3.cell? ⟨g2, 2, none⟩ = some (.slice an ae.length ao) := (blk_cell ab.out 2).trans rfl) | ((with_reducible refine gate_dst (N := 4) rfl ?_); refine box_event ?hg (N := 4) ?hd (cs := #[.slice none 0 0, .slice none 0 0, .slice none 0 0]) (t := 28) ?hr ?_; (case hd => rfl); (case hg => rfl); (case hr => first | (go_simp; done) | (go_simp; rfl)); intro g4 hg w4 hbox hb; have N24 : Aside0 (g2 ≠ g4) := ⟨by have := blk_lt ab.out; omega⟩; have N34 : Aside0 (g3 ≠ g4) := ⟨by have := blk_lt ak.out; omega⟩; have ap : Aside0 (w.heap.size ≤ g4) := ⟨by rw [hg]; exact HB.out.size⟩; replace HB := zA (below_step HB.out hb); replace ab := zA (blk_keep ab.out hb); replace ak := zA (blk_keep ak.out hb); have aa := zA hbox; clear hb hbox hg; clear p0 p1 p2; have p0 : w4.cell? ⟨g2, 0, none⟩ = some (.slice af ac.length ag) := (blk_cell ab.out 0).trans rfl; have p1 : w4.cell? ⟨g2, 1, none⟩ = some (.slice al ad.length am) := (blk_cell ab.out 1).trans rfl; have p2 : w4.cell? ⟨g2, 2, none⟩ = some (.slice an ae.length ao) := (blk_cell ab.out 2).trans rfl; have q0 : w4.cell? ⟨g3, 0, none⟩ = some (.slice aq ah.length ar) := (blk_cell ak.out 0).trans rfl; have q1 : w4.cell? ⟨g3, 1, none⟩ = some (.slice au ai.length av) := (blk_cell ak.out 1).trans rfl; have q2 : w4.cell? ⟨g3, 2, none⟩ = some (.slice aw aj.length ax) := (blk_cell ak.out 2).trans rfl) | (go_at_call 63; refine (KB.out _ HB.out).mono ?_; rintro e w5 ⟨v0, rfl, hR, hb⟩; clear p0 p1 p2 q0 q1 q2; have HB0 := HB; have BO0 := aa; replace HB := zA (below_step HB.out hb); replace ab := zA (blk_keep ab.out hb); replace ak := zA (blk_keep ak.out hb); replace aa := zA (blk_keep aa.out hb); have HP5 := zA hR; have SZ : Aside0 (w.heap.size ≤ w4.heap.size) := ⟨HB0.out.size⟩; have LG4' : Aside0 (g4 < w4.heap.size) := ⟨blk_lt BO0.out⟩; have SZ5 : Aside0 (w4.heap.size ≤ w5.heap.size) := ⟨hb.size⟩; clear BO0; clear hb hR HB0))
 by_cases ht : t = 0
 ·
  subst ht
  have h := H.out
  rw [if_pos rfl] at h
  have h2 : okP ac l := by
   by_cases q : okP ac l
   ·
    exact q
   ·
    rw [if_neg q] at h
    cases h
  rw [if_pos h2] at h
  have h3 := Option.some.inj h
  unfold packP at h3
  simp only [Prod.mk.injEq] at h3
  obtain ⟨rfl, rfl, rfl, rfl⟩ := h3
  have HOK := zA h2
  clear h h2 H
  obtain ⟨B, hB⟩ : ∃ B_ : Nat, B_ = w4.heap.size := ⟨_, rfl⟩
  have LG4 : Aside0 (g4 < B) := ⟨by rw [hB]; exact LG4'.out⟩
  rw [← hB] at SZ HP5
  have HWB := SZ
  have SZB : Aside0 (B ≤ w5.heap.size) := ⟨by rw [hB]; exact SZ5.out⟩
  clear hB LG4' SZ5
  have HND : Aside0 ((l.map plc).Nodup) := ⟨HOK.out.2.2⟩
  have HLL : Aside0 (l.length ≤ 1000000) := ⟨HOK.out.2.1⟩
  have p0 : w5.cell? ⟨g2, 0, none⟩ = some (.slice af ac.length ag) := (blk_cell ab.out 0).trans rfl
  have p1 : w5.cell? ⟨g2, 1, none⟩ = some (.slice al ad.length am) := (blk_cell ab.out 1).trans rfl
  have p2 : w5.cell? ⟨g2, 2, none⟩ = some (.slice an ae.length ao) := (blk_cell ab.out 2).trans rfl
  have HBC := zA (below_cutW HB.out SZ.out SZB.out)
  have HCB := zA (cutW_below SZB.out)
  have HSZ := zA (cutW_size SZB.out)
  have HF : Aside0 (Kd.C k61 (cutW w5 B) af ac.length ac) := ⟨Kd.C_below HRF.out HBC.out⟩
  have G4C : Aside0 ((cutW w5 B).heap[g4]? = some (.cells #[.slice none 0 0, .slice none 0 0, .slice none 0 0] 28 (0, 0))) := ⟨(cutW_at LG4.out).trans aa.out⟩
  generalize cutW w5 B = wc at HBC HCB HSZ HF G4C
  have e9 := HP5.out
  rw [← HSZ.out] at e9
  have aN := zA e9
  clear e9
  go_wp2_with (first | (go_at_call 48; refine (patch48 af ag ac _ _ l wc _ HCB.out HF.out HCF.out HOK.out.1 HLL.out aN.out).mono ?_; rintro e w9 ⟨v0, v1, v2, d, rfl, hp, hs, ho0, ho1, ho2, hb⟩; rw [HSZ.out] at ho0 ho1 ho2; obtain rfl : d = sortP (l) := sorted_eq (hp.trans (sortP_perm _).symm) hs (sortP_sorted _) ((hp.map plc).nodup_iff.2 HND.out); have n0_ := zA (below_base HBC.out (below_less hb HBC.out.size)); have n1_ := zA ((hb.block g4 (by rw [HSZ.out]; exact LG4.out)).trans G4C.out); have aA := zA ho0; have aB := zA ho1; have aC := zA ho2; clear HB aa hp hs ho0 ho1 ho2 hb aN HP5 HCB HF HBC G4C; have HB := n0_; have aa := n1_; clear n0_ n1_; obtain ⟨Fl, hfl⟩ : ∃ x_, x_ = ac := ⟨_, rfl⟩; obtain ⟨ns, hns⟩ : ∃ x_, x_ = (sortP (l)).map S108.f0 := ⟨_, rfl⟩; obtain ⟨os, hos⟩ : ∃ x_, x_ = (sortP (l)).map S108.f1 := ⟨_, rfl⟩; rw [← hfl] at aA; rw [← hns] at aB; rw [← hos] at aC; have HFL := zA hfl; have HNS := zA hns; have HOS := zA hos; clear hns hos hfl; obtain ⟨B0, b0, rfl⟩ := Kd.R_slice aA.out; obtain ⟨B1, b1, rfl⟩ := Kd.R_slice aB.out; obtain ⟨B2, b2, rfl⟩ := Kd.R_slice aC.out; have z0 : w9.cell? ⟨g4, 0, none⟩ = some (.slice none 0 0) := (blk_cell aa.out 0).trans rfl; have z1 : w9.cell? ⟨g4, 1, none⟩ = some (.slice none 0 0) := (blk_cell aa.out 1).trans rfl; have z2 : w9.cell? ⟨g4, 2, none⟩ = some (.slice none 0 0) := (blk_cell aa.out 2).trans rfl; have zf0 := blk_frozen aa.out 0; have zf1 := blk_frozen aa.out 1; have zf2 := blk_frozen aa.out 2))
  rw [← HNS.out, ← HOS.out, ← HFL.out]
  refine bodyPost_ret (results_ct rfl _ _ g4 28 #[.slice B0 Fl.length b0, .slice B1 ns.length b1, .slice B2 os.length b2] (0, 0) _ rfl ((blk_put (cs := #[.slice B0 Fl.length b0, .slice B1 ns.length b1, .slice none 0 0]) (blk_put (cs := #[.slice B0 Fl.length b0, .slice none 0 0, .slice none 0 0]) (blk_put (cs := #[.slice none 0 0, .slice none 0 0, .slice none 0 0]) aa.out 0 (.slice B0 Fl.length b0) rfl) 1 (.slice B1 ns.length b1) rfl) 2 (.slice B2 os.length b2) rfl)) Try.underlying28 rfl (by kernel_rfl)) rfl ?_
  exact ⟨_, _, _, rfl, Kd.R_mono (Kd.R_far (p := ⟨g4, 2, none⟩) (Kd.R_far (p := ⟨g4, 1, none⟩) (Kd.R_far (p := ⟨g4, 0, none⟩) (Kd.R_types (Kd.R_lower aA.out HWB.out) aa.out (by decide)) (fun _ hk => hk.2) (.slice B0 Fl.length b0)) (fun _ hk => hk.2) (.slice B1 ns.length b1)) (fun _ hk => hk.2) (.slice B2 os.length b2)) (fun _ hk => hk.1), Kd.R_mono (Kd.R_far (p := ⟨g4, 2, none⟩) (Kd.R_far (p := ⟨g4, 1, none⟩) (Kd.R_far (p := ⟨g4, 0, none⟩) (Kd.R_types (Kd.R_lower aB.out HWB.out) aa.out (by decide)) (fun _ hk => hk.2) (.slice B0 Fl.length b0)) (fun _ hk => hk.2) (.slice B1 ns.length b1)) (fun _ hk => hk.2) (.slice B2 os.length b2)) (fun _ hk => hk.1), Kd.R_mono (Kd.R_far (p := ⟨g4, 2, none⟩) (Kd.R_far (p := ⟨g4, 1, none⟩) (Kd.R_far (p := ⟨g4, 0, none⟩) (Kd.R_types (Kd.R_lower aC.out HWB.out) aa.out (by decide)) (fun _ hk => hk.2) (.slice B0 Fl.length b0)) (fun _ hk => hk.2) (.slice B1 ns.length b1)) (fun _ hk => hk.2) (.slice B2 os.length b2)) (fun _ hk => hk.1), (below_set (below_set (below_set HB.out ap.out) ap.out) ap.out)⟩
 ·
  have h := H.out
  rw [if_neg ht] at h
  have h3 := Option.some.inj h
  simp only [Prod.mk.injEq] at h3
  obtain ⟨rfl, rfl, rfl, rfl⟩ := h3
  have htb : (t != 0) = true := bne_iff_ne.mpr ht
  clear h H ht
  have z0 : w5.cell? ⟨g4, 0, none⟩ = some (.slice none 0 0) := (blk_cell aa.out 0).trans rfl
  have z1 : w5.cell? ⟨g4, 1, none⟩ = some (.slice none 0 0) := (blk_cell aa.out 1).trans rfl
  have z2 : w5.cell? ⟨g4, 2, none⟩ = some (.slice none 0 0) := (blk_cell aa.out 2).trans rfl
  have zf0 := blk_frozen aa.out 0
  have zf1 := blk_frozen aa.out 1
  have zf2 := blk_frozen aa.out 2
  go_wp2
  refine bodyPost_ret (results_ct rfl _ _ g4 28 #[.slice none 0 0, .slice none 0 0, .slice none 0 0] (0, 0) _ rfl ((blk_put (cs := #[.slice none 0 0, .slice none 0 0, .slice none 0 0]) (blk_put (cs := #[.slice none 0 0, .slice none 0 0, .slice none 0 0]) (blk_put (cs := #[.slice none 0 0, .slice none 0 0, .slice none 0 0]) aa.out 0 (.slice none 0 0) rfl) 1 (.slice none 0 0) rfl) 2 (.slice none 0 0) rfl)) Try.underlying28 rfl (by kernel_rfl)) rfl ?_
  exact ⟨_, _, _, rfl, Kd.R_nil _ _ _ _ _, Kd.R_nil _ _ _ _ _, Kd.R_nil _ _ _ _ _, (below_set (below_set (below_set HB.out ap.out) ap.out) ap.out)⟩
end Go.Proofs.Ytehpbmdphfbooaa.P
end
section
namespace Go.Proofs.Ytehpbmdphfbooaa.P
open Go.RowKit Go.Proofs.YtehpbmdphfbooaaW.PrintWords Go.Proofs.YtehpbmdphfbooaaW.PrintLast Go.Proofs.YtehpbmdphfbooaaW.PrintMore
set_option linter.unusedVariables false
def SV {α : Type} (k : Kd α) (v : Value) (l : List α) (w : World) : Prop := ∃ A c, v = .slice A l.length c ∧ l.length ≤ c ∧ k.C w A l.length l
theorem SV.below {α : Type} {k : Kd α} {v : Value} {l : List α} {w w' : World} (h : SV k v l w) (hb : Below w.heap.size w w') : SV k v l w' := by
  obtain ⟨A, c, e, hc, hC⟩ := h
  exact ⟨A, c, e, hc, Kd.C_below hC hb⟩
theorem SV.ofR {α : Type} {k : Kd α} {v : Value} {l : List α} {w : World} {t base : Nat} {ok : Nat → Prop} (h : Kd.R k t w base ok v l) : SV k v l w := by
  obtain ⟨A, c, e, hc, hC⟩ := Kd.R_reads h
  exact ⟨A, c, e, hc, hC⟩
theorem SV.lit {α : Type} {k : Kd α} {l : List α} {w : World} {g t : Nat} {cs : List Value} (h : w.heap[g]? = some (.cells cs.toArray t (0, 0))) (hr : Reps (k.K w) k.sz l cs) (hl : l.length ≤ 9223372036854775807) : SV k (.slice (some ⟨g, 0, none⟩) l.length l.length) l w := by
  refine ⟨_, _, rfl, Nat.le_refl _, rfl, hl, fun _ => ⟨_, rfl, fun j p hp => ?_⟩⟩
  have hj : j < l.length := (List.getElem?_eq_some_iff.1 hp).1
  have hlen : j * k.sz + k.sz ≤ cs.length := by rw [hr.1, ← Nat.succ_mul]; exact Nat.mul_le_mul_right _ hj
  refine ⟨(cs.drop (j * k.sz)).take k.sz, by rw [List.length_take, List.length_drop]; omega, hr.2 j p hp, fun i u hu => ?_⟩
  rw [List.getElem?_take] at hu
  split at hu
  · rw [List.getElem?_drop] at hu
    rw [addr_at]
    refine (blk_cell h _).trans ?_
    rw [Nat.zero_add]
    simpa using hu
  · cases hu
end Go.Proofs.Ytehpbmdphfbooaa.P
end
section
namespace Go.Proofs.Ytehpbmdphfbooaa.P
open Go.RowKit Go.Proofs.YtehpbmdphfbooaaW.PrintWords Go.Proofs.YtehpbmdphfbooaaW.PrintLast Go.Proofs.YtehpbmdphfbooaaW.PrintMore
set_option linter.unusedVariables false
abbrev EL := List (Nat × Tmp × (Value → World → Prop))
def EL.sel (E : EL) (val : Nat → Value) : List (Nat × Tmp × Value) := E.map fun e => (e.1, e.2.1, val e.1)
def RI (Φ : World → Prop) (E : EL) (a0 : Act) (b : Nat → Bool) (a : Act) (w : World) : Prop :=
  ∃ val : Nat → Value, a = putSel a0 b (E.sel val) ∧ Φ w ∧ ∀ e ∈ E, b e.1 = true → e.2.2 (val e.1) w
theorem putSel_none (a : Act) : ∀ L, putSel a (fun _ => false) L = a
  | [] => rfl
  | e :: r => by
    unfold putSel
    rw [if_neg (by decide), putSel_none a r]
theorem RI.start {Φ : World → Prop} (E : EL) (a0 : Act) {w : World} (h : Φ w) : RI Φ E a0 (fun _ => false) a0 w :=
  ⟨fun _ => undef, (putSel_none _ _).symm, h, fun e _ h => by cases h⟩
theorem RI.phi {Φ : World → Prop} {E : EL} {a0 a : Act} {b : Nat → Bool} {w : World} (h : RI Φ E a0 b a w) : Φ w := h.choose_spec.2.1
theorem RI.get {Φ : World → Prop} {E : EL} {a0 a : Act} {b : Nat → Bool} {w : World} (h : RI Φ E a0 b a w) {i : Nat} {t : Tmp} {p : Value → World → Prop} (k : Nat) (he : E[k]? = some (i, t, p))
    (hd : ((E.drop (k + 1)).all fun x => !(x.2.1 == t)) = true) (hb : b i = true) (hs : Nat.ble (t + 1) a0.tmps.size = true) : ∃ v, a.tmps[t]? = some v ∧ p v w := by
  obtain ⟨val, rfl, hΦ, hp⟩ := h
  have hk := (List.getElem?_eq_some_iff.1 he).1
  have hL : (E.sel val)[k]? = some (i, t, val i) := by
    unfold EL.sel
    rw [List.getElem?_map, he]
    rfl
  refine ⟨val i, putSel_on (e := (i, t, val i)) k hL ?_ hb hs, hp _ (List.mem_of_getElem? he) hb⟩
  unfold EL.sel
  rw [← List.map_drop, List.all_map]
  exact hd
theorem RI.off {Φ : World → Prop} {E : EL} {a0 a : Act} {b : Nat → Bool} {w : World} (h : RI Φ E a0 b a w) {t : Tmp} (hd : (E.all fun x => !(x.2.1 == t)) = true) : a.tmps[t]? = a0.tmps[t]? := by
  obtain ⟨val, rfl, hΦ, hp⟩ := h
  refine putSel_off ?_
  unfold EL.sel
  rw [List.all_map]
  exact hd
def Stab (E : EL) : Prop := ∀ e ∈ E, ∀ v w w', Below w.heap.size w w' → e.2.2 v w → e.2.2 v w'
theorem RI.put {Φ : World → Prop} {E : EL} {a0 a : Act} {b : Nat → Bool} {w w' : World} (h : RI Φ E a0 b a w) {i : Nat} {t : Tmp} {p : Value → World → Prop} {v : Value} (k : Nat) (he : E[k]? = some (i, t, p)) (hb : b i = false)
    (hd : ((E.take k ++ E.drop (k + 1)).all fun e => !(e.1 == i) && !(e.2.1 == t)) = true) (hΦ : Φ w') (hst : Stab E) (hw : Below w.heap.size w w') (hv : p v w') : RI Φ E a0 (up b i) (a.put (some t) v) w' := by
  obtain ⟨val, rfl, _, hp⟩ := h
  have hk := (List.getElem?_eq_some_iff.1 he).1
  have hne : ∀ e ∈ E.take k ++ E.drop (k + 1), e.1 ≠ i := fun e hm => by
    have := List.all_eq_true.1 hd e hm
    simp at this
    exact this.1
  have hek : E[k] = (i, t, p) := (List.getElem?_eq_some_iff.1 he).2
  have hmem : ∀ e ∈ E, e = (i, t, p) ∨ e ∈ E.take k ++ E.drop (k + 1) := fun e hm => by
    rw [← List.take_append_drop k E, List.drop_eq_getElem_cons hk, hek] at hm
    rcases List.mem_append.1 hm with hm | hm
    · exact .inr (List.mem_append.2 (.inl hm))
    · rcases List.mem_cons.1 hm with hm | hm
      · exact .inl hm
      · exact .inr (List.mem_append.2 (.inr hm))
  refine ⟨fun j => if j = i then v else val j, ?_, hΦ, fun e hm hbe => ?_⟩
  · refine putSel_upk (v0 := val i) k hb (by unfold EL.sel; rw [List.getElem?_map, he]; rfl) ?_ ?_
    · have e1 : E = E.take k ++ (i, t, p) :: E.drop (k + 1) := by
        rw [← hek, List.getElem_cons_drop, List.take_append_drop]
      unfold EL.sel
      rw [List.set_eq_take_append_cons_drop, if_pos (by rw [List.length_map]; exact hk)]
      conv => rhs; rw [e1]
      rw [List.map_append, List.map_cons, ← List.map_take, ← List.map_drop]
      congr 1
      · exact List.map_congr_left fun e hm => by
          show (e.1, e.2.1, val e.1) = (e.1, e.2.1, if e.1 = i then v else val e.1)
          rw [if_neg (hne e (List.mem_append.2 (.inl hm)))]
      · congr 1
        · show (i, t, v) = (i, t, if i = i then v else val i)
          rw [if_pos rfl]
        · exact List.map_congr_left fun e hm => by
            show (e.1, e.2.1, val e.1) = (e.1, e.2.1, if e.1 = i then v else val e.1)
            rw [if_neg (hne e (List.mem_append.2 (.inr hm)))]
    · unfold EL.sel
      rw [← List.map_take, ← List.map_drop, ← List.map_append, List.all_map]
      exact hd
  · rcases hmem e hm with rfl | hm2
    · show p (if i = i then v else val i) w'
      rw [if_pos rfl]
      exact hv
    · have hn := hne e hm2
      show e.2.2 (if e.1 = i then v else val e.1) w'
      rw [if_neg hn]
      rw [up_ne hn] at hbe
      exact hst e hm _ w w' hw (hp e hm hbe)
theorem RI.pure {Φ : World → Prop} {E : EL} {a0 a : Act} {b : Nat → Bool} {w : World} (h : RI Φ E a0 b a w) {i : Nat} {t : Tmp} {p : Value → World → Prop} {v : Value} (k : Nat) (he : E[k]? = some (i, t, p)) (hb : b i = false)
    (hd : ((E.take k ++ E.drop (k + 1)).all fun e => !(e.1 == i) && !(e.2.1 == t)) = true) (hst : Stab E) (hv : p v w) : RI Φ E a0 (up b i) (a.put (some t) v) w :=
  h.put k he hb hd h.phi hst (Below.refl _ _) hv
theorem stab_nil : Stab [] := fun _ h => by cases h
theorem stab_cons {i : Nat} {t : Tmp} {p : Value → World → Prop} {E : EL} (h : ∀ v w w', Below w.heap.size w w' → p v w → p v w') (hE : Stab E) : Stab ((i, t, p) :: E) := fun e hm => by
  rcases List.mem_cons.1 hm with rfl | hm
  · exact h
  · exact hE e hm
def IsV (u : Value) : Value → World → Prop := fun v _ => v = u
theorem stab_is (u : Value) : ∀ v w w', Below w.heap.size w w' → IsV u v w → IsV u v w' := fun _ _ _ _ h => h
theorem stab_sv {α : Type} (k : Kd α) (l : List α) : ∀ v (w w' : World), Below w.heap.size w w' → SV k v l w → SV k v l w' := fun _ _ _ hb h => h.below hb
end Go.Proofs.Ytehpbmdphfbooaa.P
end
section
namespace Go.Proofs.Ytehpbmdphfbooaa.P
open Go.RowKit Go.Proofs.YtehpbmdphfbooaaW.PrintWords Go.Proofs.YtehpbmdphfbooaaW.PrintLast Go.Proofs.YtehpbmdphfbooaaW.PrintMore
set_option linter.unusedVariables false
theorem c_R (l : List S61) (h : pianolalaw02_R.f = some l) (w : World) : Calls Try.prog 26 #[] w fun e w' => ∃ A c, e = .returned (.slice A l.length c) ∧ SV k61 (.slice A l.length c) l w' ∧ Below w.heap.size w w' := by
  refine (pianolalaw02_R.calls l w h).mono ?_
  rintro e w' ⟨v, rfl, hR, hb⟩
  obtain ⟨A, c, rfl⟩ := Kd.R_slice hR
  exact ⟨A, c, rfl, SV.ofR hR, hb⟩
theorem c_note (a b c : Int) (w : World) : Calls Try.prog 27 #[.int .i64 a, .int .i64 b, .int .i64 c] w fun e w' => e = .returned (.agg #[.int .i64 a, .int .i64 b, .int .i64 c]) ∧ Below w.heap.size w w' :=
  pianolalaw02_note.calls a b c a b c w rfl
theorem c_org (l : List Int) (r : List S67) (h : pianolalaw02_origins.f 60 l = some r) (v : Value) (w : World) (hs : SV (Kd.int .i64) v l w) : Calls Try.prog 44 #[v] w fun e w' => ∃ A c, e = .returned (.slice A r.length c) ∧ SV k67 (.slice A r.length c) r w' ∧ Below w.heap.size w w' := by
  obtain ⟨A, c, rfl, hc, hC⟩ := hs
  refine (pianolalaw02_origins.calls 60 A c l r w hC hc h).mono ?_
  rintro e w' ⟨v, rfl, hR, hb⟩
  obtain ⟨A, c, rfl⟩ := Kd.R_slice hR
  exact ⟨A, c, rfl, SV.ofR hR, hb⟩
theorem c_run (l : List S61) (st : List S65) (r1 r2 : List S61) (r3 : List S67) (r4 r5 : Int) (h : edit_Run.f 60 l st = some (r1, r2, r3, r4, r5)) (v0 v1 : Value) (w : World) (h0 : SV k61 v0 l w) (h1 : SV k65 v1 st w) :
    Calls Try.prog 14 #[v0, v1] w fun e w' => ∃ A0 c0 A1 c1 A2 c2, e = .returned (.tuple #[.agg #[.slice A0 r1.length c0, .slice A1 r2.length c1, .slice A2 r3.length c2], .int .i64 r4, .int .i64 r5]) ∧ SV k61 (.slice A0 r1.length c0) r1 w' ∧ SV k61 (.slice A1 r2.length c1) r2 w' ∧ SV k67 (.slice A2 r3.length c2) r3 w' ∧ Below w.heap.size w w' := by
  obtain ⟨A0, c0, rfl, hc0, hC0⟩ := h0
  obtain ⟨A1, c1, rfl, hc1, hC1⟩ := h1
  refine (edit_Run.calls 60 A0 c0 l A1 c1 st r1 r2 r3 r4 r5 w hC0 hc0 hC1 hc1 h).mono ?_
  rintro e w' ⟨v0, v1, v2, rfl, hR0, hR1, hR2, hb⟩
  obtain ⟨A0, c0, rfl⟩ := Kd.R_slice hR0
  obtain ⟨A1, c1, rfl⟩ := Kd.R_slice hR1
  obtain ⟨A2, c2, rfl⟩ := Kd.R_slice hR2
  exact ⟨A0, c0, A1, c1, A2, c2, rfl, SV.ofR hR0, SV.ofR hR1, SV.ofR hR2, hb⟩
theorem c_runR (l : List S61) (st : List S65) (r1 r2 : List S61) (r3 : List S67) (r4 r5 : Int) (h : edit_Run.f 60 l st = some (r1, r2, r3, r4, r5)) (v0 v1 : Value) (w : World) (h0 : SV k61 v0 l w) (h1 : SV k65 v1 st w) :
    Calls Try.prog 14 #[v0, v1] w fun e w' => ∃ A0 c0 A1 c1 A2 c2, e = .returned (.tuple #[.agg #[.slice A0 r1.length c0, .slice A1 r2.length c1, .slice A2 r3.length c2], .int .i64 r4, .int .i64 r5]) ∧ Kd.R k61 61 w' w.heap.size (fun _ => True) (.slice A0 r1.length c0) r1 ∧ Kd.R k61 61 w' w.heap.size (fun _ => True) (.slice A1 r2.length c1) r2 ∧ Kd.R k67 67 w' w.heap.size (fun _ => True) (.slice A2 r3.length c2) r3 ∧ Below w.heap.size w w' := by
  obtain ⟨A0, c0, rfl, hc0, hC0⟩ := h0
  obtain ⟨A1, c1, rfl, hc1, hC1⟩ := h1
  refine (edit_Run.calls 60 A0 c0 l A1 c1 st r1 r2 r3 r4 r5 w hC0 hc0 hC1 hc1 h).mono ?_
  rintro e w' ⟨v0, v1, v2, rfl, hR0, hR1, hR2, hb⟩
  obtain ⟨A0, c0, rfl⟩ := Kd.R_slice hR0
  obtain ⟨A1, c1, rfl⟩ := Kd.R_slice hR1
  obtain ⟨A2, c2, rfl⟩ := Kd.R_slice hR2
  exact ⟨A0, c0, A1, c1, A2, c2, rfl, Kd.R_mono hR0 (fun _ _ => trivial), Kd.R_mono hR1 (fun _ _ => trivial), hR2, hb⟩
theorem c_same (a0 a1 : List S61) (a2 : List S67) (b0 b1 : List S61) (b2 : List S67) (r : Bool) (h : pianolalaw02_same.f 60 a0 a1 a2 b0 b1 b2 = some r) (x0 x1 x2 y0 y1 y2 : Value) (w : World) (h0 : SV k61 x0 a0 w) (h1 : SV k61 x1 a1 w) (h2 : SV k67 x2 a2 w) (g0 : SV k61 y0 b0 w) (g1 : SV k61 y1 b1 w) (g2 : SV k67 y2 b2 w) :
    Calls Try.prog 25 #[.agg #[x0, x1, x2], .agg #[y0, y1, y2]] w fun e w' => e = .returned (.bool r) ∧ Below w.heap.size w w' := by
  obtain ⟨A0, c0, rfl, hc0, hC0⟩ := h0
  obtain ⟨A1, c1, rfl, hc1, hC1⟩ := h1
  obtain ⟨A2, c2, rfl, hc2, hC2⟩ := h2
  obtain ⟨B0, d0, rfl, hd0, hD0⟩ := g0
  obtain ⟨B1, d1, rfl, hd1, hD1⟩ := g1
  obtain ⟨B2, d2, rfl, hd2, hD2⟩ := g2
  exact pianolalaw02_same.calls 60 A0 c0 a0 A1 c1 a1 A2 c2 a2 B0 d0 b0 B1 d1 b1 B2 d2 b2 r w hC0 hc0 hC1 hc1 hC2 hc2 hD0 hd0 hD1 hd1 hD2 hd2 h
theorem c_few (a0 a1 : List S61) (a2 : List S67) (r1 r2 : Int) (h : edit_Fewest.f 60 a0 a1 a2 = some (r1, r2)) (x0 x1 x2 : Value) (w : World) (h0 : SV k61 x0 a0 w) (h1 : SV k61 x1 a1 w) (h2 : SV k67 x2 a2 w) :
    Calls Try.prog 41 #[.agg #[x0, x1, x2]] w fun e w' => e = .returned (.tuple #[.int .i64 r1, .int .i64 r2]) ∧ Below w.heap.size w w' := by
  obtain ⟨A0, c0, rfl, hc0, hC0⟩ := h0
  obtain ⟨A1, c1, rfl, hc1, hC1⟩ := h1
  obtain ⟨A2, c2, rfl, hc2, hC2⟩ := h2
  exact edit_Fewest.calls 60 A0 c0 a0 A1 c1 a1 A2 c2 a2 r1 r2 w hC0 hc0 hC1 hc1 hC2 hc2 h
theorem c_two {P : List S61 → List S61 → List S67 → List S61 → List S61 → List S67 → Option ((List S61) × (List S61) × (List S67) × Int)} {f : Nat} (a0 a1 : List S61) (a2 : List S67) (b0 b1 : List S61) (b2 : List S67) (r1 r2 : List S61) (r3 : List S67) (r4 : Int)
    (hf : ∀ (A0 : Option Addr) (c0 : Nat) (A1 : Option Addr) (c1 : Nat) (A2 : Option Addr) (c2 : Nat) (B0 : Option Addr) (d0 : Nat) (B1 : Option Addr) (d1 : Nat) (B2 : Option Addr) (d2 : Nat) (w : World), Kd.C k61 w A0 a0.length a0 → a0.length ≤ c0 → Kd.C k61 w A1 a1.length a1 → a1.length ≤ c1 → Kd.C k67 w A2 a2.length a2 → a2.length ≤ c2 → Kd.C k61 w B0 b0.length b0 → b0.length ≤ d0 → Kd.C k61 w B1 b1.length b1 → b1.length ≤ d1 → Kd.C k67 w B2 b2.length b2 → b2.length ≤ d2 → P a0 a1 a2 b0 b1 b2 = some (r1, r2, r3, r4) →
      Calls Try.prog f #[.agg #[.slice A0 a0.length c0, .slice A1 a1.length c1, .slice A2 a2.length c2], .agg #[.slice B0 b0.length d0, .slice B1 b1.length d1, .slice B2 b2.length d2]] w fun e w' => ∃ v0_ v1_ v2_ : Value, e = .returned (.tuple #[.agg #[v0_, v1_, v2_], .int .i64 r4]) ∧ Kd.R k61 61 w' w.heap.size (fun k_ => some k_ ≠ (v1_ : Value).ownBlock) v0_ r1 ∧ Kd.R k61 61 w' w.heap.size (fun k_ => some k_ ≠ (v0_ : Value).ownBlock) v1_ r2 ∧ Kd.R k67 67 w' w.heap.size (fun _ => True) v2_ r3 ∧ Below w.heap.size w w')
    (h : P a0 a1 a2 b0 b1 b2 = some (r1, r2, r3, r4)) (x0 x1 x2 y0 y1 y2 : Value) (w : World) (h0 : SV k61 x0 a0 w) (h1 : SV k61 x1 a1 w) (h2 : SV k67 x2 a2 w) (g0 : SV k61 y0 b0 w) (g1 : SV k61 y1 b1 w) (g2 : SV k67 y2 b2 w) :
    Calls Try.prog f #[.agg #[x0, x1, x2], .agg #[y0, y1, y2]] w fun e w' => ∃ A0 c0 A1 c1 A2 c2, e = .returned (.tuple #[.agg #[.slice A0 r1.length c0, .slice A1 r2.length c1, .slice A2 r3.length c2], .int .i64 r4]) ∧ SV k61 (.slice A0 r1.length c0) r1 w' ∧ SV k61 (.slice A1 r2.length c1) r2 w' ∧ SV k67 (.slice A2 r3.length c2) r3 w' ∧ Below w.heap.size w w' := by
  obtain ⟨A0, c0, rfl, hc0, hC0⟩ := h0
  obtain ⟨A1, c1, rfl, hc1, hC1⟩ := h1
  obtain ⟨A2, c2, rfl, hc2, hC2⟩ := h2
  obtain ⟨B0, d0, rfl, hd0, hD0⟩ := g0
  obtain ⟨B1, d1, rfl, hd1, hD1⟩ := g1
  obtain ⟨B2, d2, rfl, hd2, hD2⟩ := g2
  refine (hf A0 c0 A1 c1 A2 c2 B0 d0 B1 d1 B2 d2 w hC0 hc0 hC1 hc1 hC2 hc2 hD0 hd0 hD1 hd1 hD2 hd2 h).mono ?_
  rintro e w' ⟨v0, v1, v2, rfl, hR0, hR1, hR2, hb⟩
  obtain ⟨A0, c0, rfl⟩ := Kd.R_slice hR0
  obtain ⟨A1, c1, rfl⟩ := Kd.R_slice hR1
  obtain ⟨A2, c2, rfl⟩ := Kd.R_slice hR2
  exact ⟨A0, c0, A1, c1, A2, c2, rfl, SV.ofR hR0, SV.ofR hR1, SV.ofR hR2, hb⟩
theorem c_then (a0 a1 : List S61) (a2 : List S67) (b0 b1 : List S61) (b2 : List S67) (r1 r2 : List S61) (r3 : List S67) (r4 : Int) (h : edit_Then.f 60 a0 a1 a2 b0 b1 b2 = some (r1, r2, r3, r4)) (x0 x1 x2 y0 y1 y2 : Value) (w : World) (h0 : SV k61 x0 a0 w) (h1 : SV k61 x1 a1 w) (h2 : SV k67 x2 a2 w) (g0 : SV k61 y0 b0 w) (g1 : SV k61 y1 b1 w) (g2 : SV k67 y2 b2 w) :
    Calls Try.prog 24 #[.agg #[x0, x1, x2], .agg #[y0, y1, y2]] w fun e w' => ∃ A0 c0 A1 c1 A2 c2, e = .returned (.tuple #[.agg #[.slice A0 r1.length c0, .slice A1 r2.length c1, .slice A2 r3.length c2], .int .i64 r4]) ∧ SV k61 (.slice A0 r1.length c0) r1 w' ∧ SV k61 (.slice A1 r2.length c1) r2 w' ∧ SV k67 (.slice A2 r3.length c2) r3 w' ∧ Below w.heap.size w w' :=
  c_two (P := edit_Then.f 60) (f := 24) a0 a1 a2 b0 b1 b2 r1 r2 r3 r4 (fun A0 c0 A1 c1 A2 c2 B0 d0 B1 d1 B2 d2 w => edit_Then.calls 60 A0 c0 a0 A1 c1 a1 A2 c2 a2 B0 d0 b0 B1 d1 b1 B2 d2 b2 r1 r2 r3 r4 w) h x0 x1 x2 y0 y1 y2 w h0 h1 h2 g0 g1 g2
theorem c_mer (a0 a1 : List S61) (a2 : List S67) (b0 b1 : List S61) (b2 : List S67) (r1 r2 : List S61) (r3 : List S67) (r4 : Int) (h : edit_Merge.f 60 a0 a1 a2 b0 b1 b2 = some (r1, r2, r3, r4)) (x0 x1 x2 y0 y1 y2 : Value) (w : World) (h0 : SV k61 x0 a0 w) (h1 : SV k61 x1 a1 w) (h2 : SV k67 x2 a2 w) (g0 : SV k61 y0 b0 w) (g1 : SV k61 y1 b1 w) (g2 : SV k67 y2 b2 w) :
    Calls Try.prog 28 #[.agg #[x0, x1, x2], .agg #[y0, y1, y2]] w fun e w' => ∃ A0 c0 A1 c1 A2 c2, e = .returned (.tuple #[.agg #[.slice A0 r1.length c0, .slice A1 r2.length c1, .slice A2 r3.length c2], .int .i64 r4]) ∧ SV k61 (.slice A0 r1.length c0) r1 w' ∧ SV k61 (.slice A1 r2.length c1) r2 w' ∧ SV k67 (.slice A2 r3.length c2) r3 w' ∧ Below w.heap.size w w' :=
  c_two (P := edit_Merge.f 60) (f := 28) a0 a1 a2 b0 b1 b2 r1 r2 r3 r4 (fun A0 c0 A1 c1 A2 c2 B0 d0 B1 d1 B2 d2 w => edit_Merge.calls 60 A0 c0 a0 A1 c1 a1 A2 c2 a2 B0 d0 b0 B1 d1 b1 B2 d2 b2 r1 r2 r3 r4 w) h x0 x1 x2 y0 y1 y2 w h0 h1 h2 g0 g1 g2
end Go.Proofs.Ytehpbmdphfbooaa.P
end
