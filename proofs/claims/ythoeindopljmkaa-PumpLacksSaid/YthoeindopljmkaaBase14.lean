/- Words and contracts that all claims of this seat share: the examples of the chapter hold. -/
import Derived.Test.YthoeindopljmkaaBase13
import Derived.RangeFuncNested
section
namespace Go.Proofs.Ythoeindopljmkaa.P
open Go.RowKit Go.Shelf Go.Proofs.YthoeindopljmkaaW.PrintWords Go.Proofs.YthoeindopljmkaaW.PrintLast Go.Proofs.YthoeindopljmkaaW.PrintMore
set_option linter.unusedVariables false
set_option linter.unusedSimpArgs false
attribute [local go_sem] field107 Oper.semAt_some
theorem take_set_succ {l : List Int} {i : Nat} (v : Int) (h : i < l.length) : (l.set i v).take (i + 1) = l.take i ++ [v] := by
  rw [List.take_succ_eq_append_getElem (by simpa using h), List.getElem_set_self, List.take_set_of_le (Nat.le_refl _)]
theorem R_keepR {W : World} {base : Nat} {ok : Nat → Prop} {v : Value} {xs : List Int} (h : Kd.R (Kd.int .i64) 3 W base ok v xs) : Kd.R (Kd.int .i64) 3 W base (fun _ => True) v xs := Kd.R_mono h (fun _ _ => trivial)
theorem one_row {W : World} {g : Nat} {A : Option Addr} {c : Nat} {x : List Int} (hc : W.cell? ⟨g, 0, none⟩ = some (.slice A x.length c)) (hl : x.length ≤ c) (hr : Kd.C (Kd.int .i64) W A x.length x) : Kd.C (Kd.slice 3 (Kd.int .i64)) W (some ⟨g, 0, none⟩) 1 [x] :=
  ⟨rfl, (show 1 ≤ 9223372036854775807 by decide), fun _ => ⟨_, rfl, fun j p hj => by
    match j, hj with
    | 0, hj =>
      cases hj
      refine ⟨[.slice A x.length c], rfl, ⟨A, c, rfl, hl, hr⟩, fun i u hu => ?_⟩
      match i, hu with
      | 0, hu => cases hu; exact hc
      | i + 1, hu => cases hu
    | j + 1, hj => cases hj⟩⟩
theorem results36 (tm : Array Value) (W : World) (g4 : Nat) (v0 v1 : Value) (h4 : tm.getD 4 undef = .pointer (some ⟨g4, 0, none⟩)) (h5 : tm.getD 5 undef = .int .i64 0)
    (c0 : W.cell? ⟨g4, 0, none⟩ = some v0) (c1 : W.cell? ⟨g4, 1, none⟩ = some v1) : (results Try.f36 tm).run Try.prog W = .ok (.tuple #[.agg #[v0, v1], .int .i64 0]) W := by
  have hu56 := Try.underlying56
  have x4 : tm[4]?.getD undef = .pointer (some ⟨g4, 0, none⟩) := by simpa using h4
  have x5 : tm[5]?.getD undef = .int .i64 0 := by simpa using h5
  simp [results, Try.f36, x4, x5, go_sem, c0, c1]
theorem range_act {F : Fence} {n : Nat} {P : Program} {α : Type} {g : Operand} {ps : Array Tmp} {assign body : Code} {Q : Exit → Act → World → Prop} {a : Act} {w : World}
    (hro : F.round = none) (h1 : 1 ≤ n) {gf : Nat} {lb : Array Value} (hg : a.eval g = .func (.func gf) #[] lb) (hFg : F.fn gf) (eg : ∀ args w, (callFunc gf args).run P w = .ok (.enter gf args) w)
    {encs : α → Array Value} {Kp : World → World → Prop} {S Sp : List α → Prop} {N : Nat} {w0 : World} (hseq : SeqStopsK F (n - 1) P gf lb encs Kp S Sp N w0)
    (hKt : ∀ {A B C : World}, Kp A B → Kp B C → Kp A C) (hKb : ∀ (W : World) (l : Nat) (o o' : Obj), w.heap.size ≤ l → W.heap[l]? = some o → o.isCells = false → o.isWalk = false → Kp W (W.putObj l o')) (hb0 : Below w0.heap.size w0 w) (hps : ∀ x, (encs x).size = ps.size)
    (I : List α → World → Prop) (Ix : Code → List α → World → Prop) (hI : OwnFrom w.heap.size I) (hIx : ∀ c, OwnFrom w.heap.size (Ix c)) (h0 : I [] w) (Ax : Act → α → Act → World → Prop) (hAx : ∀ x a', OwnFrom w.heap.size (fun (_ : Unit) W => Ax a x a' W))
    (hassign : ∀ (l : Nat) (pre : List α) (x : α) (W : World) (K : Act → World → Prop), I pre W → (∀ a' W', KeepsFrom w.heap.size W W' → Kp W W' → I pre W' → Ax a x a' W' → K a' W') →
      assign.wpIn (F.inRound l) (n - 1 - 1) P (Exit.then K (fun _ _ _ => False)) { tmps := (ps.zip (encs x)).foldl (fun t (p, v) => t.setIfInBounds p v) a.tmps, defers := [] } W)
    (hbody : ∀ (l : Nat) (pre : List α) (x : α) (a' : Act) (W : World), w.heap.size ≤ l → (∃ r, W.heap[l]? = some (.loop r)) → I pre W → Ax a x a' W → pre.length < N → body.wpIn (F.inRound l) (n - 1 - 1) P (ownPostG w.heap.size Kp I Ix (pre ++ [x]) W) a' W)
    (hdone : ∀ (D : Nat) (xs : List α) (W : World), w.heap.size ≤ D → S xs → I xs W → W.heap[D]? = some (.deferred (some [])) → Q .normal { a with defers := { target := .collected D, args := #[] } :: a.defers } W)
    (hstop : ∀ (D : Nat) (c : Code) (pre : List α) (W : World), w.heap.size ≤ D → Sp pre → Ix c pre W → W.heap[D]? = some (.deferred (some [])) → c.wpIn F n P Q { a with defers := { target := .collected D, args := #[] } :: a.defers } W) :
    (Code.rangeFunc g ps assign body).wpIn F n P Q a w :=
  wpIn_rangeFunc_ownH hro h1 hg hFg eg hseq (fun h k => hKt h k) hKb hb0 hps I Ix hI hIx h0 (Ax a) hAx hassign hbody hdone hstop
def stepsN (xs : List Int) (n : Nat) : List Int := (List.range n).map fun t : Nat => wrap64 (rd xs ((t : Int) + 1) - rd xs t)
def stepsAt (xs : List Int) (n q : Nat) : List Int := (List.range n).map fun t : Nat => if t < q then wrap64 (rd xs ((t : Int) + 1) - rd xs t) else 0
theorem stepsAt_zero (xs : List Int) (n : Nat) : stepsAt xs n 0 = List.replicate n 0 := by
  unfold stepsAt
  rw [List.map_congr_left (g := fun _ => (0 : Int)) (fun j _ => by simp), List.map_const', List.length_range]
theorem stepsAt_len (xs : List Int) (n q : Nat) : (stepsAt xs n q).length = n := by simp [stepsAt]
theorem stepsAt_full (xs : List Int) (n : Nat) : stepsAt xs n n = stepsN xs n := by
  unfold stepsAt stepsN
  exact List.map_congr_left (fun t ht => by rw [if_pos (List.mem_range.1 ht)])
theorem stepsAt_succ (xs : List Int) {n q : Nat} (h : q < n) : stepsAt xs n (q + 1) = (stepsAt xs n q).set q (wrap64 (rd xs ((q : Int) + 1) - rd xs q)) := by
  refine List.ext_getElem (by simp [stepsAt]) (fun j hj hj2 => ?_)
  rw [List.getElem_set]
  simp only [stepsAt, List.getElem_map, List.getElem_range]
  by_cases e : q = j
  · rw [if_pos e, if_pos (by omega), ← e]
  · rw [if_neg e]
    by_cases c : j < q
    · rw [if_pos c, if_pos (by omega)]
    · rw [if_neg c, if_neg (by omega)]
theorem rows_form {W : World} {base : Nat} {v : Value} (h : (Kd.scalar (fun x : Option Addr × Nat × Nat => Value.slice x.1 x.2.1 x.2.2) (fun _ => rfl)).R 30 W base (fun _ => True) v (List.replicate (1 : Int).toNat (none, 0, 0))) :
    ∃ g cap L, v = .slice (some ⟨g, 0, none⟩) 1 cap ∧ base ≤ g ∧ W.heap[g]? = some (.cells (L : List Value).toArray 30 (0, 0)) ∧ 1 ≤ cap ∧ L.length = cap := by
  have h2 := Kd.own_of_R h
  have hl : (List.replicate (1 : Int).toNat ((none, 0, 0) : Option Addr × Nat × Nat)).length = 1 := rfl
  rw [hl] at h2
  obtain ⟨_, h3⟩ := h2
  rcases h3 with ⟨_, h0⟩ | ⟨g, cap, cur, e, hb, hg, hn, hm, hs, ht⟩
  · cases h0
  · exact ⟨g, cap, cur.toList, e, hb, by simpa using hg, hn, by simpa using hs⟩
theorem wpList_append_one {ops : Array Oper} {rest : List Oper} {o : Oper} {a : Act} {Q : Exit → Act → World → Prop} (W : World) (hgd : o.guard = none) (s x : Operand) (ho : o.op = .call { callee := .builtin .append, args := #[s, x], argTypes := #[54, 54] })
    (v : Value) (hv : v = .slice none 0 0) (hs : a.eval s = v) (ad : Addr) (hx : a.eval x = .slice (some ad) 1 1) (xv : Value) (h1 : xv.oneCell' = true) (hc : W.cell? ad = some xv)
    (h : ∀ g cap w', 1 ≤ cap → W.heap.size ≤ g → g < w'.heap.size → w'.cell? ⟨g, 0, none⟩ = some xv → Below W.heap.size W w' → wpList Try.prog ops Q rest (a.put o.dst (.slice (some ⟨g, 0, none⟩) 1 cap)) w') : wpList Try.prog ops Q (o :: rest) a W := by
  subst hv
  obtain ⟨i, hi, hz, hsz, hb⟩ := info_parts info30
  refine wpList_append_own_at W hgd s x 54 ho W.heap.size 30 i (.slice none 0 0) 1 24 Try.underlying54 hi hz hsz hb rfl (by decide) (.slice none 0 0) 0 [] hs ⟨rfl, .inl ⟨rfl, rfl⟩⟩ ad 1 1 [xv] hx rfl
    (fun j u hu => by (match j, hu with | 0, hu => (cases hu; rw [Addr.add_zero']; exact hc) | (j + 1), hu => cases hu)) (by simpa using h1) (by decide) (by decide) (Nat.le_refl _) ?_
  intro v' w' hown hg _ _
  obtain ⟨_, hcase⟩ := hown
  rcases hcase with ⟨_, h0⟩ | ⟨g, cap, cur, rfl, hbg, hgb, hn, hm, hsz, ht⟩
  · cases h0
  · refine h g cap w' hn hbg (Array.getElem?_eq_some_iff.1 hgb).1 ?_ ⟨hg.os, hg.tape, hg.output, hg.size, fun k hk => hg.block k hk (by simp [Value.ownBlock])⟩
    unfold World.cell?
    rw [show (⟨g, 0, none⟩ : Addr).block = g from rfl, hgb]
    have : (cur.toList.take 1)[0]? = some xv := by have := ht; simp at this; rw [this]; rfl
    rw [List.getElem?_take] at this
    simpa using this
def pump_Worst.f (ps rs : List (List S71)) (ticks : Int) : Option (List (List Int) × List (List Int) × Int) :=
  if ps.length = 1 ∧ rs.length = 1 then
    (pump_Drop.f 1000 ps rs ticks).bind fun t => if t.2.2 = 0 ∧ 0 < t.2.1 ∧ t.2.1 ≤ 200 then
      (tabled_most.f (rd_L4 ps 0) t.2.1).bind fun u => (regs.f rs t.2.1).bind fun r =>
        if (u.1.length : Int) = t.2.1 + 1 ∧ r.length = 1 ∧ ((rd_T115 r 0).f1.length : Int) = t.2.1 + 1 then some ([stepsN u.1 t.2.1.toNat], [stepsN (rd_T115 r 0).f1 t.2.1.toNat], 0) else none
      else none
  else none
set_option maxHeartbeats 8000000 in
set_option maxRecDepth 100000 in
theorem pump_Worst.calls (A0_0 : Option Addr) (c0_0 : Nat) (l0_0 : List (List (S71))) (A0_1 : Option Addr) (c0_1 : Nat) (l0_1 : List (List (S71))) (a1 : Int) (r1 : List (List Int)) (r2 : List (List Int)) (r3 : Int) (w : World) (hr0_0 : Kd.C (Kd.slice 71 k71) w A0_0 l0_0.length l0_0) (hc0_0 : l0_0.length ≤ c0_0) (hr0_1 : Kd.C (Kd.slice 71 k71) w A0_1 l0_1.length l0_1) (hc0_1 : l0_1.length ≤ c0_1) (h : pump_Worst.f l0_0 l0_1 a1 = some (r1, r2, r3)) :
  Calls Try.prog 36 #[.agg #[.slice A0_0 l0_0.length c0_0, .slice A0_1 l0_1.length c0_1], .int .i64 a1] w fun e w' => ∃ (Ad : Option Addr) (cd : Nat) (Ac : Option Addr) (cc : Nat), e = .returned (.tuple #[.agg #[.slice Ad r1.length cd, .slice Ac r2.length cc], .int .i64 r3]) ∧ r1.length ≤ cd ∧ r2.length ≤ cc ∧ Kd.C (Kd.slice 3 (Kd.int .i64)) w' Ad r1.length r1 ∧ Kd.C (Kd.slice 3 (Kd.int .i64)) w' Ac r2.length r2 ∧ Below w.heap.size w w' := by
 have hu40 := Try.underlying40
 have hu56 := Try.underlying56
 have hu115 := Try.underlying115
 unfold pump_Worst.f at h
 split at h
 case isFalse => cases h
 rename_i hps
 obtain ⟨⟨drop, over, er⟩, hdrop, h⟩ := Option.bind_eq_some_iff.mp h
 dsimp only at h
 split at h
 case isFalse => cases h
 rename_i hov
 obtain ⟨e0, o0, o1⟩ := hov
 subst e0
 obtain ⟨⟨sums, lasts⟩, hsums, h⟩ := Option.bind_eq_some_iff.mp h
 obtain ⟨rgs, hregs, h⟩ := Option.bind_eq_some_iff.mp h
 dsimp only at h
 split at h
 case isFalse => cases h
 rename_i hlen
 injection h with h
 injection h with h1 h
 injection h with h2 h3
 subst h1 h2 h3
 obtain ⟨on, rfl⟩ := Int.eq_ofNat_of_zero_le (Int.le_of_lt o0)
 have HP := zA hps
 have HDR := zA hdrop
 have HSU := zA hsums
 have HRG := zA hregs
 have HLE := zA hlen
 have HR0 := zA hr0_0
 have HR1 := zA hr0_1
 clear hps hdrop hsums hregs hlen hr0_0 hr0_1 h
 refine callsIn_wide.1 (?_ : CallsIn Fence.wide 10 _ _ _ _ _)
 refine callsIn_of_wp_marks Try.func36 rfl trivial ?_
 refine wpIn_wide.2 ?_
 simp only [Try.ntmps36, List.size_toArray, List.length_cons, List.length_nil, Nat.reduceAdd, Nat.reduceSub, Array.replicate_succ, Array.replicate_zero, List.push_toArray, List.append_toArray, List.nil_append, List.cons_append]
 go_wp2_with (first
  | ((with_reducible refine gate_dst (N := 2) rfl ?_); refine box_event ?hg (N := 2) ?hd (cs := #[.slice A0_0 l0_0.length c0_0, .slice A0_1 l0_1.length c0_1]) (t := 40) ?hr ?_; (case hd => rfl); (case hg => rfl); (case hr => first | (go_simp; done) | (go_simp; rfl)); intro g2 hg w2 hbox hb; have BK2 := zA hbox; have HB := zA hb; have G2 := zA (Nat.le_of_eq hg.symm); clear hbox hb hg)
  | ((with_reducible refine gate_dst (N := 4) rfl ?_); refine box_event ?hg (N := 4) ?hd (cs := #[.slice none 0 0, .slice none 0 0]) (t := 56) ?hr ?_; (case hd => rfl); (case hg => rfl); (case hr => first | (go_simp; done) | (go_simp; rfl)); intro g4 hg w4 hbox hb; have BK4 := zA hbox; have n0_ := zA (blk_both BK2.out hb).1; have G4 := zA (show w.heap.size ≤ g4 by rw [hg]; exact HB.out.size); have n1_ := zA (HB.out.trans (hb.mono HB.out.size)); clear hbox hb hg BK2 HB; have BK2 := n0_; have HB := n1_; clear n0_ n1_; have cz20 : w4.cell? ⟨g2, 0, none⟩ = some (.slice A0_0 l0_0.length c0_0) := (blk_cell BK2.out 0).trans rfl; have cz21 : w4.cell? ⟨g2, 1, none⟩ = some (.slice A0_1 l0_1.length c0_1) := (blk_cell BK2.out 1).trans rfl)
  | (go_at_call 30; refine (pump_Drop.calls 1000 _ _ l0_0 _ _ l0_1 a1 drop on 0 _ (Kd.C_below HR0.out HB.out) hc0_0 (Kd.C_below HR1.out HB.out) hc0_1 HDR.out).mono ?_; rintro e w5 ⟨rfl, hb⟩; have n0_ := zA (blk_both BK2.out hb).1; have n1_ := zA (blk_both BK4.out hb).1; have n2_ := zA (HB.out.trans (hb.mono HB.out.size)); clear BK2 BK4 HB hb cz20 cz21; have BK2 := n0_; have BK4 := n1_; have HB := n2_; clear n0_ n1_ n2_)
  | ((with_reducible refine gate_dst (N := 9) rfl ?_); refine box_event ?hg (N := 9) ?hd (cs := #[.slice none 0 0, .slice none 0 0]) (t := 56) ?hr ?_; (case hd => rfl); (case hg => rfl); (case hr => first | (go_simp; done) | (go_simp; rfl)); intro g9 hg w9 hbox hb; have BK9 := zA hbox; have n0_ := zA (blk_both (blk_alloc BK2.out _) hb).1; have n1_ := zA (blk_both (blk_alloc BK4.out _) hb).1; have BK7 := zA (blk_both (heap_alloc_new w5 (.cells #[.int .i64 (on : Int)] 3)) hb).1; have G7 := zA HB.out.size; have n2_ := zA ((below_alloc HB.out _).trans (hb.mono (below_alloc HB.out _).size)); have L9 := zA (show g2 < g9 ∧ g4 < g9 ∧ w5.heap.size < g9 by rw [hg]; have h2 := (Array.getElem?_eq_some_iff.1 BK2.out).1; have h4 := (Array.getElem?_eq_some_iff.1 BK4.out).1; refine ⟨?_, ?_, ?_⟩ <;> simp <;> omega); clear hbox hb hg BK2 BK4 HB; have BK2 := n0_; have BK4 := n1_; have HB := n2_; clear n0_ n1_ n2_; have cz20 : w9.cell? ⟨g2, 0, none⟩ = some (.slice A0_0 l0_0.length c0_0) := (blk_cell BK2.out 0).trans rfl; have cz7 : w9.cell? ⟨w5.heap.size, 0, none⟩ = some (.int .i64 (on : Int)) := (blk_cell BK7.out 0).trans rfl; generalize w5.heap.size = g7 at *)
  | fail)
 obtain ⟨p1, q1⟩ := HP.out
 have c1 : decide ((0 : Int) < l0_0.length) = true := decide_eq_true (by omega)
 have c2 : decide (0 < l0_0.length) = true := decide_eq_true (by omega)
 obtain ⟨ad0, Al, cl, ea0, h0, hl0, hC0⟩ := at_L4 HR0.out 0 (Int.le_refl 0) (by omega)
 subst ea0
 rw [show ((0 : Int)).toNat = 0 from rfl, Addr.add_zero'] at h0
 replace h0 := (HB.out.cell (World.block_lt_of_cell? _ _ h0)).trans h0
 have HC0 := zA (Kd.C_below hC0 HB.out)
 clear hC0
 refine wp_loop_rounds 2 ?_
 unfold Code.rounds
 go_wp2_with fail
 refine (tabled_most.calls Al cl (rd_L4 l0_0 0) on sums lasts w9 HC0.out hl0 HSU.out).mono ?_
 rintro e w10 ⟨v0, v1, rfl, ho0, ho1, hb⟩
 obtain ⟨As, cs, rfl⟩ := Kd.R_slice ho0
 obtain ⟨Ap, cp, rfl⟩ := Kd.R_slice ho1
 have HSM := zA (Kd.R_reads' ho0).2.2
 have n0_ := zA (blk_both BK2.out hb).1
 have n1_ := zA (blk_both BK4.out hb).1
 have n2_ := zA (blk_both BK7.out hb).1
 have n3_ := zA (blk_both BK9.out hb).1
 have n4_ := zA (HB.out.trans (hb.mono HB.out.size))
 have n5_ := zA (blk_both BK9.out hb).2
 have S10 := zA hb.size
 clear BK2 BK4 BK7 BK9 HB hb ho0 ho1 cz20 cz7 h0 HC0; have BK2 := n0_; have BK4 := n1_; have BK7 := n2_; have BK9 := n3_; have HB := n4_; have L10 := n5_; clear n0_ n1_ n2_ n3_ n4_ n5_
 have cz7 : w10.cell? ⟨g7, 0, none⟩ = some (.int .i64 (on : Int)) := (blk_cell BK7.out 0).trans rfl
 have m0 : decide (0 ≤ (on : Int)) = true := decide_eq_true (by omega)
 have m1 : decide ((on : Int).toNat ≤ 35184372088832) = true := decide_eq_true (by omega)
 have mpos : Aside0 (0 < (List.replicate (on : Int).toNat (0 : Int)).length) := ⟨by rw [List.length_replicate]; omega⟩
 go_wp2_with (first | ((with_reducible refine gate_dst (N := 46) rfl ?_); refine Kd.R_make (Kd.int .i64) _ 3 rfl (N := 46) rfl 30 _ _ rfl (on : Int) rfl rfl Try.underlying30 (.int .i64 0) 8 info3 rfl (by decide) (by omega) 0 (ok := fun _ => True) (okp := fun _ => True) rfl (fun _ hk => hk) trivial (of_decide_eq_true m0) (Nat.le_trans (Nat.mul_le_mul_right _ (of_decide_eq_true m1 : (on : Int).toNat ≤ 35184372088832)) (by omega)) (Below.refl _ _) (Nat.le_refl _) ?_; intro v46 w46 ho hb hg_ hnew_; clear hg_ hnew_; obtain ⟨gR, cR, eR, hR1, hR2, _⟩ := Kd.R_form ho mpos.out; rw [show (List.replicate (on : Int).toNat (0 : Int)).length = on by simp] at eR; subst eR; have HV := zA ho; have GR := zA hR1; have GR2 := zA hR2; have HB46 := zA hb; clear ho hb hR1 hR2) | fail)
 have HV0 := zA (show (Kd.int .i64).R 3 w46 w10.heap.size (fun _ => True) (.slice (some ⟨gR, 0, none⟩) on cR) (stepsAt sums on 0) from by
  rw [stepsAt_zero]; have := HV.out; rw [show (on : Int).toNat = on from Int.toNat_natCast on] at this; exact this)
 clear HV m0 m1 mpos c1 c2 cz7
 have hon : on ≤ 200 := by omega
 go_loopg [49] on (fun kq v49 w' => ∃ q : Int, v49 = .int .i64 q ∧ Aside0 (0 ≤ q ∧ q ≤ on ∧ (kq : Int) = on - q) ∧ Aside0 ((Kd.int .i64).R 3 w' w10.heap.size (fun _ => True) (.slice (some ⟨gR, 0, none⟩) on cR) (stepsAt sums on q.toNat)) ∧ Aside0 (Below gR w46 w'))
 case atStart => exact ⟨0, rfl, ⟨Int.le_refl _, Int.le_of_lt o0, by omega⟩, HV0, ⟨Below.refl _ _⟩⟩
 case round =>
  clear HV0
  obtain ⟨q, rfl, HQ, HR2, HB2⟩ := hrel
  by_cases cq : q < (on : Int)
  ·
   have q0 : (0 : Int) ≤ q := HQ.out.1
   obtain ⟨q1, hq1⟩ : ∃ q1 : Int, q + 1 = q1 := ⟨_, rfl⟩
   have qb : q < (sums.length : Int) := by rw [HLE.out.1]; exact Int.lt_trans cq (Int.lt_succ _)
   have qb1 : q1 < (sums.length : Int) := by rw [HLE.out.1, ← hq1]; exact Int.add_lt_add_right cq 1
   have q10 : 0 ≤ q1 := by rw [← hq1]; exact Int.add_nonneg q0 (by decide)
   have cq1 : decide (q < (on : Int)) = true := decide_eq_true cq
   have HCS := Kd.C_below HSM.out (below_chain HB46.out HB2.out GR.out)
   obtain ⟨ax, es, s0⟩ := Kd.at_int HCS q q0 qb
   subst es
   obtain ⟨ax2, es2, s1⟩ := Kd.at_int HCS q1 q10 qb1
   injection es2 with es2
   subst es2
   have hst := stepsAt_succ sums (n := on) (q := q.toNat) (by omega)
   rw [show ((q.toNat : Nat) : Int) = q by omega, show q.toNat + 1 = q1.toNat by omega, hq1] at hst
   obtain ⟨hc0, hf0⟩ := Kd.R_celln 0 HR2.out q q0 cq
   obtain ⟨x0, hx0⟩ : ∃ x0, rd sums q = x0 := ⟨_, rfl⟩
   obtain ⟨x1, hx1⟩ : ∃ x1, rd sums q1 = x1 := ⟨_, rfl⟩
   rw [hx0] at s0 hst
   rw [hx1] at s1 hst
   have HST := zA hst
   have HQ1 := zA (show q1 ≤ on ∧ ((on - q1.toNat : Nat) : Int) = on - q1 by omega)
   have hwr : wrap64 (q + 1) = q1 := by rw [w64s (by omega) (by omega)]; exact hq1
   have hwq : IntKind.i64.wrap (q + 1) = q1 := (i64_w _).trans hwr
   have hws : IntKind.i64.wrap (x1 - x0) = wrap64 (x1 - x0) := i64_w _
   have qb3 := eq_true qb
   have qb4 := eq_true qb1
   have q01 := eq_true q0
   have q11 := eq_true q10
   have cq3 := eq_true cq
   have HQE := zA hq1
   clear hq1 HCS hst hx0 hx1
   go_wp2
   refine wp_region_still_tail 13 (by kernel_rfl) (by kernel_rfl) ?_
   simp only [List.take_succ_cons, List.take_zero, List.drop_succ_cons, List.drop_zero]
   change wpStill _ _ (World.drew _) (fun a' => wpList _ _ _ _ a' (World.drew _)) _ _
   (repeat still_step)
   refine wpStill_nil ?_
   go_wp2
   go_roundg (on - q1.toNat)
   case measure => have := HQ.out.2.2; have := HQ1.out.2; have := HQE.out; omega
   case rel => exact ⟨q1, by first | rfl | simp, ⟨of_eq_true q11, HQ1.out.1, HQ1.out.2⟩, ⟨by rw [HST.out]; exact Kd.R_drew (Kd.R_putn HR2.out q _)⟩, ⟨by repeat (first | (with_reducible first | exact HB2.out | apply below_alloc | apply pw_below_drewN | apply below_drew1 | apply below_drew | refine below_setz ?_ _ _ _ (Nat.le_refl _)) | exact HB2.out)⟩⟩
  ·
   have hq : q.toNat = on := by have := HQ.out.2.1; omega
   have hR3 := HR2.out
   rw [hq, stepsAt_full] at hR3
   have hlD : (stepsN sums on).length = on := by rw [← stepsAt_full, stepsAt_len]
   have FD := zA (show Kd.R (Kd.int .i64) 3 wr w10.heap.size (fun k => k = gR) (.slice (some ⟨gR, 0, none⟩) on cR) (stepsN sums on) from Kd.R_of_own (enc := Value.int .i64) (h1 := fun _ => rfl) (Kd.own_of_R hR3) (fun k hk => by simpa [Value.ownBlock] using hk.symm))
   have hroom : on ≤ cR := by have := (Kd.R_reads' hR3).2.1; exact this
   have B10 := below_chain HB46.out HB2.out GR.out
   have n0_ := zA ((B10.block _ (Array.getElem?_eq_some_iff.1 BK2.out).1).trans BK2.out); have n1_ := zA ((B10.block _ (Array.getElem?_eq_some_iff.1 BK4.out).1).trans BK4.out); have n2_ := zA ((B10.block _ (Array.getElem?_eq_some_iff.1 BK7.out).1).trans BK7.out); have n3_ := zA ((B10.block _ (Array.getElem?_eq_some_iff.1 BK9.out).1).trans BK9.out); have n4_ := zA (HB.out.trans (B10.mono HB.out.size))
   have G9R := zA (show g9 < gR from Nat.lt_of_lt_of_le (Array.getElem?_eq_some_iff.1 BK9.out).1 GR.out)
   have GRW := zA (Nat.lt_of_lt_of_le GR2.out HB2.out.size)
   clear BK2 BK4 BK7 BK9 HB B10 hR3 HR2 HB2 HB46 HSM; have BK2 := n0_; have BK4 := n1_; have BK7 := n2_; have BK9 := n3_; have HB := n4_; clear n0_ n1_ n2_ n3_ n4_
   have cz90 : wr.cell? ⟨g9, 0, none⟩ = some (.slice none 0 0) := (blk_cell BK9.out 0).trans rfl
   obtain ⟨vn, hvn⟩ : ∃ vn, vn = Value.slice none 0 0 := ⟨_, rfl⟩
   have HVN := zA hvn
   rw [← hvn] at cz90
   clear hvn
   have cz91 : wr.cell? ⟨g9, 1, none⟩ = some (.slice none 0 0) := (blk_cell BK9.out 1).trans rfl
   have cf90 := blk_frozen BK9.out 0
   have c3 : decide (q < (on : Int)) = false := decide_eq_false cq
   go_wp2_with (first | ((with_reducible refine gate_dst (N := 66) rfl ?_); refine Kd.event_run rfl (v := .pointer (some ⟨g9, 0, none⟩)) (w1 := wr) ?e1 ?_; (case e1 => first | (go_simp; done) | (go_simp; rfl)); refine Kd.event_run rfl (v := vn) (w1 := wr) ?e2 ?_; (case e2 => first | (go_simp; done) | (go_simp; rfl)); refine Kd.event_run rfl (v := .slice (some ⟨gR, 0, none⟩) on cR) (w1 := wr) ?e3 ?_; (case e3 => first | (go_simp; done) | (go_simp; rfl)); refine Kd.event_run rfl (v := .slice (some ⟨wr.heap.size, 0, none⟩) 1 1) (w1 := wr.alloc (.cells #[.slice (some ⟨gR, 0, none⟩) on cR] 30)) ?e4 ?_; (case e4 => first | (go_simp; done) | (go_simp; rfl)); refine wpList_append_one _ rfl (.tmp 67) (.tmp 69) rfl vn HVN.out rfl _ rfl (.slice (some ⟨gR, 0, none⟩) on cR) rfl ?hc ?_; (case hc => exact cell_new_at _ _ _ _ rfl); intro gA cA wA hA1 hA2 hA3 hA4 hA5; have BKA := zA (blk_both (blk_alloc BK9.out _) hA5).1; have BA := zA ((below_alloc (Below.refl wr.heap.size wr) _).trans (hA5.mono (by simp))); have SA := zA (show wr.heap.size < gA ∧ gA < wA.heap.size from ⟨by have := hA2; simp at this; omega, hA3⟩); have cA0 : wA.cell? ⟨g9, 0, none⟩ = some (.slice none 0 0) := (blk_cell BKA.out 0).trans rfl; have cA1 := blk_frozen BKA.out 0; have CAA := zA hA4; have CAR := zA hA1; clear hA1 hA2 hA3 hA4 hA5 cz90 cz91 cf90) | fail)
   unfold Code.rounds
   have SZ9 : w.heap.size ≤ g9 := Nat.le_trans G4.out (Nat.le_of_lt L9.out.2.1)
   have g9A : g9 ≠ gA := by have := SA.out.1; have := (Array.getElem?_eq_some_iff.1 BK9.out).1; omega
   have g9R : g9 ≠ gR := Nat.ne_of_lt G9R.out
   obtain ⟨WB, hWB⟩ : ∃ WB, WB = wA.setCell ⟨g9, 0, none⟩ (.slice (some ⟨gA, 0, none⟩) 1 cA) := ⟨_, rfl⟩
   rw [← hWB]
   have oth : ∀ k, k ≠ g9 → WB.heap[k]? = wA.heap[k]? := fun k hk => by rw [hWB]; exact Below.heap_setCell _ _ _ _ hk
   have n0_ := zA ((oth g2 (Nat.ne_of_lt L9.out.1)).trans ((blk_both BK2.out BA.out).1)); have n1_ := zA ((oth g4 (Nat.ne_of_lt L9.out.2.1)).trans ((blk_both BK4.out BA.out).1)); have n2_ := zA ((oth g7 (Nat.ne_of_lt L9.out.2.2)).trans ((blk_both BK7.out BA.out).1))
   have n3_ : Aside0 (WB.heap[g9]? = some (.cells #[.slice (some ⟨gA, 0, none⟩) 1 cA, .slice none 0 0] 56 (0, 0))) := ⟨by rw [hWB]; exact blk_put (cs := #[.slice none 0 0, .slice none 0 0]) BKA.out 0 _ rfl⟩
   have n4_ : Aside0 (Below w.heap.size w WB) := ⟨by rw [hWB]; exact below_setz (HB.out.trans (BA.out.mono HB.out.size)) g9 0 _ SZ9⟩
   have n5_ : Aside0 (WB.cell? ⟨gA, 0, none⟩ = some (.slice (some ⟨gR, 0, none⟩) on cR)) := ⟨(cell_same (a := ⟨gA, 0, none⟩) (oth gA (Ne.symm g9A))).trans CAA.out⟩
   have n6_ := zA (Kd.R_step FD.out (w1 := WB) (fun k hk hlt => by rw [hk]; exact (oth gR (Ne.symm g9R)).trans (BA.out.block _ (by rw [← hk]; exact hlt))))
   have n7_ : Aside0 (gA < WB.heap.size ∧ gR < gA ∧ wr.heap.size ≤ WB.heap.size) := ⟨by rw [hWB, size_set]; have := SA.out; have := BA.out.size; have := GRW.out; omega⟩
   clear BK2 BK4 BK7 BK9 HB CAA FD BKA BA oth hWB cA0 cA1 SA; have BK2 := n0_; have BK4 := n1_; have BK7 := n2_; have BK9 := n3_; have HB := n4_; have CAA := n5_; have FD := n6_; have SA := n7_; clear n0_ n1_ n2_ n3_ n4_ n5_ n6_ n7_
   have cz21 : WB.cell? ⟨g2, 1, none⟩ = some (.slice A0_1 l0_1.length c0_1) := (blk_cell BK2.out 1).trans rfl
   have cz91 : WB.cell? ⟨g9, 1, none⟩ = some (.slice none 0 0) := (blk_cell BK9.out 1).trans rfl
   have cf91 := blk_frozen BK9.out 1
   go_wp2_with (first | ((with_reducible refine gate_dst (N := 76) rfl ?_); refine Kd.R_make (Kd.scalar (fun x : Option Addr × Nat × Nat => Value.slice x.1 x.2.1 x.2.2) (fun _ => rfl)) _ 30 rfl (N := 76) rfl 54 _ _ rfl (1 : Int) rfl rfl Try.underlying54 (.slice none 0 0) 24 info30 rfl (by decide) (by omega) (none, 0, 0) (ok := fun _ => True) (okp := fun _ => True) rfl (fun _ hk => hk) trivial (by decide) (by decide) (Below.refl _ _) (Nat.le_refl _) ?_; intro v76 w76 ho hb hg_ hnew_; clear hg_ hnew_; obtain ⟨gC, cC, LC, ev, hC1, hC2, hC3, hC4⟩ := rows_form ho; subst ev; have GC := zA hC1; have HGC := zA hC2; have HCC := zA (And.intro hC3 hC4); have HB76 := zA hb; have BK9m := zA (blk_both BK9.out hb).1; have cz91m : w76.cell? ⟨g9, 1, none⟩ = some (.slice none 0 0) := (blk_cell BK9m.out 1).trans rfl; have cf91m := blk_frozen BK9m.out 1; have BK2m := zA (blk_both BK2.out hb).1; have BK7m := zA (blk_both BK7.out hb).1; have cz20m : w76.cell? ⟨g2, 0, none⟩ = some (.slice (some ad0) l0_0.length c0_0) := (blk_cell BK2m.out 0).trans rfl; have cz21m : w76.cell? ⟨g2, 1, none⟩ = some (.slice A0_1 l0_1.length c0_1) := (blk_cell BK2m.out 1).trans rfl; have cz7m : w76.cell? ⟨g7, 0, none⟩ = some (.int .i64 (on : Int)) := (blk_cell BK7m.out 0).trans rfl; have n29 : g2 ≠ g9 := Nat.ne_of_lt L9.out.1; have n79 : g7 ≠ g9 := Nat.ne_of_lt L9.out.2.2; clear ho hb hC1 hC2 hC3 hC4 cz91 cf91) | fail)
   obtain ⟨WC, hWC⟩ : ∃ WC, WC = w76.setCell ⟨g9, 1, none⟩ (.slice (some ⟨gC, 0, none⟩) 1 cC) := ⟨_, rfl⟩
   rw [← hWC]
   have oth : ∀ k, k ≠ g9 → WC.heap[k]? = w76.heap[k]? := fun k hk => by rw [hWC]; exact Below.heap_setCell _ _ _ _ hk
   have othB : ∀ k, k < WB.heap.size → k ≠ g9 → WC.heap[k]? = WB.heap[k]? := fun k h1 h2 => (oth k h2).trans (HB76.out.block k h1)
   have l9B : g9 < WB.heap.size := (Array.getElem?_eq_some_iff.1 BK9.out).1
   have gC9 : gC ≠ g9 := by have := GC.out; omega
   have n0_ := zA ((othB g2 (Array.getElem?_eq_some_iff.1 BK2.out).1 n29).trans BK2.out); have n1_ := zA ((othB g4 (Array.getElem?_eq_some_iff.1 BK4.out).1 (Nat.ne_of_lt L9.out.2.1)).trans BK4.out); have n2_ := zA ((othB g7 (Array.getElem?_eq_some_iff.1 BK7.out).1 n79).trans BK7.out)
   have n3_ : Aside0 (WC.heap[g9]? = some (.cells #[.slice (some ⟨gA, 0, none⟩) 1 cA, .slice (some ⟨gC, 0, none⟩) 1 cC] 56 (0, 0))) := ⟨by rw [hWC]; exact blk_put (cs := #[.slice (some ⟨gA, 0, none⟩) 1 cA, .slice none 0 0]) BK9m.out 1 _ rfl⟩
   have n4_ : Aside0 (Below w.heap.size w WC) := ⟨by rw [hWC]; exact below_setz (HB.out.trans (HB76.out.mono HB.out.size)) g9 1 _ SZ9⟩
   have n5_ : Aside0 (WC.cell? ⟨gA, 0, none⟩ = some (.slice (some ⟨gR, 0, none⟩) on cR)) := ⟨(cell_same (a := ⟨gA, 0, none⟩) (othB gA SA.out.1 (Ne.symm g9A))).trans CAA.out⟩
   have n6_ := zA (Kd.R_step FD.out (w1 := WC) (fun k hk hlt => by rw [hk]; exact othB gR (by rw [← hk]; exact hlt) (Ne.symm g9R)))
   have n7_ : Aside0 (WC.heap[gC]? = some (.cells LC.toArray 30 (0, 0))) := ⟨(oth gC gC9).trans HGC.out⟩
   have n8_ : Aside0 (gA < gC ∧ gR < gC ∧ g9 < gC ∧ w.heap.size ≤ gC) := ⟨by have := GC.out; have := SA.out; have := HB.out.size; omega⟩
   clear BK2 BK4 BK7 BK9 HB CAA FD HGC oth othB hWC BK9m BK2m BK7m cz20m cz21m cz7m cz91m cf91m n29 n79 HB76 cz21; have BK2 := n0_; have BK4 := n1_; have BK7 := n2_; have BK9 := n3_; have HB := n4_; have CAA := n5_; have FD := n6_; have HGC := n7_; have LGC := n8_; clear n0_ n1_ n2_ n3_ n4_ n5_ n6_ n7_ n8_
   have RC := regs.callsN (some ad0) c0_0 l0_0 A0_1 c0_1 l0_1 on rgs WC (Kd.C_below HR1.out HB.out) hc0_1 HRG.out
   rw [p1, q1, HLE.out.2.1] at RC
   refine RC.mono ?_
   rintro e w11 ⟨Ar, cr, rfl, hcr, hRC, hb, hnew⟩
   clear RC
   obtain ⟨adr, crow, er, _, hK, hcells⟩ := Kd.C_get hRC z115 0 (Int.le_refl 0) (by decide)
   subst er
   obtain ⟨_, _, rfl, ⟨Ab, cb, rfl, lb, gb⟩, _, _, rfl, ⟨v1, rfl, h1⟩, ⟨v2, rfl, h2⟩⟩ := hK
   obtain ⟨Ao, co, rfl⟩ := Kd.R_slice h1
   obtain ⟨Aw, cw, rfl⟩ := Kd.R_slice h2
   have FO := zA (show Kd.F (Kd.int .i64) w11 (fun k => WC.heap.size ≤ k ∧ k < w11.heap.size) Ao (rd_T115 rgs 0).f1.length (rd_T115 rgs 0).f1 from Kd.F_mono (Kd.R_F (Kd.R_bound h1)) (fun k hk => ⟨hk.2.1, hk.2.2.1⟩))
   have hc' : ∀ j u, ([Value.slice Ab (rd_T115 rgs 0).f0.length cb, .slice Ao (rd_T115 rgs 0).f1.length co, .slice Aw (rd_T115 rgs 0).f2.length cw] : List Value)[j]? = some u → w11.cell? (adr.add (0 * 3 + j)) = some u := hcells
   have k0 : w11.cell? (adr.add (0 * 3)) = some (.slice Ab (rd_T115 rgs 0).f0.length cb) := hc' 0 _ rfl
   have k1 : w11.cell? ⟨(adr.add (0 * 3)).block, (adr.add (0 * 3)).off + 1, none⟩ = some (.slice Ao (rd_T115 rgs 0).f1.length co) := by rw [← add_field _ _ 1 (by omega)]; exact hc' 1 _ rfl
   have k2 : w11.cell? ⟨(adr.add (0 * 3)).block, (adr.add (0 * 3)).off + 2, none⟩ = some (.slice Aw (rd_T115 rgs 0).f2.length cw) := by rw [← add_field _ _ 2 (by omega)]; exact hc' 2 _ rfl
   have ladr : adr.block < w11.heap.size := by have := World.block_lt_of_cell? _ _ k0; rwa [add_block] at this
   have n0_ := zA ((blk_both BK2.out hb).1); have n1_ := zA ((blk_both BK4.out hb).1); have n2_ := zA ((blk_both BK7.out hb).1); have n3_ := zA ((blk_both BK9.out hb).1); have n4_ := zA (HB.out.trans (hb.mono HB.out.size)); have n5_ := zA ((hb.cell (World.block_lt_of_cell? _ _ CAA.out)).trans CAA.out); have n6_ := zA (Kd.R_step FD.out (w1 := w11) (fun k hk hlt => hb.block k hlt)); have n7_ := zA ((blk_both HGC.out hb).1)
   have NEW := zA (hnew adr rfl)
   have S11 := zA (show gC < WC.heap.size ∧ WC.heap.size ≤ w11.heap.size from ⟨(Array.getElem?_eq_some_iff.1 HGC.out).1, hb.size⟩)
   clear BK2 BK4 BK7 BK9 HB CAA FD HGC hb hnew hRC hcells hc' h1 h2 gb lb
   have BK2 := n0_; have BK4 := n1_; have BK7 := n2_; have BK9 := n3_; have HB := n4_; have CAA := n5_; have FD := n6_; have HGC := n7_; clear n0_ n1_ n2_ n3_ n4_ n5_ n6_ n7_
   have cz7 : w11.cell? ⟨g7, 0, none⟩ = some (.int .i64 (on : Int)) := (blk_cell BK7.out 0).trans rfl
   have hol : ((rd_T115 rgs 0).f1.length : Int) = on + 1 := HLE.out.2.2
   obtain ⟨own, hown⟩ : ∃ own, own = (rd_T115 rgs 0).f1 := ⟨_, rfl⟩
   rw [← hown] at hol FO k1
   have HOW := zA hown
   have HOL := zA hol
   have KK := zA (And.intro k0 (And.intro k1 k2))
   clear hol hown k0 k1 k2
   have cz7b : ∀ o, (w11.alloc o).cell? ⟨g7, 0, none⟩ = some (.int .i64 (on : Int)) := fun o => Lib.cell?_alloc_some _ cz7
   go_wp2_with fail
   refine (back_c (some adr) 1 cr _).mono ?_
   rintro e w' ⟨rfl, rfl⟩
   go_wp2_with fail
   obtain ⟨W2, hW2⟩ : ∃ W2, W2 = ((w11.alloc (.cells #[.slice (some adr) 1 cr] 109)).alloc (.cells #[.int .i64 (on : Int)] 3)).alloc (.cells #[.slice (some adr) 1 cr] 109) := ⟨_, rfl⟩
   rw [← hW2]
   have b2 : Below w11.heap.size w11 W2 := by rw [hW2]; exact below_alloc (below_alloc (below_alloc (Below.refl _ _) _) _) _
   have z2 : W2.heap.size = w11.heap.size + 3 := by rw [hW2]; simp
   have cbx : W2.cell? ⟨w11.heap.size + 2, 0, none⟩ = some (.slice (some adr) 1 cr) := by rw [hW2]; exact cell_new_at _ _ _ _ (by simp)
   have c16 : W2.heap[w11.heap.size + 1]? = some (.cells #[.int .i64 (on : Int)] 3 (0, 0)) := by
    rw [hW2]
    refine (Below.heap_alloc _ _ _ (by simp)).trans ?_
    have := heap_alloc_new (w11.alloc (.cells #[.slice (some adr) 1 cr] 109)) (.cells #[.int .i64 (on : Int)] 3)
    simpa using this
   have c15 : W2.heap[w11.heap.size]? = some (.cells #[.slice (some adr) 1 cr] 109 (0, 0)) := by
    rw [hW2]
    exact (Below.heap_alloc _ _ _ (by simp only [World.size_alloc]; omega)).trans ((Below.heap_alloc _ _ _ (by simp)).trans (heap_alloc_new _ _))
   have n0_ := zA ((blk_both BK2.out b2).1); have n1_ := zA ((blk_both BK4.out b2).1); have n2_ := zA ((blk_both BK7.out b2).1); have n3_ := zA ((blk_both BK9.out b2).1); have n4_ := zA (HB.out.trans (b2.mono HB.out.size)); have n5_ := zA ((b2.cell (World.block_lt_of_cell? _ _ CAA.out)).trans CAA.out); have n6_ := zA (Kd.R_step FD.out (w1 := W2) (fun k hk hlt => b2.block k hlt)); have n7_ := zA ((blk_both HGC.out b2).1); have n8_ := zA (Kd.F_step FO.out (W1 := W2) (fun k hk hlt => b2.block k hlt)); have n9_ := zA (And.intro ((b2.cell (World.block_lt_of_cell? _ _ KK.out.1)).trans KK.out.1) (And.intro ((b2.cell (World.block_lt_of_cell? _ _ KK.out.2.1)).trans KK.out.2.1) ((b2.cell (World.block_lt_of_cell? _ _ KK.out.2.2)).trans KK.out.2.2))); clear BK2 BK4 BK7 BK9 HB CAA FD HGC FO KK b2 hW2 cz7 cz7b; have BK2 := n0_; have BK4 := n1_; have BK7 := n2_; have BK9 := n3_; have HB := n4_; have CAA := n5_; have FD := n6_; have HGC := n7_; have FO := n8_; have KK := n9_
   have BK15 := zA c15
   have BK16 := zA c16
   clear n0_ n1_ n2_ n3_ n4_ n5_ n6_ n7_ n8_ n9_ c15 c16
   refine wpIn_wide.1 (range_act (n := 10) rfl (by omega) rfl trivial (enters_of Try.func87 (by kernel_rfl) rfl)
    (back_stops adr 1 cr (fun _ => (.slice Ab (rd_T115 rgs 0).f0.length cb, .slice Ao own.length co, .slice Aw (rd_T115 rgs 0).f2.length cw)) (w11.heap.size + 2) W2 (by omega) cbx (fun j hj => by
     obtain rfl : j = 0 := by omega
     exact KK.out))
    KeepB.trans (KeepB.put (B := W2.heap.size) (by omega) (by omega)) (Below.refl _ _) (fun _ => rfl)
    (fun pre W' => (pre = [] ∧ Below W2.heap.size W2 W') ∨ (pre ≠ [] ∧ Below w.heap.size w W' ∧ W2.heap.size ≤ W'.heap.size ∧ (∀ k, k < W2.heap.size → k ≠ gC → k ≠ w11.heap.size + 1 → W'.heap[k]? = W2.heap[k]?) ∧ ∃ v, W'.cell? ⟨gC, 0, none⟩ = some v ∧ Kd.R (Kd.int .i64) 3 W' W2.heap.size (fun _ => True) v (stepsN own on)))
    (fun _ _ _ => False) ?hI (fun _ _ _ _ _ h _ _ => h) (.inl ⟨rfl, Below.refl _ _⟩)
    (fun a x a' W' => ∃ B18, W2.heap.size ≤ B18 ∧ W'.heap[B18]? = some (.cells #[.slice Ab (rd_T115 rgs 0).f0.length cb, .slice Ao own.length co, .slice Aw (rd_T115 rgs 0).f2.length cw] 115 (0, 0)) ∧
     a' = { tmps := (((a.tmps.setIfInBounds 84 (.int .i64 0)).setIfInBounds 85 (.agg #[.slice Ab (rd_T115 rgs 0).f0.length cb, .slice Ao own.length co, .slice Aw (rd_T115 rgs 0).f2.length cw])).setIfInBounds 17 (.int .i64 0)).setIfInBounds 18 (.pointer (some ⟨B18, 0, none⟩)), defers := [] })
    ?hAx ?hassign ?hbody ?hdone (fun _ _ _ _ _ _ h _ => h.elim))
   case hI =>
    intro pre A B row hs hg hrow
    have kb : KeepC A B := ⟨hg.size, fun k o hk ho => (hg.block k (Array.getElem?_eq_some_iff.1 hk).1 (fun e => by obtain ⟨_, o2, h9, h10⟩ := hrow k e.symm; rw [hk] at h9; injection h9 with h9; subst h9; rw [ho] at h10; cases h10)).trans hk⟩
    have hlo : ∀ k, k < W2.heap.size → W2.heap.size ≤ A.heap.size → B.heap[k]? = A.heap[k]? := fun k hk hs => hg.block k (by omega) (fun e => by obtain ⟨h1, _⟩ := hrow k e.symm; omega)
    rcases hs with ⟨e, h1⟩ | ⟨e, h1, h2, h3, v, h4, h5⟩
    ·
     exact .inl ⟨e, h1.trans ⟨hg.os, hg.tape, hg.output, hg.size, fun k hk => hlo k hk h1.size⟩⟩
    ·
     exact .inr ⟨e, h1.trans ⟨hg.os, hg.tape, hg.output, hg.size, fun k hk => hlo k (Nat.lt_of_lt_of_le hk HB.out.size) h2⟩, Nat.le_trans h2 hg.size, fun k hk n1 n2 => (hlo k hk h2).trans (h3 k hk n1 n2), v, kb.cell h4, R_keepC h5 kb⟩
   case hAx =>
    intro x a' _ A B row hs hg hrow
    obtain ⟨B18, h1, h2, h3⟩ := hs
    refine ⟨B18, h1, (hg.block B18 (Array.getElem?_eq_some_iff.1 h2).1 (fun e => ?_)).trans h2, h3⟩
    obtain ⟨_, o2, h9, h10⟩ := hrow B18 e.symm
    rw [h2] at h9; injection h9 with h9; subst h9; cases h10
   case hassign =>
    intro lp pre x W K hI hK
    have hs : W2.heap.size ≤ W.heap.size := by rcases hI with ⟨_, h1⟩ | ⟨_, _, h2, _⟩; exact h1.size; exact h2
    have HI := zA hI
    have HK := zA hK
    clear hI hK
    gi_wp2
    have hb : Below W.heap.size W (W.alloc (.cells #[.slice Ab (rd_T115 rgs 0).f0.length cb, .slice Ao own.length co, .slice Aw (rd_T115 rgs 0).f2.length cw] 115)) := below_alloc (Below.refl _ _) _
    refine HK.out _ _ ⟨hb.size, fun k o _ hk _ => (hb.block k (Array.getElem?_eq_some_iff.1 hk).1).trans hk⟩ ⟨hb.block _ (by have := z2; omega), hb.block _ (by have := z2; omega)⟩ ?_ ⟨W.heap.size, hs, heap_alloc_new _ _, by simp only [List.setIfInBounds_toArray, List.set_cons_zero, List.set_cons_succ]⟩
    rcases HI.out with ⟨e, h1⟩ | ⟨e, h1, h2, h3, v, h4, h5⟩
    ·
     exact .inl ⟨e, h1.trans (hb.mono h1.size)⟩
    ·
     exact .inr ⟨e, h1.trans (hb.mono h1.size), Nat.le_trans h2 hb.size, fun k hk n1 n2 => (hb.block k (by omega)).trans (h3 k hk n1 n2), v, (hb.cell (World.block_lt_of_cell? _ _ h4)).trans h4, Kd.R_below h5 hb⟩
   case hbody =>
    rintro lp pre x a' W hlp _ hI ⟨B18, hB1, hB2, rfl⟩ hlen
    obtain rfl : pre = [] := List.eq_nil_of_length_eq_zero (by omega)
    have hW : Below W2.heap.size W2 W := by rcases hI with ⟨_, h1⟩ | ⟨e, _⟩; exact h1; exact absurd rfl e
    have BKr : W.heap[B18]? = _ := hB2
    have c18 : W.cell? ⟨B18, 1, none⟩ = some (.slice Ao own.length co) := (blk_cell BKr 1).trans rfl
    have o7 := (hW.block _ (Array.getElem?_eq_some_iff.1 BK7.out).1).trans BK7.out
    have o9 := (hW.block _ (Array.getElem?_eq_some_iff.1 BK9.out).1).trans BK9.out
    have o16 := (hW.block _ (Array.getElem?_eq_some_iff.1 BK16.out).1).trans BK16.out
    have oC := (hW.block _ (Array.getElem?_eq_some_iff.1 HGC.out).1).trans HGC.out
    have c7 : W.cell? ⟨g7, 0, none⟩ = some (.int .i64 (on : Int)) := (blk_cell o7 0).trans rfl
    have l16 : w11.heap.size + 1 < W2.heap.size := (Array.getElem?_eq_some_iff.1 BK16.out).1
    have lC : gC < W2.heap.size := (Array.getElem?_eq_some_iff.1 HGC.out).1
    have HW := zA hW
    have O9 := zA o9
    have O16 := zA o16
    have OC := zA oC
    have O7 := zA o7
    have OB := zA BKr
    have c7b : ∀ o, (W.alloc o).cell? ⟨g7, 0, none⟩ = some (.int .i64 (on : Int)) := fun o => Lib.cell?_alloc_some _ c7
    clear hI hW o7 o9 o16 oC BKr hB2
    simp only [List.setIfInBounds_toArray, List.set_cons_zero, List.set_cons_succ]
    gi_wp2_with fail
    refine ⟨trivial, CallsIn.inRound lp (callsIn_wide.2 ((repeat_c 1000000 on ⟨W.heap.size, 0, none⟩ 1 _ (by omega) (by omega) (cell_new_at _ _ _ _ rfl)).mono ?_))⟩
    rintro e w5 ⟨vP, xs, rfl, hxl, hxR, hb5⟩
    obtain ⟨gP, cP, eP, hP1, hP2, _⟩ := Kd.R_form hxR (by omega)
    rw [hxl] at eP
    subst eP
    have b5 : Below W.heap.size W w5 := (below_alloc (Below.refl _ _) _).trans (hb5.mono (by simp))
    obtain ⟨zP, hzP⟩ : ∃ zP, zP = (W.alloc (.cells #[.int .i64 1000000] 3)).heap.size := ⟨_, rfl⟩
    rw [← hzP] at hxR hP1
    have hz1 : W.heap.size ≤ gP := by rw [hzP] at hP1; simp at hP1; omega
    have HXR := zA hxR
    have B5 := zA b5
    have HZ := zA (And.intro hz1 (And.intro hP1 (show W.heap.size ≤ zP by rw [hzP]; simp)))
    have O16b := zA (blk_both O16.out b5).1
    have OBb := zA (blk_both OB.out b5).1
    have O9b := zA (blk_both O9.out b5).1
    have LB := zA (show B18 < gP from Nat.lt_of_lt_of_le (blk_both OB.out b5).2 hz1)
    have OCb := zA (blk_both OC.out b5).1
    have zW := HW.out.size
    clear hb5 b5 hxR hP1 hP2 hzP c7 c7b c18 O16 OB O7
    gi_wp2_with fail
    gi_loopw [21] (fun v wr => ∃ t : Int, v = .int .i64 t ∧ Aside0 (0 ≤ t ∧ t ≤ on) ∧ Aside0 (∃ P : List Int, P.length = on ∧ P.take t.toNat = (stepsN own on).take t.toNat ∧ Kd.R (Kd.int .i64) 3 wr zP (fun _ => True) (.slice (some ⟨gP, 0, none⟩) on cP) P) ∧ Aside0 (Below gP w5 wr))
     (fun v _ => on - (intOf v).toNat)
    case atStart => exact ⟨0, rfl, ⟨Int.le_refl _, by omega⟩, ⟨xs, hxl, rfl, HXR.out⟩, ⟨Below.refl _ _⟩⟩
    case round =>
     clear HXR
     obtain ⟨t, rfl, HT, HPP, HB2⟩ := hrel
     have o16 := (HB2.out.block _ (by have := HZ.out.1; omega)).trans O16b.out
     have c16 : wr.cell? ⟨w11.heap.size + 1, 0, none⟩ = some (.int .i64 (on : Int)) := (blk_cell o16 0).trans rfl
     by_cases ct : t < (on : Int)
     ·
      have t0 : 0 ≤ t := HT.out.1
      obtain ⟨P, hPl, hPt, hPR⟩ := HPP.out
      obtain ⟨t1, ht1⟩ : ∃ t1 : Int, t + 1 = t1 := ⟨_, rfl⟩
      have ob : t < (own.length : Int) := by rw [HOL.out]; exact Int.lt_trans ct (Int.lt_succ _)
      have ob1 : t1 < (own.length : Int) := by rw [HOL.out, ← ht1]; exact Int.add_lt_add_right ct 1
      have t10 : 0 ≤ t1 := by rw [← ht1]; exact Int.add_nonneg t0 (by decide)
      have BB : Below W2.heap.size W2 wr := HW.out.trans ((below_chain B5.out HB2.out HZ.out.1).mono HW.out.size)
      have CO := Kd.F_now (Kd.F_step FO.out (W1 := wr) (fun k hk _ => BB.block k (Nat.lt_of_lt_of_le hk.2 (by rw [z2]; exact Nat.le_add_right _ 3))))
      obtain ⟨ax, ea, s0⟩ := Kd.at_int CO t t0 ob
      subst ea
      obtain ⟨ax2, ea2, s1⟩ := Kd.at_int CO t1 t10 ob1
      injection ea2 with ea2
      subst ea2
      obtain ⟨hc0, hf0⟩ := Kd.R_celln 0 hPR t t0 ct
      have oB := (HB2.out.block _ LB.out).trans OBb.out
      have c18 : wr.cell? ⟨B18, 1, none⟩ = some (.slice (some ax) own.length co) := (blk_cell oB 1).trans rfl
      obtain ⟨x0, hx0⟩ : ∃ x0, rd own t = x0 := ⟨_, rfl⟩
      obtain ⟨x1, hx1⟩ : ∃ x1, rd own t1 = x1 := ⟨_, rfl⟩
      rw [hx0] at s0
      rw [hx1] at s1
      have hst : (P.set t.toNat (wrap64 (x1 - x0))).take t1.toNat = (stepsN own on).take t1.toNat := by
       rw [show t1.toNat = t.toNat + 1 by omega, take_set_succ _ (by omega), hPt, List.take_succ_eq_append_getElem (by unfold stepsN; simp; omega)]
       congr 2
       unfold stepsN
       rw [List.getElem_map, List.getElem_range, show ((t.toNat : Nat) : Int) = t by omega, ht1, hx0, hx1]
      have HST := zA (And.intro (show (P.set t.toNat (wrap64 (x1 - x0))).length = on by rw [List.length_set]; exact hPl) hst)
      have HPR := zA hPR
      have hwt : IntKind.i64.wrap t = t := (i64_w _).trans (w64s t0 (by omega))
      have hwu : wrap64 t = t := w64s t0 (by omega)
      have hw1 : IntKind.i64.wrap (t + 1) = t1 := by rw [i64_w, w64s (by omega) (by omega)]; exact ht1
      have hw2 : wrap64 (t + 1) = t1 := by rw [w64s (by omega) (by omega)]; exact ht1
      have hws : IntKind.i64.wrap (x1 - x0) = wrap64 (x1 - x0) := i64_w _
      have HT1 := zA ht1
      have ct1 : decide (t < (on : Int)) = true := decide_eq_true ct
      have q1' := eq_true ob
      have q2' := eq_true ob1
      have q3' := eq_true t0
      have q4' := eq_true t10
      have q5' := eq_true ct
      clear ht1 hPt hPl hPR hst CO BB hx0 hx1 o16 oB
      gi_wp2
      refine stillIn_of 19 (by kernel_rfl) rfl (by kernel_rfl) ?_
      simp only [List.take_succ_cons, List.take_zero, List.drop_succ_cons, List.drop_zero]
      change wpStill _ _ (World.drew _) (fun a' => wpList _ _ _ _ a' (World.drew _)) _ _
      (repeat still_step)
      refine wpStill_nil ?_
      go_wp2
      refine Tame.normal ?_
      gi_wp2
      go_roundw
      case rel => exact ⟨t1, by first | rfl | simp, ⟨of_eq_true q4', by have := HT1.out; have := of_eq_true q5'; omega⟩, ⟨_, HST.out.1, HST.out.2, Kd.R_drew (Kd.R_putn HPR.out t (wrap64 (x1 - x0)))⟩, ⟨by repeat (first | (with_reducible first | exact HB2.out | apply below_alloc | apply pw_below_drewN | apply below_drew1 | apply below_drew | refine below_setz ?_ _ _ _ (Nat.le_refl _)) | exact HB2.out)⟩⟩
      case measure => simp [intOf]; have := HT1.out; have := of_eq_true q5'; have := of_eq_true q3'; omega
     ·
      have ht : t.toNat = on := by have := HT.out.2; omega
      obtain ⟨P, hPl, hPt, hPR⟩ := HPP.out
      have hP : P = stepsN own on := by
       have e1 : P.take t.toNat = P := List.take_of_length_le (by omega)
       have e2 : (stepsN own on).take t.toNat = stepsN own on := List.take_of_length_le (by unfold stepsN; simp; omega)
       rw [e1, e2] at hPt; exact hPt
      subst hP
      have ct1 : decide (t < (on : Int)) = false := decide_eq_false ct
      have BB : Below W.heap.size W wr := below_chain B5.out HB2.out HZ.out.1
      have o9 := (HB2.out.block _ (Nat.lt_of_lt_of_le (Array.getElem?_eq_some_iff.1 O9.out).1 HZ.out.1)).trans O9b.out
      have oC := (HB2.out.block _ (Nat.lt_of_lt_of_le (Array.getElem?_eq_some_iff.1 OC.out).1 HZ.out.1)).trans OCb.out
      have c91 : wr.cell? ⟨g9, 1, none⟩ = some (.slice (some ⟨gC, 0, none⟩) 1 cC) := (blk_cell o9 1).trans rfl
      obtain ⟨u, hu⟩ : ∃ u, LC[0]? = some u := ⟨_, List.getElem?_eq_getElem (by have := HCC.out; omega)⟩
      have cC0 : wr.cell? ⟨gC, 0, none⟩ = some u := (blk_cell oC 0).trans (by simpa using hu)
      have fC0 := blk_frozen oC 0
      have f16 := blk_frozen o16 0
      have hne : gC ≠ w11.heap.size + 1 := by have := S11.out; omega
      have hne2 : w11.heap.size + 1 ≠ gC := Ne.symm hne
      have HPR := zA hPR
      have HBB := zA BB
      have OC2 := zA oC
      have O162 := zA o16
      clear BB o9 oC hu hPt hPl hPR o16
      gi_wp2
      obtain ⟨WE, hWE⟩ : ∃ WE, WE = (wr.setCell ⟨gC, 0, none⟩ (.slice (some ⟨gP, 0, none⟩) on cP)).setCell ⟨w11.heap.size + 1, 0, none⟩ (.int .i64 0) := ⟨_, rfl⟩
      rw [← hWE]
      have hsz : WE.heap.size = wr.heap.size := by rw [hWE, size_set, size_set]
      have oth : ∀ k, k ≠ gC → k ≠ w11.heap.size + 1 → WE.heap[k]? = wr.heap[k]? := fun k n1 n2 => by
       rw [hWE]
       exact (Below.heap_setCell _ ⟨w11.heap.size + 1, 0, none⟩ _ k n2).trans (Below.heap_setCell _ ⟨gC, 0, none⟩ _ k n1)
      have cE : WE.cell? ⟨gC, 0, none⟩ = some (.slice (some ⟨gP, 0, none⟩) on cP) := by
       rw [hWE]
       refine (cell_same (a := ⟨gC, 0, none⟩) (Below.heap_setCell _ ⟨w11.heap.size + 1, 0, none⟩ _ gC hne)).trans ?_
       exact World.cell?_setCell_same' _ _ _ (by rw [cC0]; rfl)
      have zWr : W.heap.size ≤ wr.heap.size := HBB.out.size
      refine ⟨⟨by rw [hsz]; exact zWr, fun k o hk ho hc => ?_⟩, ⟨?_, ?_⟩, .inr ⟨by simp, ?_, ?_, ?_, _, cE, ?_⟩⟩
      ·
       exact (oth k (by omega) (by omega)).trans ((HBB.out.block k (Array.getElem?_eq_some_iff.1 ho).1).trans ho)
      ·
       exact (oth _ (by have := S11.out; omega) (by omega)).trans (HBB.out.block _ (by omega))
      ·
       exact (oth _ (by have := S11.out; have := NEW.out; omega) (by omega)).trans (HBB.out.block _ (by omega))
      ·
       refine ⟨?_, ?_, ?_, ?_, fun k hk => ?_⟩
       ·
        rw [hWE]; exact (HB.out.trans ((HW.out.trans (HBB.out.mono HW.out.size)).mono HB.out.size)).os
       ·
        rw [hWE]; exact (HB.out.trans ((HW.out.trans (HBB.out.mono HW.out.size)).mono HB.out.size)).tape
       ·
        rw [hWE]; exact (HB.out.trans ((HW.out.trans (HBB.out.mono HW.out.size)).mono HB.out.size)).output
       ·
        rw [hsz]; exact (HB.out.trans ((HW.out.trans (HBB.out.mono HW.out.size)).mono HB.out.size)).size
       ·
        exact (oth k (by have := LGC.out; omega) (by have := S11.out; have := LGC.out; omega)).trans ((HB.out.trans ((HW.out.trans (HBB.out.mono HW.out.size)).mono HB.out.size)).block k hk)
      ·
       rw [hsz]; omega
      ·
       exact fun k hk n1 n2 => (oth k n1 n2).trans ((HBB.out.block k (by omega)).trans (HW.out.block k (by omega)))
      ·
       exact Kd.R_lower (Kd.R_mono (Kd.R_step (Kd.R_bound HPR.out) (fun k hk _ => oth k (by have := hk.2.1; have := HZ.out.2.2; omega) (by have := hk.2.1; have := HZ.out.2.2; omega))) (fun _ _ => trivial)) (by have := HZ.out.2.2; omega)
   case hdone =>
    rintro D xs W hD rfl hI hmark
    have hI2 := hI.resolve_left (fun h => by have := h.1; rw [bwFrom_succ (by omega)] at this; cases this)
    obtain ⟨_, hbw, hzw, hsame, v, hv, hvR⟩ := hI2
    obtain ⟨Av, cv, rfl⟩ := Kd.R_slice hvR
    have g4W : g4 < W2.heap.size := (Array.getElem?_eq_some_iff.1 BK4.out).1
    have g9W : g9 < W2.heap.size := (Array.getElem?_eq_some_iff.1 BK9.out).1
    have e4 : g4 ≠ gC ∧ g4 ≠ w11.heap.size + 1 ∧ g4 ≠ g9 := by have := LGC.out; have := S11.out; have := L9.out; omega
    have e9 : g9 ≠ gC ∧ g9 ≠ w11.heap.size + 1 := by have := LGC.out; have := S11.out; omega
    have o4 := (hsame g4 g4W e4.1 e4.2.1).trans BK4.out
    have o9 := (hsame g9 g9W e9.1 e9.2).trans BK9.out
    have oA : W.cell? ⟨gA, 0, none⟩ = some (.slice (some ⟨gR, 0, none⟩) on cR) := (cell_same (a := ⟨gA, 0, none⟩) (hsame gA (by have := LGC.out; have := S11.out; omega) (by have := LGC.out; omega) (by have := LGC.out; have := S11.out; omega))).trans CAA.out
    have hDR := Kd.R_step FD.out (w1 := W) (fun k hk hlt => hsame k (by omega) (by have := LGC.out; omega) (by have := LGC.out; have := S11.out; omega))
    have c90 : W.cell? ⟨g9, 0, none⟩ = some (.slice (some ⟨gA, 0, none⟩) 1 cA) := (blk_cell o9 0).trans rfl
    have c91 : W.cell? ⟨g9, 1, none⟩ = some (.slice (some ⟨gC, 0, none⟩) 1 cC) := (blk_cell o9 1).trans rfl
    have c40 : W.cell? ⟨g4, 0, none⟩ = some (.slice none 0 0) := (blk_cell o4 0).trans rfl
    have c41 : W.cell? ⟨g4, 1, none⟩ = some (.slice none 0 0) := (blk_cell o4 1).trans rfl
    have f40 := blk_frozen o4 0
    have f41 := blk_frozen o4 1
    have O4 := zA o4
    have OA := zA oA
    have HBW := zA hbw
    have HDR := zA hDR
    have HVR := zA hvR
    have HV := zA hv
    have HM := zA hmark
    clear o4 o9 oA hbw hDR hvR hv hmark hI hsame
    go_wp2
    obtain ⟨WF, hWF⟩ : ∃ WF, WF = (W.setCell ⟨g4, 0, none⟩ (.slice (some ⟨gA, 0, none⟩) 1 cA)).setCell ⟨g4, 1, none⟩ (.slice (some ⟨gC, 0, none⟩) 1 cC) := ⟨_, rfl⟩
    rw [← hWF]
    have oF : ∀ k, k ≠ g4 → WF.heap[k]? = W.heap[k]? := fun k hk => by rw [hWF]; exact (Below.heap_setCell _ ⟨g4, 1, none⟩ _ k hk).trans (Below.heap_setCell _ ⟨g4, 0, none⟩ _ k hk)
    have o4 : WF.heap[g4]? = some (.cells #[.slice (some ⟨gA, 0, none⟩) 1 cA, .slice (some ⟨gC, 0, none⟩) 1 cC] 56 (0, 0)) := by
     rw [hWF]
     exact blk_put (cs := #[.slice (some ⟨gA, 0, none⟩) 1 cA, .slice none 0 0]) (blk_put (cs := #[.slice none 0 0, .slice none 0 0]) O4.out 0 _ rfl) 1 _ rfl
    have sF : WF.heap.size = W.heap.size := by rw [hWF, size_set, size_set]
    have bF : Below w.heap.size w WF := by rw [hWF]; exact below_setz (below_setz HBW.out g4 0 _ G4.out) g4 1 _ G4.out
    have hD4 : D ≠ g4 := by omega
    have mk : Marks w.heap.size WF WF.heap.size [{ target := .collected D, args := #[] }] := ⟨D, rfl, by have := HB.out.size; omega, by rw [sF]; exact (Array.getElem?_eq_some_iff.1 HM.out).1, (oF D hD4).trans HM.out, trivial⟩
    have rD := R_keepR (Kd.R_step HDR.out (w1 := WF) (fun k hk _ => oF k (by have := LGC.out; have := L9.out; have := G9R.out; omega)))
    have rV := R_keepR (Kd.R_mono (Kd.R_step (Kd.R_bound HVR.out) (w1 := WF) (fun k hk _ => oF k (by have := hk.2.1; omega))) (fun k hk => hk.1))
    have hlD2 : (stepsN sums on).length = on := hlD
    have hlV : (stepsN own on).length = on := by rw [← stepsAt_full, stepsAt_len]
    have oA2 : WF.cell? ⟨gA, 0, none⟩ = some (.slice (some ⟨gR, 0, none⟩) on cR) := (cell_same (a := ⟨gA, 0, none⟩) (oF gA (by have := SA.out.2.1; have := L9.out; have := G9R.out; omega))).trans OA.out
    have oC2 : WF.cell? ⟨gC, 0, none⟩ = some (.slice Av (stepsN own on).length cv) := (cell_same (a := ⟨gC, 0, none⟩) (oF gC (Ne.symm e4.1))).trans HV.out
    refine (show LeavesInM _ _ _ _ _ _ _ _ _ from leaves _ WF.heap.size WF mk bF.size (fun W' hb hk => ⟨_, results36 _ W' g4 _ _ rfl rfl (hk.cell ((blk_cell o4 0).trans rfl)) (hk.cell ((blk_cell o4 1).trans rfl)), some ⟨gA, 0, none⟩, cA, some ⟨gC, 0, none⟩, cC, rfl, CAR.out, HCC.out.1, ?_, ?_, bF.trans hb⟩))
    ·
     obtain ⟨_, hr2, hr3⟩ := Kd.R_reads' (R_keepC rD hk)
     have hh := one_row (g := gA) (A := some ⟨gR, 0, none⟩) (c := cR) (x := stepsN sums on) (by rw [hlD2]; exact hk.cell oA2) (by rw [hlD2]; exact hr2) hr3
     exact hh
    ·
     obtain ⟨_, hr2, hr3⟩ := Kd.R_reads' (R_keepC rV hk)
     rw [← HOW.out]
     exact one_row (hk.cell oC2) hr2 hr3
end Go.Proofs.Ythoeindopljmkaa.P
end
section
namespace Go.Proofs.Ythoeindopljmkaa.P
open Go.RowKit Go.Proofs.YthoeindopljmkaaW.PrintWords Go.Proofs.YthoeindopljmkaaW.PrintLast Go.Proofs.YthoeindopljmkaaW.PrintMore
attribute [local go_sem] max2_int min2_int max_two min_two max_three min_three max_four min_four
set_option linter.unusedVariables false
set_option linter.unusedSimpArgs false
def index_from.f (xs : List Int) (n : Int) : Option Int := if xs.length ≤ 1000000 then some (idxF (fun s => decide (n ≤ s)) xs) else none
set_option maxHeartbeats 2000000 in
set_option maxRecDepth 100000 in
theorem reach81 (v n : Int) (g : Nat) (W : World) (h : W.cell? ⟨g, 0, none⟩ = some (.int .i64 n)) : Calls Try.prog 81 #[.int .i64 v, .pointer (some ⟨g, 0, none⟩)] W fun e w' => e = .returned (.bool (decide (n ≤ v))) ∧ Below W.heap.size W w' := by
  go_enter Try.func81, Try.ntmps81
  go_wp2
  go_ret
  exact ⟨rfl, Below.refl _ _⟩
theorem index_from.calls (A : Option Addr) (c : Nat) (xs : List Int) (n : Int) (g : Nat) (r : Int) (W : World) (hC : Kd.C (Kd.int .i64) W A xs.length xs) (hl : xs.length ≤ c) (hc : W.cell? ⟨g, 0, none⟩ = some (.int .i64 n)) (h : index_from.f xs n = some r) :
    Calls Try.prog 80 #[.slice A xs.length c, .func (.func 81) #[] #[.pointer (some ⟨g, 0, none⟩)]] W fun e w' => e = .returned (.int .i64 r) ∧ Below W.heap.size W w' := by
  unfold index_from.f at h
  split at h
  · cases h
    exact IndexFunc80 81 _ (fun s => decide (n ≤ s)) (fun args w => enters_ Try.func81 (by kernel_rfl) rfl args w) A c xs W hC hl (by assumption) (fun v W' _ hb => reach81 v n g W' ((hb.cell (World.block_lt_of_cell? _ _ hc)).trans hc))
  · cases h
mutual
def pump_Lacks.l0 : Nat → List Int → List Int → List Int → List Int → Int → Int → Int → Int → List (List Int) → List (List Int) → Option (List Int × List Int × Int)
  | 0, _, _, _, _, _, _, _, _, _, _ => none
  | k + 1, x4, x9, x10, x11, x12, x13, x44, x45, x106000, x106001 => if x45 < x44 then (pump_Lacks.l1 k x4 x9 x10 x11 x12 x13 x45 0 x44 x45 x106000 (x106000.length : Int) 0 x106000 x106001) else (pump_Lacks.l3 k x4 ([] : List Int) x11 x10 (x10.length : Int) 0)
def pump_Lacks.l1 : Nat → List Int → List Int → List Int → List Int → Int → Int → Int → Int → Int → Int → List (List Int) → Int → Int → List (List Int) → List (List Int) → Option (List Int × List Int × Int)
  | 0, _, _, _, _, _, _, _, _, _, _, _, _, _, _, _ => none
  | k + 1, x4, x9, x10, x11, x12, x13, x14, x15, x44, x45, x49, x50, x51, x106000, x106001 => if x51 < x50 then (if 0 ≤ x51 then (if x51 < (x49.length : Int) then (if 0 ≤ x14 then (if x14 < ((rd_L6 x49 x51).length : Int) then (pump_Lacks.l1 k x4 x9 x10 x11 x12 x13 x14 (wrap64 (x15 + (rd (rd_L6 x49 x51) x14))) x44 x45 x49 x50 (wrap64 (x51 + 1)) x106000 x106001) else (none)) else (none)) else (none)) else (none)) else (pump_Lacks.l2 k x4 x9 x10 x11 (wrap64 (x12 + x15)) x13 x14 x15 x44 x45 x106001 (x106001.length : Int) 0 x106000 x106001)
def pump_Lacks.l2 : Nat → List Int → List Int → List Int → List Int → Int → Int → Int → Int → Int → Int → List (List Int) → Int → Int → List (List Int) → List (List Int) → Option (List Int × List Int × Int)
  | 0, _, _, _, _, _, _, _, _, _, _, _, _, _, _, _ => none
  | k + 1, x4, x9, x10, x11, x12, x13, x14, x15, x44, x45, x66, x67, x68, x106000, x106001 => if x68 < x67 then (if 0 ≤ x68 then (if x68 < (x66.length : Int) then (if x68 < (x9.length : Int) then ((some (x9.set (x68 : Int).toNat (wrap64 ((rd x9 x68) + x15)) : List Int)).bind fun y122 => (if 0 ≤ x14 then (if x14 < ((rd_L6 x66 x68).length : Int) then (pump_Lacks.l2 k x4 (y122.set (x68 : Int).toNat (wrap64 ((rd y122 x68) - (mn (rd y122 x68) (rd (rd_L6 x66 x68) x14))))) x10 x11 x12 x13 x14 (mn (rd y122 x68) (rd (rd_L6 x66 x68) x14)) x44 x45 x66 x67 (wrap64 (x68 + 1)) x106000 x106001) else (none)) else (none))) else (none)) else (none)) else (none)) else (if 0 ≤ x14 then (if x14 < (x10.length : Int) then (if x14 < (x11.length : Int) then ((pump_total.f k x9).bind fun t129 => (if x4.length < 17592186044416 then (pump_Lacks.l0 k (x4 ++ [t129]) x9 (x10.set (x14 : Int).toNat x12) (x11.set (x14 : Int).toNat (wrap64 (x13 + x15))) x12 (wrap64 (x13 + x15)) x44 (wrap64 (x45 + 1)) x106000 x106001) else (none))) else (none)) else (none)) else (none))
def pump_Lacks.l3 : Nat → List Int → List Int → List Int → List Int → Int → Int → Option (List Int × List Int × Int)
  | 0, _, _, _, _, _, _ => none
  | k + 1, x4, x5, x11, x114, x115, x116 => if x116 < x115 then (if 0 ≤ x116 then (if x116 < (x114.length : Int) then (if x116 ≤ (x11.length : Int) then ((index_from.f (x11.drop (x116 : Int).toNat) (rd x114 x116)).bind fun t138 => (if x5.length < 17592186044416 then (pump_Lacks.l3 k x4 (x5 ++ [t138]) x11 x114 x115 (wrap64 (x116 + 1))) else (none))) else (none)) else (none)) else (none)) else (some (x4, x5, 0))
end
def pump_Lacks.f (k : Nat) (l0_0 : List (List (S71))) (l0_1 : List (List (S71))) (l1_0 : List (List Int)) (l1_1 : List (List Int)) : Option (List Int × List Int × Int) := (pump_Check.f l0_0 l0_1).bind fun t106 => (if t106 = 0 then ((pump_Course_check.f l1_0 l1_1 l0_0 l0_1).bind fun bt107 => (if bt107.2 = 0 then (if 0 ≤ (l0_1.length : Int) then (if ((l0_1.length : Int) : Int).toNat ≤ 35184372088832 then (if 0 ≤ bt107.1 then (if (bt107.1 : Int).toNat ≤ 35184372088832 then (pump_Lacks.l0 k ([] : List Int) (List.replicate ((l0_1.length : Int) : Int).toNat 0) (List.replicate (bt107.1 : Int).toNat 0) (List.replicate (bt107.1 : Int).toNat 0) 0 0 bt107.1 0 l1_0 l1_1) else (none)) else (none)) else (none)) else (none)) else (some (([] : List Int), ([] : List Int), bt107.2)))) else (some (([] : List Int), ([] : List Int), t106)))
def pump_Lacks.T24 : Bool × List (List Nat × List Nat) := (true, [([], []), ([], []), ([0, 1], [0, 1]), ([2], [2]), ([], []), ([], []), ([4, 5], [4, 5]), ([6], [6]), ([3, 7], [3, 7]), ([8, 0, 1, 2, 3, 4, 5, 6, 7, 8], [8])])
def pump_Lacks.B24 : List Nat := [0, 0, 3, 7, 0, 0, 48, 112, 255, 511]
theorem pump_Lacks.tab24 : rtab .any (opsOf Try.f38 24) = pump_Lacks.T24 := by kernel_rfl
theorem pump_Lacks.bits24 : waitsOk pump_Lacks.T24.2 pump_Lacks.B24 = true := by kernel_rfl
set_option maxHeartbeats 8000000 in
set_option maxRecDepth 100000 in
theorem pump_Lacks.calls (k : Nat) (A0_0 : Option Addr) (c0_0 : Nat) (l0_0 : List (List (S71))) (A0_1 : Option Addr) (c0_1 : Nat) (l0_1 : List (List (S71))) (A1_0 : Option Addr) (c1_0 : Nat) (l1_0 : List (List Int)) (A1_1 : Option Addr) (c1_1 : Nat) (l1_1 : List (List Int)) (r1 : List Int) (r2 : List Int) (r3 : Int) (w : World) (hr0_0 : Kd.C (Kd.slice 71 k71) w A0_0 l0_0.length l0_0) (hc0_0 : l0_0.length ≤ c0_0) (hr0_1 : Kd.C (Kd.slice 71 k71) w A0_1 l0_1.length l0_1) (hc0_1 : l0_1.length ≤ c0_1) (hr1_0 : Kd.C (Kd.slice 3 (Kd.int .i64)) w A1_0 l1_0.length l1_0) (hc1_0 : l1_0.length ≤ c1_0) (hr1_1 : Kd.C (Kd.slice 3 (Kd.int .i64)) w A1_1 l1_1.length l1_1) (hc1_1 : l1_1.length ≤ c1_1) (h : pump_Lacks.f k l0_0 l0_1 l1_0 l1_1 = some (r1, r2, r3)) :
  Calls Try.prog 38 #[.agg #[.slice A0_0 l0_0.length c0_0, .slice A0_1 l0_1.length c0_1], .agg #[.slice A1_0 l1_0.length c1_0, .slice A1_1 l1_1.length c1_1]] w fun e w' => ∃ v0_ v1_ : Value, e = .returned (.tuple #[v0_, v1_, .int .i64 r3]) ∧ Kd.R (Kd.int .i64) 3 w' w.heap.size (fun k_ => some k_ ≠ (v1_ : Value).ownBlock) v0_ r1 ∧ Kd.R (Kd.int .i64) 3 w' w.heap.size (fun k_ => some k_ ≠ (v0_ : Value).ownBlock) v1_ r2 ∧ Below w.heap.size w w' := by
 have hu40 := Try.underlying40
 have hu56 := Try.underlying56
 have HR0_0 := zA hr0_0
 have HC0_0 := zA hc0_0
 clear hr0_0 hc0_0
 have HR0_1 := zA hr0_1
 have HC0_1 := zA hc0_1
 clear hr0_1 hc0_1
 have HR1_0 := zA hr1_0
 have HC1_0 := zA hc1_0
 clear hr1_0 hc1_0
 have HR1_1 := zA hr1_1
 have HC1_1 := zA hc1_1
 clear hr1_1 hc1_1
 have HB := zA (Below.refl w.heap.size w)
 have H : ((pump_Check.f l0_0 l0_1).bind fun t106 => (if t106 = 0 then ((pump_Course_check.f l1_0 l1_1 l0_0 l0_1).bind fun bt107 => (if bt107.2 = 0 then (if 0 ≤ (l0_1.length : Int) then (if ((l0_1.length : Int) : Int).toNat ≤ 35184372088832 then (if 0 ≤ bt107.1 then (if (bt107.1 : Int).toNat ≤ 35184372088832 then (pump_Lacks.l0 k ([] : List Int) (List.replicate ((l0_1.length : Int) : Int).toNat 0) (List.replicate (bt107.1 : Int).toNat 0) (List.replicate (bt107.1 : Int).toNat 0) 0 0 bt107.1 0 l1_0 l1_1) else (none)) else (none)) else (none)) else (none)) else (some (([] : List Int), ([] : List Int), bt107.2)))) else (some (([] : List Int), ([] : List Int), t106)))) = some (r1, r2, r3) := h
 clear h
 replace H := Option.bind_eq_some_iff.mp H
 obtain ⟨t106, A30, H⟩ := H
 replace H : (if t106 = 0 then ((pump_Course_check.f l1_0 l1_1 l0_0 l0_1).bind fun bt107 => (if bt107.2 = 0 then (if 0 ≤ (l0_1.length : Int) then (if ((l0_1.length : Int) : Int).toNat ≤ 35184372088832 then (if 0 ≤ bt107.1 then (if (bt107.1 : Int).toNat ≤ 35184372088832 then (pump_Lacks.l0 k ([] : List Int) (List.replicate ((l0_1.length : Int) : Int).toNat 0) (List.replicate (bt107.1 : Int).toNat 0) (List.replicate (bt107.1 : Int).toNat 0) 0 0 bt107.1 0 l1_0 l1_1) else (none)) else (none)) else (none)) else (none)) else (some (([] : List Int), ([] : List Int), bt107.2)))) else (some (([] : List Int), ([] : List Int), t106))) = some (r1, r2, r3) := H
 have A3 := zA A30
 clear A30
 by_cases c4 : t106 = 0
 ·
  rw [if_pos c4] at H
  have c4b0 : (t106 == 0) = true := beq_iff_eq.mpr c4
  have c4b1 : (t106 != 0) = false := bne_eq_false_iff_eq.mpr c4
  clear c4
  replace H := Option.bind_eq_some_iff.mp H
  obtain ⟨⟨t107, t108⟩, A50, H⟩ := H
  replace H : (if t108 = 0 then (if 0 ≤ (l0_1.length : Int) then (if ((l0_1.length : Int) : Int).toNat ≤ 35184372088832 then (if 0 ≤ t107 then (if (t107 : Int).toNat ≤ 35184372088832 then (pump_Lacks.l0 k ([] : List Int) (List.replicate ((l0_1.length : Int) : Int).toNat 0) (List.replicate (t107 : Int).toNat 0) (List.replicate (t107 : Int).toNat 0) 0 0 t107 0 l1_0 l1_1) else (none)) else (none)) else (none)) else (none)) else (some (([] : List Int), ([] : List Int), t108))) = some (r1, r2, r3) := H
  have A5 := zA A50
  clear A50
  by_cases c6 : t108 = 0
  ·
   rw [if_pos c6] at H
   have c6b0 : (t108 == 0) = true := beq_iff_eq.mpr c6
   have c6b1 : (t108 != 0) = false := bne_eq_false_iff_eq.mpr c6
   clear c6
   by_cases c7 : 0 ≤ (l0_1.length : Int)
   ·
    rw [if_pos c7] at H
    have c7b0 := eq_true c7
    have c7b1 : decide (0 ≤ (l0_1.length : Int)) = true := decide_eq_true c7
    clear c7
    by_cases c8 : ((l0_1.length : Int) : Int).toNat ≤ 35184372088832
    ·
     rw [if_pos c8] at H
     have c8b0 := eq_true c8
     have c8b1 : decide (((l0_1.length : Int) : Int).toNat ≤ 35184372088832) = true := decide_eq_true c8
     clear c8
     obtain ⟨y109, hy109⟩ : ∃ y_ : List Int, y_ = (List.replicate ((l0_1.length : Int) : Int).toNat 0) := ⟨_, rfl⟩
     replace H : (if 0 ≤ t107 then (if (t107 : Int).toNat ≤ 35184372088832 then (pump_Lacks.l0 k ([] : List Int) y109 (List.replicate (t107 : Int).toNat 0) (List.replicate (t107 : Int).toNat 0) 0 0 t107 0 l1_0 l1_1) else (none)) else (none)) = some (r1, r2, r3) := zqF hy109 H
     have Ny109 := zA hy109
     clear hy109
     by_cases c9 : 0 ≤ t107
     ·
      rw [if_pos c9] at H
      have c9b0 := eq_true c9
      have c9b1 : decide (0 ≤ t107) = true := decide_eq_true c9
      clear c9
      by_cases c10 : (t107 : Int).toNat ≤ 35184372088832
      ·
       rw [if_pos c10] at H
       have c10b0 := eq_true c10
       have c10b1 : decide ((t107 : Int).toNat ≤ 35184372088832) = true := decide_eq_true c10
       clear c10
       obtain ⟨y112, hy112⟩ : ∃ y_ : List Int, y_ = (List.replicate (t107 : Int).toNat 0) := ⟨_, rfl⟩
       replace H : (pump_Lacks.l0 k ([] : List Int) y109 y112 (List.replicate (t107 : Int).toNat 0) 0 0 t107 0 l1_0 l1_1) = some (r1, r2, r3) := zqF hy112 H
       have Ny112 := zA hy112
       clear hy112
       obtain ⟨y115, hy115⟩ : ∃ y_ : List Int, y_ = (List.replicate (t107 : Int).toNat 0) := ⟨_, rfl⟩
       replace H : (pump_Lacks.l0 k ([] : List Int) y109 y112 y115 0 0 t107 0 l1_0 l1_1) = some (r1, r2, r3) := zqF hy115 H
       have Ny115 := zA hy115
       clear hy115
       have H' := zA H
       clear H
       go_enter Try.func38, Try.ntmps38
       try go_wp2_with (first | ((with_reducible refine gate_dst (N := 2) rfl ?_); refine box_event ?hg (N := 2) ?hd (cs := #[.slice A0_0 l0_0.length c0_0, .slice A0_1 l0_1.length c0_1]) (t := 40) ?hr ?_; (case hd => rfl); (case hg => rfl); (case hr => first | (go_simp; done) | (go_simp; rfl)); intro gb104 hg w11 hbox hb; have n0_ := zA (below_step (zqA HB.out) hb); have n1_ := zA (hbox); have n2_ := zA ((by rw [hg]; exact (below_size (zqA HB.out)) : w.heap.size ≤ gb104)); have n3_ := zA ((by rw [hg]; exact (below_size (zqA HB.out)) : w.heap.size ≤ gb104)); clear HB; have HB := n0_; have BK104 := n1_; have GW104 := n2_; have GE104 := n3_; clear n0_ n1_ n2_ n3_; clear hb hbox hg) | ((with_reducible refine gate_dst (N := 3) rfl ?_); refine box_event ?hg (N := 3) ?hd (cs := #[.slice A1_0 l1_0.length c1_0, .slice A1_1 l1_1.length c1_1]) (t := 56) ?hr ?_; (case hd => rfl); (case hg => rfl); (case hr => first | (go_simp; done) | (go_simp; rfl)); intro gb105 hg w12 hbox hb; have n0_ := zA (blk_below (g := gb104) (o := .cells #[.slice A0_0 l0_0.length c0_0, .slice A0_1 l0_1.length c0_1] 40 (0, 0)) (zqB BK104.out) hb); have n1_ := zA (below_step (zqG HB.out GE104.out) hb); have n2_ := zA (hbox); have n3_ := zA ((by rw [hg]; exact (below_size (zqG HB.out GE104.out)) : w.heap.size ≤ gb105)); have n4_ := zA ((by rw [hg]; exact (below_size (zqG HB.out GE104.out)) : w.heap.size ≤ gb105)); have n5_ := zA ((by rw [hg]; exact Nat.ne_of_lt (blk_lt (g := gb104) (o := .cells #[.slice A0_0 l0_0.length c0_0, .slice A0_1 l0_1.length c0_1] 40 (0, 0)) (zqB BK104.out)) : gb104 ≠ gb105)); have n6_ := zA ((by rw [hg]; exact Nat.ne_of_gt (blk_lt (g := gb104) (o := .cells #[.slice A0_0 l0_0.length c0_0, .slice A0_1 l0_1.length c0_1] 40 (0, 0)) (zqB BK104.out)) : gb105 ≠ gb104)); clear BK104; clear HB; have BK104 := n0_; have HB := n1_; have BK105 := n2_; have GW105 := n3_; have GE105 := n4_; have NB104_105 := n5_; have NB105_104 := n6_; clear n0_ n1_ n2_ n3_ n4_ n5_ n6_; clear hb hbox hg; have hnb13 := NB104_105.out; have hnc13 := NB105_104.out; have hcz14_0 : w12.cell? ⟨gb104, 0, none⟩ = some (.slice A0_0 l0_0.length c0_0) := (blk_cell BK104.out 0).trans rfl; have hcz14_1 : w12.cell? ⟨gb104, 1, none⟩ = some (.slice A0_1 l0_1.length c0_1) := (blk_cell BK104.out 1).trans rfl; have hfz14_0 := blk_frozen BK104.out 0; have hfz14_1 := blk_frozen BK104.out 1) | ((with_reducible refine gate_callee (f := 34) rfl ?_); refine goesL_ (some 23) rfl rfl Try.func34 (by kernel_rfl) rfl #[.agg #[.slice A0_0 l0_0.length c0_0, .slice A0_1 l0_1.length c0_1]] rfl zqE ?_; (with_reducible refine (pump_Check.calls _ _ l0_0 _ _ l0_1 t106 _ ?side1 ?side2 ?side3 ?side4 A3.out).mono ?_); (case side1 => exact zqK (Kd.C_below HR0_0.out HB.out)); (case side2 => exact HC0_0.out); (case side3 => exact zqK (Kd.C_below HR0_1.out HB.out)); (case side4 => exact HC0_1.out); rintro e w15 ⟨rfl, hb⟩; refine ⟨_, rfl, ?_⟩; have n0_ := zA (blk_below (g := gb104) (o := .cells #[.slice A0_0 l0_0.length c0_0, .slice A0_1 l0_1.length c0_1] 40 (0, 0)) (zqB BK104.out) hb); have n1_ := zA (blk_below (g := gb105) (o := .cells #[.slice A1_0 l1_0.length c1_0, .slice A1_1 l1_1.length c1_1] 56 (0, 0)) (zqB BK105.out) hb); have n2_ := zA (below_step (zqH HB.out GE104.out GE105.out) hb); clear BK104; clear BK105; clear HB; have BK104 := n0_; have BK105 := n1_; have HB := n2_; clear n0_ n1_ n2_; (try clear hb); (try clear hb2); (try clear hk); (try clear hi); have hcz16_0 : w15.cell? ⟨gb105, 0, none⟩ = some (.slice A1_0 l1_0.length c1_0) := (blk_cell BK105.out 0).trans rfl; have hcz16_1 : w15.cell? ⟨gb105, 1, none⟩ = some (.slice A1_1 l1_1.length c1_1) := (blk_cell BK105.out 1).trans rfl; have hfz16_0 := blk_frozen BK105.out 0; have hfz16_1 := blk_frozen BK105.out 1; have hcz17_0 : w15.cell? ⟨gb104, 0, none⟩ = some (.slice A0_0 l0_0.length c0_0) := (blk_cell BK104.out 0).trans rfl; have hcz17_1 : w15.cell? ⟨gb104, 1, none⟩ = some (.slice A0_1 l0_1.length c0_1) := (blk_cell BK104.out 1).trans rfl; have hfz17_0 := blk_frozen BK104.out 0; have hfz17_1 := blk_frozen BK104.out 1) | ((with_reducible refine gate_callee (f := 78) rfl ?_); refine goesL_ (some 30) rfl rfl Try.func78 (by kernel_rfl) rfl #[.agg #[.slice A1_0 l1_0.length c1_0, .slice A1_1 l1_1.length c1_1], .agg #[.slice A0_0 l0_0.length c0_0, .slice A0_1 l0_1.length c0_1]] rfl zqE ?_; (with_reducible refine (pump_Course_check.calls _ _ l1_0 _ _ l1_1 _ _ l0_0 _ _ l0_1 t107 t108 _ ?side1 ?side2 ?side3 ?side4 ?side5 ?side6 ?side7 ?side8 A5.out).mono ?_); (case side1 => exact zqK (Kd.C_below HR1_0.out HB.out)); (case side2 => exact HC1_0.out); (case side3 => exact zqK (Kd.C_below HR1_1.out HB.out)); (case side4 => exact HC1_1.out); (case side5 => exact zqK (Kd.C_below HR0_0.out HB.out)); (case side6 => exact HC0_0.out); (case side7 => exact zqK (Kd.C_below HR0_1.out HB.out)); (case side8 => exact HC0_1.out); rintro e w18 ⟨rfl, hb⟩; refine ⟨_, rfl, ?_⟩; have n0_ := zA (blk_below (g := gb104) (o := .cells #[.slice A0_0 l0_0.length c0_0, .slice A0_1 l0_1.length c0_1] 40 (0, 0)) (zqB BK104.out) hb); have n1_ := zA (blk_below (g := gb105) (o := .cells #[.slice A1_0 l1_0.length c1_0, .slice A1_1 l1_1.length c1_1] 56 (0, 0)) (zqB BK105.out) hb); have n2_ := zA (below_step (zqH HB.out GE104.out GE105.out) hb); clear BK104; clear BK105; clear HB; have BK104 := n0_; have BK105 := n1_; have HB := n2_; clear n0_ n1_ n2_; (try clear hb); (try clear hb2); (try clear hk); (try clear hi); have hcz19_0 : w18.cell? ⟨gb104, 0, none⟩ = some (.slice A0_0 l0_0.length c0_0) := (blk_cell BK104.out 0).trans rfl; have hcz19_1 : w18.cell? ⟨gb104, 1, none⟩ = some (.slice A0_1 l0_1.length c0_1) := (blk_cell BK104.out 1).trans rfl; have hfz19_0 := blk_frozen BK104.out 0; have hfz19_1 := blk_frozen BK104.out 1) | ((with_reducible refine gate_dst (N := 39) rfl ?_); refine Kd.R_make (Kd.int .i64) _ 3 rfl (N := 39) rfl 30 _ _ rfl (l0_1.length : Int) rfl rfl Try.underlying30 (.int .i64 0) 8 info3 rfl (by decide) (by omega) 0 (ok := fun _ => True) (okp := fun _ => True) rfl (fun _ hk => hk) trivial (of_decide_eq_true (zqD)) (Nat.le_trans (Nat.mul_le_mul_right _ (of_decide_eq_true (zqD) : (l0_1.length : Int).toNat ≤ 35184372088832)) (by omega)) (Below.refl _ _) (Nat.le_refl _) ?_; intro v110 w20 ho21 hb hg_ hnew_; clear hg_ hnew_; (first | rw [← Ny109.out] at ho21 | (simp only [Int.reduceToNat] at ho21; rw [← Ny109.out] at ho21)); have n0_ := zA (Kd.R_lower ho21 (below_size (zqH HB.out GE104.out GE105.out))); have n1_ := zA (blk_below (g := gb104) (o := .cells #[.slice A0_0 l0_0.length c0_0, .slice A0_1 l0_1.length c0_1] 40 (0, 0)) (zqB BK104.out) hb); have n2_ := zA (blk_below (g := gb105) (o := .cells #[.slice A1_0 l1_0.length c1_0, .slice A1_1 l1_1.length c1_1] 56 (0, 0)) (zqB BK105.out) hb); have n3_ := zA (below_step (zqH HB.out GE104.out GE105.out) hb); clear BK104; clear BK105; clear HB; have HO111 := n0_; have BK104 := n1_; have BK105 := n2_; have HB := n3_; clear n0_ n1_ n2_ n3_; clear hb ho21))
       have n0_ := zA (Kd.R_drew HO111.out); have n1_ := zA (blk_drew BK104.out); have n2_ := zA (blk_drew BK105.out); have n3_ := zA (below_drew1 HB.out); clear HO111 BK104 BK105 HB; have HO111 := n0_; have BK104 := n1_; have BK105 := n2_; have HB := n3_; clear n0_ n1_ n2_ n3_
       refine start_ (n := 6) (S := fun w' => True) (ds := []) #[false, false, false, false, false, false] (by kernel_rfl) rfl rfl trivial (fun hHeld => ?_)
       generalize w20.drew = w22 at HO111 BK104 BK105 HB hHeld ⊢
       refine pure_ (i := 0) (N := some 40) (v := ?_) (a' := ?_) #[true, false, false, false, false, false] rfl rfl (by kernel_rfl) (fun _ _ _ h => h) (Or.inl ⟨by rfl, ?_⟩) ?_ ?_
       rotate_left
       ·
        intro w'
        go_simp
        with_reducible rfl
       rotate_left
       ·
        simp only [Act.put, List.setIfInBounds_toArray, List.set_cons_zero, List.set_cons_succ, i64_w, i32_w]
        rfl
       refine pure_ (i := 2) (N := some 42) (v := ?_) (a' := ?_) #[true, false, true, false, false, false] rfl rfl (by kernel_rfl) (fun _ _ _ h => h) (Or.inl ⟨by rfl, ?_⟩) ?_ ?_
       rotate_left
       ·
        intro w'
        go_simp
        with_reducible rfl
       rotate_left
       ·
        simp only [Act.put, List.setIfInBounds_toArray, List.set_cons_zero, List.set_cons_succ, i64_w, i32_w]
        rfl
       refine join_ (σ := Value × Value) 1 #[true, true, true, true, true, false] (fun s_ => [(41, s_.1), (43, s_.2), (10, s_.1)]) (fun s_ w' => (Kd.R (Kd.int .i64) 3 w' w.heap.size (fun k_ => some k_ ≠ (s_.1 : Value).ownBlock ∧ some k_ ≠ (s_.2 : Value).ownBlock) v110 y109) ∧ (Kd.R (Kd.int .i64) 3 w' w.heap.size (fun k_ => some k_ ≠ (v110 : Value).ownBlock ∧ some k_ ≠ (s_.2 : Value).ownBlock) s_.1 y112) ∧ (Kd.R (Kd.int .i64) 3 w' w.heap.size (fun k_ => some k_ ≠ (v110 : Value).ownBlock ∧ some k_ ≠ (s_.1 : Value).ownBlock) s_.2 y115) ∧ (w'.heap[gb104]? = some (.cells #[.slice A0_0 l0_0.length c0_0, .slice A0_1 l0_1.length c0_1] 40 (0, 0))) ∧ (w'.heap[gb105]? = some (.cells #[.slice A1_0 l1_0.length c1_0, .slice A1_1 l1_1.length c1_1] 56 (0, 0))) ∧ (Below w.heap.size w w')) ?_ ?_
       rotate_left
       ·
        intro hCont
        refine two_ (i := 1) (j := 3) (Ni := some 41) (Nj := some 43) #[true, true, true, false, false, false] #[true, false, true, true, false, false] rfl rfl rfl rfl (by kernel_rfl) (by decide) (by decide) (fun K hK => ?_) (fun K hK => ?_)
        ·
         skip
         refine Kd.R_make_step (Kd.int .i64) _ 3 (by rfl) (N := 41) rfl 30 _ _ rfl t107 rfl rfl Try.underlying30 (.int .i64 0) 8 info3 rfl (by decide) (by omega) 0 (ok := fun _ => True) (okp := fun _ => True) rfl (fun _ hk => hk) trivial (of_decide_eq_true (zqD)) (Nat.le_trans (Nat.mul_le_mul_right _ (of_decide_eq_true (zqD) : t107.toNat ≤ 35184372088832)) (by omega)) (Below.refl _ _) (Nat.le_refl _) ?_
         intro v113 w23 ho24 hb hg_ hnew_
         clear hg_ hnew_
         (first | rw [← Ny112.out] at ho24 | (simp only [Int.reduceToNat] at ho24; rw [← Ny112.out] at ho24))
         have n0_ := zA (Kd.R_elder' (zqC HO111.out) (Kd.R_base ho24) hb); have n1_ := zA (Kd.R_lower (Kd.R_new' ho24 (Kd.R_lt (zqC HO111.out))) (below_size (zqH HB.out GE104.out GE105.out))); have n2_ := zA (blk_below (g := gb104) (zqB BK104.out) hb); have n3_ := zA (blk_below (g := gb105) (zqB BK105.out) hb); have n4_ := zA (below_step (zqH HB.out GE104.out GE105.out) hb); clear HO111 BK104 BK105 HB; have HO111 := n0_; have HO114 := n1_; have BK104 := n2_; have BK105 := n3_; have HB := n4_; clear n0_ n1_ n2_ n3_ n4_ hb ho24
         refine hK.out _ _ trivial (fun hHeld => ?_)
         clear hK K
         refine norm_ (a' := ?_) ?_ ?_
         rotate_left
         ·
          show Act.put _ (some 41) _ = _
          simp only [Act.put, List.setIfInBounds_toArray, List.set_cons_zero, List.set_cons_succ, i64_w, i32_w]
          rfl
         refine pure_ (i := 4) (N := some 10) (v := ?_) (a' := ?_) #[true, true, true, false, true, false] rfl rfl (by kernel_rfl) (fun _ _ _ h => h) (Or.inl ⟨by rfl, ?_⟩) ?_ ?_
         rotate_left
         ·
          intro w'
          go_simp
          with_reducible rfl
         rotate_left
         ·
          simp only [Act.put, List.setIfInBounds_toArray, List.set_cons_zero, List.set_cons_succ, i64_w, i32_w]
          rfl
         refine one_ (i := 3) (N := some 43) #[true, true, true, true, true, false] rfl rfl (by kernel_rfl) (by decide) (fun K hK => ?_)
         refine Kd.R_make_step (Kd.int .i64) _ 3 (by rfl) (N := 43) rfl 30 _ _ rfl t107 rfl rfl Try.underlying30 (.int .i64 0) 8 info3 rfl (by decide) (by omega) 0 (ok := fun _ => True) (okp := fun _ => True) rfl (fun _ hk => hk) trivial (of_decide_eq_true (zqD)) (Nat.le_trans (Nat.mul_le_mul_right _ (of_decide_eq_true (zqD) : t107.toNat ≤ 35184372088832)) (by omega)) (Below.refl _ _) (Nat.le_refl _) ?_
         intro v116 w25 ho26 hb hg_ hnew_
         clear hg_ hnew_
         (first | rw [← Ny115.out] at ho26 | (simp only [Int.reduceToNat] at ho26; rw [← Ny115.out] at ho26))
         have n0_ := zA (Kd.R_elder' (zqC HO111.out) (Kd.R_base ho26) hb); have n1_ := zA (Kd.R_elder' (zqC HO114.out) (Kd.R_base ho26) hb); have n2_ := zA (Kd.R_lower (Kd.R_new' (Kd.R_new' ho26 (Kd.R_lt (zqC HO111.out))) (Kd.R_lt (zqC HO114.out))) (below_size (zqH HB.out GE104.out GE105.out))); have n3_ := zA (blk_below (g := gb104) (zqB BK104.out) hb); have n4_ := zA (blk_below (g := gb105) (zqB BK105.out) hb); have n5_ := zA (below_step (zqH HB.out GE104.out GE105.out) hb); clear HO111 HO114 BK104 BK105 HB; have HO111 := n0_; have HO114 := n1_; have HO117 := n2_; have BK104 := n3_; have BK105 := n4_; have HB := n5_; clear n0_ n1_ n2_ n3_ n4_ n5_ hb ho26
         refine hK.out _ _ trivial (fun hHeld => ?_)
         clear hK K
         refine norm_ (a' := ?_) ?_ ?_
         rotate_left
         ·
          show Act.put _ (some 43) _ = _
          simp only [Act.put, List.setIfInBounds_toArray, List.set_cons_zero, List.set_cons_succ, i64_w, i32_w]
          rfl
         exact norm_ (by simp only [putAll, Act.put, List.setIfInBounds_toArray, List.set_cons_zero, List.set_cons_succ]) (hCont (v113, v116) _ ⟨(by (with_reducible repeat (first | apply Kd.R_alloc | apply Kd.R_drewN | apply Kd.R_drew)); exact Kd.R_mono HO111.out (fun _ hk => ⟨hk.1.2, hk.2⟩)), (by (with_reducible repeat (first | apply Kd.R_alloc | apply Kd.R_drewN | apply Kd.R_drew)); exact Kd.R_mono HO114.out (fun _ hk => ⟨hk.1.2, hk.2⟩)), (by (with_reducible repeat (first | apply Kd.R_alloc | apply Kd.R_drewN | apply Kd.R_drew)); exact Kd.R_mono HO117.out (fun _ hk => ⟨hk.1.2, hk.2⟩)), (zqB BK104.out), (zqB BK105.out), (zqH HB.out GE104.out GE105.out)⟩)
        ·
         skip
         refine Kd.R_make_step (Kd.int .i64) _ 3 (by rfl) (N := 43) rfl 30 _ _ rfl t107 rfl rfl Try.underlying30 (.int .i64 0) 8 info3 rfl (by decide) (by omega) 0 (ok := fun _ => True) (okp := fun _ => True) rfl (fun _ hk => hk) trivial (of_decide_eq_true (zqD)) (Nat.le_trans (Nat.mul_le_mul_right _ (of_decide_eq_true (zqD) : t107.toNat ≤ 35184372088832)) (by omega)) (Below.refl _ _) (Nat.le_refl _) ?_
         intro v116 w23 ho24 hb hg_ hnew_
         clear hg_ hnew_
         (first | rw [← Ny115.out] at ho24 | (simp only [Int.reduceToNat] at ho24; rw [← Ny115.out] at ho24))
         have n0_ := zA (Kd.R_elder' (zqC HO111.out) (Kd.R_base ho24) hb); have n1_ := zA (Kd.R_lower (Kd.R_new' ho24 (Kd.R_lt (zqC HO111.out))) (below_size (zqH HB.out GE104.out GE105.out))); have n2_ := zA (blk_below (g := gb104) (zqB BK104.out) hb); have n3_ := zA (blk_below (g := gb105) (zqB BK105.out) hb); have n4_ := zA (below_step (zqH HB.out GE104.out GE105.out) hb); clear HO111 BK104 BK105 HB; have HO111 := n0_; have HO117 := n1_; have BK104 := n2_; have BK105 := n3_; have HB := n4_; clear n0_ n1_ n2_ n3_ n4_ hb ho24
         refine hK.out _ _ trivial (fun hHeld => ?_)
         clear hK K
         refine norm_ (a' := ?_) ?_ ?_
         rotate_left
         ·
          show Act.put _ (some 43) _ = _
          simp only [Act.put, List.setIfInBounds_toArray, List.set_cons_zero, List.set_cons_succ, i64_w, i32_w]
          rfl
         refine one_ (i := 1) (N := some 41) #[true, true, true, true, false, false] rfl rfl (by kernel_rfl) (by decide) (fun K hK => ?_)
         refine Kd.R_make_step (Kd.int .i64) _ 3 (by rfl) (N := 41) rfl 30 _ _ rfl t107 rfl rfl Try.underlying30 (.int .i64 0) 8 info3 rfl (by decide) (by omega) 0 (ok := fun _ => True) (okp := fun _ => True) rfl (fun _ hk => hk) trivial (of_decide_eq_true (zqD)) (Nat.le_trans (Nat.mul_le_mul_right _ (of_decide_eq_true (zqD) : t107.toNat ≤ 35184372088832)) (by omega)) (Below.refl _ _) (Nat.le_refl _) ?_
         intro v113 w25 ho26 hb hg_ hnew_
         clear hg_ hnew_
         (first | rw [← Ny112.out] at ho26 | (simp only [Int.reduceToNat] at ho26; rw [← Ny112.out] at ho26))
         have n0_ := zA (Kd.R_elder' (zqC HO111.out) (Kd.R_base ho26) hb); have n1_ := zA (Kd.R_elder' (zqC HO117.out) (Kd.R_base ho26) hb); have n2_ := zA (Kd.R_lower (Kd.R_new' (Kd.R_new' ho26 (Kd.R_lt (zqC HO111.out))) (Kd.R_lt (zqC HO117.out))) (below_size (zqH HB.out GE104.out GE105.out))); have n3_ := zA (blk_below (g := gb104) (zqB BK104.out) hb); have n4_ := zA (blk_below (g := gb105) (zqB BK105.out) hb); have n5_ := zA (below_step (zqH HB.out GE104.out GE105.out) hb); clear HO111 HO117 BK104 BK105 HB; have HO111 := n0_; have HO117 := n1_; have HO114 := n2_; have BK104 := n3_; have BK105 := n4_; have HB := n5_; clear n0_ n1_ n2_ n3_ n4_ n5_ hb ho26
         refine hK.out _ _ trivial (fun hHeld => ?_)
         clear hK K
         refine norm_ (a' := ?_) ?_ ?_
         rotate_left
         ·
          show Act.put _ (some 41) _ = _
          simp only [Act.put, List.setIfInBounds_toArray, List.set_cons_zero, List.set_cons_succ, i64_w, i32_w]
          rfl
         refine pure_ (i := 4) (N := some 10) (v := ?_) (a' := ?_) #[true, true, true, true, true, false] rfl rfl (by kernel_rfl) (fun _ _ _ h => h) (Or.inl ⟨by rfl, ?_⟩) ?_ ?_
         rotate_left
         ·
          intro w'
          go_simp
          with_reducible rfl
         rotate_left
         ·
          simp only [Act.put, List.setIfInBounds_toArray, List.set_cons_zero, List.set_cons_succ, i64_w, i32_w]
          rfl
         exact norm_ (by simp only [putAll, Act.put, List.setIfInBounds_toArray, List.set_cons_zero, List.set_cons_succ]) (hCont (v113, v116) _ ⟨(by (with_reducible repeat (first | apply Kd.R_alloc | apply Kd.R_drewN | apply Kd.R_drew)); exact Kd.R_mono HO111.out (fun _ hk => ⟨hk.2, hk.1.2⟩)), (by (with_reducible repeat (first | apply Kd.R_alloc | apply Kd.R_drewN | apply Kd.R_drew)); exact Kd.R_mono HO114.out (fun _ hk => ⟨hk.1.2, hk.2⟩)), (by (with_reducible repeat (first | apply Kd.R_alloc | apply Kd.R_drewN | apply Kd.R_drew)); exact Kd.R_mono HO117.out (fun _ hk => ⟨hk.1.2, hk.2⟩)), (zqB BK104.out), (zqB BK105.out), (zqH HB.out GE104.out GE105.out)⟩)
       rintro ⟨v113, v116⟩ w27 ⟨h0_, h1_, h2_, h3_, h4_, h5_⟩
       have n0_ : Aside0 (Kd.R (Kd.int .i64) 3 w27 w.heap.size (fun k_ => some k_ ≠ (v113 : Value).ownBlock ∧ some k_ ≠ (v116 : Value).ownBlock) v110 y109) := ⟨h0_⟩
       have n1_ : Aside0 (Kd.R (Kd.int .i64) 3 w27 w.heap.size (fun k_ => some k_ ≠ (v110 : Value).ownBlock ∧ some k_ ≠ (v116 : Value).ownBlock) v113 y112) := ⟨h1_⟩
       have n2_ : Aside0 (Kd.R (Kd.int .i64) 3 w27 w.heap.size (fun k_ => some k_ ≠ (v110 : Value).ownBlock ∧ some k_ ≠ (v113 : Value).ownBlock) v116 y115) := ⟨h2_⟩
       have n3_ : Aside0 (w27.heap[gb104]? = some (.cells #[.slice A0_0 l0_0.length c0_0, .slice A0_1 l0_1.length c0_1] 40 (0, 0))) := ⟨h3_⟩
       have n4_ : Aside0 (w27.heap[gb105]? = some (.cells #[.slice A1_0 l1_0.length c1_0, .slice A1_1 l1_1.length c1_1] 56 (0, 0))) := ⟨h4_⟩
       have n5_ : Aside0 (Below w.heap.size w w27) := ⟨h5_⟩
       clear HO111 BK104 BK105 HB h0_ h1_ h2_ h3_ h4_ h5_; have HO111 := n0_; have HO114 := n1_; have HO117 := n2_; have BK104 := n3_; have BK105 := n4_; have HB := n5_; clear n0_ n1_ n2_ n3_ n4_ n5_; have hHeld := trivial
       refine norm_ (a' := ?_) ?_ ?_
       rotate_left
       ·
        simp only [putAll, Act.put, List.setIfInBounds_toArray, List.set_cons_zero, List.set_cons_succ]
        rfl
       refine pure_ (i := 5) (N := some 11) (v := ?_) (a' := ?_) #[true, true, true, true, true, true] rfl rfl (by kernel_rfl) (fun _ _ _ h => h) (Or.inl ⟨by rfl, ?_⟩) ?_ ?_
       rotate_left
       ·
        intro w'
        go_simp
        with_reducible rfl
       rotate_left
       ·
        simp only [Act.put, List.setIfInBounds_toArray, List.set_cons_zero, List.set_cons_succ, i64_w, i32_w]
        rfl
       refine done_ (by kernel_rfl) ?_
       try go_wp2
       go_loopg [4, 12, 13, 45] k (fun kq v4 v12 v13 v45 w' => ∃ (x4_1 : List Int) (x9_1 : List Int) (x10_1 : List Int) (x11_1 : List Int) (x12_1 : Int) (x13_1 : Int) (x45_1 : Int), v12 = .int .i64 x12_1 ∧ v13 = .int .i64 x13_1 ∧ v45 = .int .i64 x45_1 ∧ Aside0 (pump_Lacks.l0 kq x4_1 x9_1 x10_1 x11_1 x12_1 x13_1 t107 x45_1 l1_0 l1_1 = some (r1, r2, r3)) ∧ Aside0 (kq ≤ k) ∧ Aside0 (Kd.R (Kd.int .i64) 3 w' w.heap.size (fun k_ => some k_ ≠ (v110 : Value).ownBlock ∧ some k_ ≠ (v113 : Value).ownBlock ∧ some k_ ≠ (v116 : Value).ownBlock) v4 x4_1) ∧ Aside0 (Kd.R (Kd.int .i64) 3 w' w.heap.size (fun k_ => some k_ ≠ (v4 : Value).ownBlock ∧ some k_ ≠ (v113 : Value).ownBlock ∧ some k_ ≠ (v116 : Value).ownBlock) v110 x9_1) ∧ Aside0 (Kd.R (Kd.int .i64) 3 w' w.heap.size (fun k_ => some k_ ≠ (v4 : Value).ownBlock ∧ some k_ ≠ (v110 : Value).ownBlock ∧ some k_ ≠ (v116 : Value).ownBlock) v113 x10_1) ∧ Aside0 (Kd.R (Kd.int .i64) 3 w' w.heap.size (fun k_ => some k_ ≠ (v4 : Value).ownBlock ∧ some k_ ≠ (v110 : Value).ownBlock ∧ some k_ ≠ (v113 : Value).ownBlock) v116 x11_1) ∧ Aside0 (w'.heap[gb104]? = some (.cells #[(.slice A0_0 l0_0.length c0_0), (.slice A0_1 l0_1.length c0_1)] 40 (0, 0))) ∧ Aside0 (w'.heap[gb105]? = some (.cells #[(.slice A1_0 l1_0.length c1_0), (.slice A1_1 l1_1.length c1_1)] 56 (0, 0))) ∧ Aside0 (Below w.heap.size w w'))
       case atStart => exact ⟨(([] : List Int)), (y109), (y112), (y115), (0), (0), (0), zqQ, zqQ, zqQ, H', ⟨Nat.le_refl _⟩, ⟨by first | exact Kd.R_nil _ _ _ _ _ | exact Kd.N_nil _ _ _ _ _ | exact Kd.V_nil _ _ _ _ _ | exact Kd.Q_nil _ _ _ _ _ | exact Kd.S_nil _ _ _ _ _⟩, ⟨by (with_reducible repeat (first | apply Kd.R_alloc | apply Kd.R_drewN | apply Kd.R_drew)); exact Kd.R_mono HO111.out (fun _ hk => ⟨(by simp [Value.ownBlock]), ⟨hk.1, hk.2⟩⟩)⟩, ⟨by (with_reducible repeat (first | apply Kd.R_alloc | apply Kd.R_drewN | apply Kd.R_drew)); exact Kd.R_mono HO114.out (fun _ hk => ⟨(by simp [Value.ownBlock]), ⟨hk.1, hk.2⟩⟩)⟩, ⟨by (with_reducible repeat (first | apply Kd.R_alloc | apply Kd.R_drewN | apply Kd.R_drew)); exact Kd.R_mono HO117.out (fun _ hk => ⟨(by simp [Value.ownBlock]), ⟨hk.1, hk.2⟩⟩)⟩, ⟨zqB BK104.out⟩, ⟨zqB BK105.out⟩, ⟨zqH HB.out GE104.out GE105.out⟩⟩
       case round =>
        clear H'
        try clear c1
        try clear p2
        try clear c3
        try clear c4
        try clear c4b0
        try clear c4b1
        try clear c6
        try clear c6b0
        try clear c6b1
        try clear c7
        try clear c7b0
        try clear c7b1
        try clear c8
        try clear c8b0
        try clear c8b1
        try clear c9
        try clear c9b0
        try clear c9b1
        try clear c10
        try clear c10b0
        try clear c10b1
        try clear c13
        try clear hcz14_0
        try clear hcz14_1
        try clear hcz16_0
        try clear hcz16_1
        try clear hcz17_0
        try clear hcz17_1
        try clear hcz19_0
        try clear hcz19_1
        try clear hfz14_0
        try clear hfz14_1
        try clear hfz16_0
        try clear hfz16_1
        try clear hfz17_0
        try clear hfz17_1
        try clear hfz19_0
        try clear hfz19_1
        obtain ⟨x4_1, x9_1, x10_1, x11_1, x12_1, x13_1, x45_1, rfl, rfl, rfl, HA, HK1, HO_4, HO_9, HO_10, HO_11, BK104, BK105, HB⟩ := hrel
        cases gk with
        | zero => exact absurd HA.out (by simp [pump_Lacks.l0])
        | succ k1 =>
         have H := HA.out
         clear HA
         simp only [pump_Lacks.l0] at H
         by_cases c28 : x45_1 < t107
         ·
          rw [if_pos c28] at H
          have c28b0 : decide (x45_1 < t107) = true := decide_eq_true c28
          clear c28
          have H' := zA H
          clear H
          have hnb29 := NB105_104.out
          have hnc29 := NB104_105.out
          have hcz30_0 : wr.cell? ⟨gb105, 0, none⟩ = some (.slice A1_0 l1_0.length c1_0) := (blk_cell BK105.out 0).trans rfl
          have hcz30_1 : wr.cell? ⟨gb105, 1, none⟩ = some (.slice A1_1 l1_1.length c1_1) := (blk_cell BK105.out 1).trans rfl
          have hfz30_0 := blk_frozen BK105.out 0
          have hfz30_1 := blk_frozen BK105.out 1
          go_wp2
          go_loopg [15, 51] k1 (fun kq v15 v51 w' => ∃ (x15_2 : Int) (x51_2 : Int), v15 = .int .i64 x15_2 ∧ v51 = .int .i64 x51_2 ∧ Aside0 (pump_Lacks.l1 kq x4_1 x9_1 x10_1 x11_1 x12_1 x13_1 x45_1 x15_2 t107 x45_1 l1_0 (l1_0.length : Int) x51_2 l1_0 l1_1 = some (r1, r2, r3)) ∧ Aside0 (kq ≤ k1) ∧ Aside0 (Kd.R (Kd.int .i64) 3 w' w.heap.size (fun k_ => some k_ ≠ (v110 : Value).ownBlock ∧ some k_ ≠ (v113 : Value).ownBlock ∧ some k_ ≠ (v116 : Value).ownBlock) u4 x4_1) ∧ Aside0 (Kd.R (Kd.int .i64) 3 w' w.heap.size (fun k_ => some k_ ≠ (u4 : Value).ownBlock ∧ some k_ ≠ (v113 : Value).ownBlock ∧ some k_ ≠ (v116 : Value).ownBlock) v110 x9_1) ∧ Aside0 (Kd.R (Kd.int .i64) 3 w' w.heap.size (fun k_ => some k_ ≠ (u4 : Value).ownBlock ∧ some k_ ≠ (v110 : Value).ownBlock ∧ some k_ ≠ (v116 : Value).ownBlock) v113 x10_1) ∧ Aside0 (Kd.R (Kd.int .i64) 3 w' w.heap.size (fun k_ => some k_ ≠ (u4 : Value).ownBlock ∧ some k_ ≠ (v110 : Value).ownBlock ∧ some k_ ≠ (v113 : Value).ownBlock) v116 x11_1) ∧ Aside0 (w'.heap[gb104]? = some (.cells #[(.slice A0_0 l0_0.length c0_0), (.slice A0_1 l0_1.length c0_1)] 40 (0, 0))) ∧ Aside0 (w'.heap[gb105]? = some (.cells #[(.slice A1_0 l1_0.length c1_0), (.slice A1_1 l1_1.length c1_1)] 56 (0, 0))) ∧ Aside0 (Below w.heap.size w w'))
          case atStart => exact ⟨(0), (0), zqQ, zqQ, H', ⟨Nat.le_refl _⟩, ⟨zqC HO_4.out⟩, ⟨zqC HO_9.out⟩, ⟨zqC HO_10.out⟩, ⟨zqC HO_11.out⟩, ⟨zqB BK104.out⟩, ⟨zqB BK105.out⟩, ⟨zqH HB.out GE104.out GE105.out⟩⟩
          case round =>
           clear H'
           try clear c1
           try clear c2
           try clear p2
           try clear c3
           try clear c4
           try clear c4b0
           try clear c4b1
           try clear c6
           try clear c6b0
           try clear c6b1
           try clear c7
           try clear c7b0
           try clear c7b1
           try clear c8
           try clear c8b0
           try clear c8b1
           try clear c9
           try clear c9b0
           try clear c9b1
           try clear c10
           try clear c10b0
           try clear c10b1
           try clear c13
           try clear c28
           try clear c28b0
           try clear c29
           try clear hcz14_0
           try clear hcz14_1
           try clear hcz16_0
           try clear hcz16_1
           try clear hcz17_0
           try clear hcz17_1
           try clear hcz19_0
           try clear hcz19_1
           try clear hcz30_0
           try clear hcz30_1
           try clear hfz14_0
           try clear hfz14_1
           try clear hfz16_0
           try clear hfz16_1
           try clear hfz17_0
           try clear hfz17_1
           try clear hfz19_0
           try clear hfz19_1
           try clear hfz30_0
           try clear hfz30_1
           try clear p2
           obtain ⟨x15_2, x51_2, rfl, rfl, HA, HK2, HO_4, HO_9, HO_10, HO_11, BK104, BK105, HB⟩ := hrel
           cases gk with
           | zero => exact absurd HA.out (by simp [pump_Lacks.l1])
           | succ k2 =>
            have H := HA.out
            clear HA
            simp only [pump_Lacks.l1] at H
            by_cases c31 : x51_2 < (l1_0.length : Int)
            ·
             rw [if_pos c31] at H
             have c31b0 : decide (x51_2 < (l1_0.length : Int)) = true := decide_eq_true c31
             clear c31
             by_cases c32 : 0 ≤ x51_2
             ·
              rw [if_pos c32] at H
              have c32b0 : decide (0 ≤ x51_2) = true := decide_eq_true c32
              clear c32
              by_cases c33 : x51_2 < (l1_0.length : Int)
              ·
               rw [if_pos c33] at H
               have c33b0 : decide (x51_2 < (l1_0.length : Int)) = true := decide_eq_true c33
               clear c33
               by_cases c34 : 0 ≤ x45_1
               ·
                rw [if_pos c34] at H
                have c34b0 : decide (0 ≤ x45_1) = true := decide_eq_true c34
                clear c34
                by_cases c35 : x45_1 < ((rd_L6 l1_0 x51_2).length : Int)
                ·
                 rw [if_pos c35] at H
                 have c35b0 : decide (x45_1 < ((rd_L6 l1_0 x51_2).length : Int)) = true := decide_eq_true c35
                 clear c35
                 have H' := zA H
                 clear H
                 have p118 : 0 ≤ (x51_2 : Int) := of_decide_eq_true (zqD)
                 have q118 : x51_2 < (l1_0.length : Int) := of_decide_eq_true (zqD)
                 obtain ⟨ad118, A118_0, c118_0, e118, hx118_0, hl118_0, hi118_0⟩ := at_L6 HR1_0.out x51_2 p118 q118
                 cases e118
                 replace hx118_0 := (HB.out.cell (World.block_lt_of_cell? w _ hx118_0)).trans hx118_0
                 have HR118_0 := zA hi118_0
                 have HC118_0 := zA hl118_0
                 clear hi118_0 hl118_0; replace p118 := eq_true p118; replace q118 := eq_true q118
                 have p119 : 0 ≤ (x45_1 : Int) := of_decide_eq_true (zqD)
                 have q119 : x45_1 < ((rd_L6 l1_0 x51_2).length : Int) := of_decide_eq_true (zqD)
                 obtain ⟨ad119, e119, hx119_0⟩ := Kd.at_int HR118_0.out x45_1 p119 q119
                 cases e119
                 replace hx119_0 := (HB.out.cell (World.block_lt_of_cell? w _ hx119_0)).trans hx119_0
                 replace p119 := eq_true p119; replace q119 := eq_true q119
                 go_wp2
                 go_roundg k2
                 case measure => have := HK1.out; have := HK2.out; omega
                 case rel => exact ⟨(wrap64 (x15_2 + (rd (rd_L6 l1_0 x51_2) x45_1))), (wrap64 (x51_2 + 1)), zqQ, zqQ, H', ⟨by have := HK1.out; have := HK2.out; omega⟩, ⟨zqC HO_4.out⟩, ⟨zqC HO_9.out⟩, ⟨zqC HO_10.out⟩, ⟨zqC HO_11.out⟩, ⟨zqB BK104.out⟩, ⟨zqB BK105.out⟩, ⟨zqH HB.out GE104.out GE105.out⟩⟩
                ·
                 rw [if_neg c35] at H
                 exact absurd H (by simp)
               ·
                rw [if_neg c34] at H
                exact absurd H (by simp)
              ·
               rw [if_neg c33] at H
               exact absurd H (by simp)
             ·
              rw [if_neg c32] at H
              exact absurd H (by simp)
            ·
             rw [if_neg c31] at H
             have c31b0 : decide (x51_2 < (l1_0.length : Int)) = false := decide_eq_false c31
             clear c31
             have H' := zA H
             clear H
             have hnb36 := NB105_104.out
             have hnc36 := NB104_105.out
             have hcz37_0 : wr.cell? ⟨gb105, 0, none⟩ = some (.slice A1_0 l1_0.length c1_0) := (blk_cell BK105.out 0).trans rfl
             have hcz37_1 : wr.cell? ⟨gb105, 1, none⟩ = some (.slice A1_1 l1_1.length c1_1) := (blk_cell BK105.out 1).trans rfl
             have hfz37_0 := blk_frozen BK105.out 0
             have hfz37_1 := blk_frozen BK105.out 1
             go_wp2
             go_loopg [15, 68] k2 (fun kq v15 v68 w' => ∃ (x9_3 : List Int) (x15_3 : Int) (x68_3 : Int), v15 = .int .i64 x15_3 ∧ v68 = .int .i64 x68_3 ∧ Aside0 (pump_Lacks.l2 kq x4_1 x9_3 x10_1 x11_1 (wrap64 (x12_1 + x15_2)) x13_1 x45_1 x15_3 t107 x45_1 l1_1 (l1_1.length : Int) x68_3 l1_0 l1_1 = some (r1, r2, r3)) ∧ Aside0 (kq ≤ k2) ∧ Aside0 (Kd.R (Kd.int .i64) 3 w' w.heap.size (fun k_ => some k_ ≠ (v110 : Value).ownBlock ∧ some k_ ≠ (v113 : Value).ownBlock ∧ some k_ ≠ (v116 : Value).ownBlock) u4 x4_1) ∧ Aside0 (Kd.R (Kd.int .i64) 3 w' w.heap.size (fun k_ => some k_ ≠ (u4 : Value).ownBlock ∧ some k_ ≠ (v113 : Value).ownBlock ∧ some k_ ≠ (v116 : Value).ownBlock) v110 x9_3) ∧ Aside0 (Kd.R (Kd.int .i64) 3 w' w.heap.size (fun k_ => some k_ ≠ (u4 : Value).ownBlock ∧ some k_ ≠ (v110 : Value).ownBlock ∧ some k_ ≠ (v116 : Value).ownBlock) v113 x10_1) ∧ Aside0 (Kd.R (Kd.int .i64) 3 w' w.heap.size (fun k_ => some k_ ≠ (u4 : Value).ownBlock ∧ some k_ ≠ (v110 : Value).ownBlock ∧ some k_ ≠ (v113 : Value).ownBlock) v116 x11_1) ∧ Aside0 (w'.heap[gb104]? = some (.cells #[(.slice A0_0 l0_0.length c0_0), (.slice A0_1 l0_1.length c0_1)] 40 (0, 0))) ∧ Aside0 (w'.heap[gb105]? = some (.cells #[(.slice A1_0 l1_0.length c1_0), (.slice A1_1 l1_1.length c1_1)] 56 (0, 0))) ∧ Aside0 (Below w.heap.size w w'))
             case atStart => exact ⟨(x9_1), (x15_2), (0), zqQ, zqQ, H', ⟨Nat.le_refl _⟩, ⟨zqC HO_4.out⟩, ⟨zqC HO_9.out⟩, ⟨zqC HO_10.out⟩, ⟨zqC HO_11.out⟩, ⟨zqB BK104.out⟩, ⟨zqB BK105.out⟩, ⟨zqH HB.out GE104.out GE105.out⟩⟩
             case round =>
              clear H'
              try clear c1
              try clear p1
              try clear q1
              try clear hx1
              try clear c2
              try clear p2
              try clear c3
              try clear c4
              try clear c4b0
              try clear c4b1
              try clear c6
              try clear c6b0
              try clear c6b1
              try clear p6
              try clear c7
              try clear c7b0
              try clear c7b1
              try clear c8
              try clear c8b0
              try clear c8b1
              try clear c9
              try clear c9b0
              try clear c9b1
              try clear c10
              try clear c10b0
              try clear c10b1
              try clear c11
              try clear p11
              try clear q11
              try clear hx11
              try clear c13
              try clear c28
              try clear c28b0
              try clear c29
              try clear c31
              try clear c31b0
              try clear c32
              try clear c32b0
              try clear c33
              try clear c33b0
              try clear c34
              try clear c34b0
              try clear c35
              try clear c35b0
              try clear c36
              try clear hcz14_0
              try clear hcz14_1
              try clear hcz16_0
              try clear hcz16_1
              try clear hcz17_0
              try clear hcz17_1
              try clear hcz19_0
              try clear hcz19_1
              try clear hcz30_0
              try clear hcz30_1
              try clear hcz37_0
              try clear hcz37_1
              try clear hfz14_0
              try clear hfz14_1
              try clear hfz16_0
              try clear hfz16_1
              try clear hfz17_0
              try clear hfz17_1
              try clear hfz19_0
              try clear hfz19_1
              try clear hfz30_0
              try clear hfz30_1
              try clear hfz37_0
              try clear hfz37_1
              try clear hx118_0
              try clear hx119_0
              try clear p118
              try clear p119
              try clear p2
              try clear q118
              try clear q119
              obtain ⟨x9_3, x15_3, x68_3, rfl, rfl, HA, HK3, HO_4, HO_9, HO_10, HO_11, BK104, BK105, HB⟩ := hrel
              cases gk with
              | zero => exact absurd HA.out (by simp [pump_Lacks.l2])
              | succ k3 =>
               have H := HA.out
               clear HA
               simp only [pump_Lacks.l2] at H
               by_cases c38 : x68_3 < (l1_1.length : Int)
               ·
                rw [if_pos c38] at H
                have c38b0 : decide (x68_3 < (l1_1.length : Int)) = true := decide_eq_true c38
                clear c38
                by_cases c39 : 0 ≤ x68_3
                ·
                 rw [if_pos c39] at H
                 have c39b0 : decide (0 ≤ x68_3) = true := decide_eq_true c39
                 clear c39
                 by_cases c40 : x68_3 < (l1_1.length : Int)
                 ·
                  rw [if_pos c40] at H
                  have c40b0 : decide (x68_3 < (l1_1.length : Int)) = true := decide_eq_true c40
                  clear c40
                  by_cases c41 : x68_3 < (x9_3.length : Int)
                  ·
                   rw [if_pos c41] at H
                   have c41b0 : decide (x68_3 < (x9_3.length : Int)) = true := decide_eq_true c41
                   clear c41
                   obtain ⟨y122, hy122⟩ : ∃ y_ : List Int, y_ = (x9_3.set (x68_3 : Int).toNat (wrap64 ((rd x9_3 x68_3) + x15_3))) := ⟨_, rfl⟩
                   replace H : (if 0 ≤ x45_1 then (if x45_1 < ((rd_L6 l1_1 x68_3).length : Int) then (pump_Lacks.l2 k3 x4_1 (y122.set (x68_3 : Int).toNat (wrap64 ((rd y122 x68_3) - (mn (rd y122 x68_3) (rd (rd_L6 l1_1 x68_3) x45_1))))) x10_1 x11_1 (wrap64 (x12_1 + x15_2)) x13_1 x45_1 (mn (rd y122 x68_3) (rd (rd_L6 l1_1 x68_3) x45_1)) t107 x45_1 l1_1 (l1_1.length : Int) (wrap64 (x68_3 + 1)) l1_0 l1_1) else (none)) else (none)) = some (r1, r2, r3) := zqF hy122 H
                   have Ny122 := zA hy122
                   clear hy122
                   by_cases c43 : 0 ≤ x45_1
                   ·
                    rw [if_pos c43] at H
                    have c43b0 : decide (0 ≤ x45_1) = true := decide_eq_true c43
                    clear c43
                    by_cases c44 : x45_1 < ((rd_L6 l1_1 x68_3).length : Int)
                    ·
                     rw [if_pos c44] at H
                     have c44b0 : decide (x45_1 < ((rd_L6 l1_1 x68_3).length : Int)) = true := decide_eq_true c44
                     clear c44
                     obtain ⟨ji45, hji45⟩ : ∃ j_ : Int, (mn (rd y122 x68_3) (rd (rd_L6 l1_1 x68_3) x45_1)) = j_ := ⟨_, rfl⟩
                     replace H : (pump_Lacks.l2 k3 x4_1 (y122.set (x68_3 : Int).toNat (wrap64 ((rd y122 x68_3) - (ji45)))) x10_1 x11_1 (wrap64 (x12_1 + x15_2)) x13_1 x45_1 ji45 t107 x45_1 l1_1 (l1_1.length : Int) (wrap64 (x68_3 + 1)) l1_0 l1_1) = some (r1, r2, r3) := by first | (rw [hji45] at H; exact H) | (simp only [hji45] at H ⊢; exact H)
                     have hji45_ : (if (rd (rd_L6 l1_1 x68_3) x45_1) < (rd y122 x68_3) then (rd (rd_L6 l1_1 x68_3) x45_1) else (rd y122 x68_3)) = ji45 := hji45
                     obtain ⟨y126, hy126⟩ : ∃ y_ : List Int, y_ = (y122.set (x68_3 : Int).toNat (wrap64 ((rd y122 x68_3) - (ji45)))) := ⟨_, rfl⟩
                     replace H : (pump_Lacks.l2 k3 x4_1 y126 x10_1 x11_1 (wrap64 (x12_1 + x15_2)) x13_1 x45_1 ji45 t107 x45_1 l1_1 (l1_1.length : Int) (wrap64 (x68_3 + 1)) l1_0 l1_1) = some (r1, r2, r3) := zqF hy126 H
                     have Ny126 := zA hy126
                     clear hy126
                     have H' := zA H
                     clear H
                     have p120 : 0 ≤ (x68_3 : Int) := of_decide_eq_true (zqD)
                     have q120 : x68_3 < (l1_1.length : Int) := of_decide_eq_true (zqD)
                     obtain ⟨ad120, A120_0, c120_0, e120, hx120_0, hl120_0, hi120_0⟩ := at_L6 HR1_1.out x68_3 p120 q120
                     cases e120
                     replace hx120_0 := (HB.out.cell (World.block_lt_of_cell? w _ hx120_0)).trans hx120_0
                     have HR120_0 := zA hi120_0
                     have HC120_0 := zA hl120_0
                     clear hi120_0 hl120_0; replace p120 := eq_true p120; replace q120 := eq_true q120
                     obtain ⟨Ao47, co47, eo47⟩ := Kd.R_slice HO_9.out
                     subst eo47
                     have p121 : 0 ≤ (x68_3 : Int) := of_decide_eq_true (zqD)
                     have q121 : x68_3 < (x9_3.length : Int) := of_decide_eq_true (zqD)
                     obtain ⟨ad121, e121, hx121_0⟩ := Kd.at_int (Kd.R_reads' HO_9.out).2.2 x68_3 p121 q121
                     cases e121; replace p121 := eq_true p121; replace q121 := eq_true q121
                     have p42 : 0 ≤ (x68_3 : Int) := of_decide_eq_true (zqD)
                     have q42 : (x68_3 : Int) < ((x9_3.length : Int) : Int) := of_decide_eq_true (zqD)
                     obtain ⟨go42, co42, eo42, gb42, gl42, cl42, HG42⟩ := Kd.R_form HO_9.out (by omega)
                     (first | cases eo42 | (injection eo42 with ea_ en_ ec_; (first | subst ea_ | (injection ea_ with ea_; subst ea_)); subst ec_; clear en_))
                     have GB42 := zA gb42
                     have GG42 := zA HG42
                     clear gb42 gl42 HG42
                     (first | simp only [add_plain] at hx121_0 | skip)
                     obtain ⟨hx42_0, hf42_0⟩ := Kd.R_celln 0 HO_9.out (x68_3 : Int) p42 q42
                     replace p42 := eq_true p42; replace q42 := eq_true q42
                     have HP48 := Kd.R_putg HO_9.out (x68_3 : Int) (wrap64 ((rd x9_3 x68_3) + x15_3))
                     try go_wp2_with (first | ((with_reducible refine gate_store (t := 3) (p := 79) rfl ?_); refine store_event (t := 3) (p := 79) (v := ?vo_w49) (w1 := (wr.setCell ⟨go42, (x68_3 : Int).toNat, none⟩ (.int .i64 (wrap64 ((rd x9_3 x68_3) + x15_3))))) ?hg ?ho ?hn ?hr ?_; (case ho => rfl); (case hg => rfl); (case hn => rfl); (case hr => first | (go_simp; done) | (go_simp; rfl)); intro w49 hw; have hg : wr.grownBy w49 (some go42) := (by rw [hw]; exact HP48.2); have hp_ : Kd.R (Kd.int .i64) 3 w49 w.heap.size (fun k_ => some k_ ≠ (u4 : Value).ownBlock ∧ some k_ ≠ (v113 : Value).ownBlock ∧ some k_ ≠ (v116 : Value).ownBlock) (.slice (some ⟨go42, 0, none⟩) x9_3.length co47) y122 := (by rw [hw, Ny122.out]; exact HP48.1); clear HP48; have n0_ := zA (Kd.R_after (v := (.slice (some ⟨go42, 0, none⟩) x9_3.length co47)) (v1 := (.slice (some ⟨go42, 0, none⟩) x9_3.length co47)) (ok := (fun k_ => some k_ ≠ (v113 : Value).ownBlock ∧ some k_ ≠ (v116 : Value).ownBlock)) (by (with_reducible repeat (first | apply Kd.R_alloc | apply Kd.R_drewN | apply Kd.R_drew)); exact Kd.R_mono HO_4.out (fun _ hk => ⟨⟨hk.2.1, hk.2.2⟩, hk.1⟩)) hg (.inl rfl)); have n1_ := zA (hp_); have n2_ := zA (Kd.R_after (v := (.slice (some ⟨go42, 0, none⟩) x9_3.length co47)) (v1 := (.slice (some ⟨go42, 0, none⟩) x9_3.length co47)) (ok := (fun k_ => some k_ ≠ (u4 : Value).ownBlock ∧ some k_ ≠ (v116 : Value).ownBlock)) (by (with_reducible repeat (first | apply Kd.R_alloc | apply Kd.R_drewN | apply Kd.R_drew)); exact Kd.R_mono HO_10.out (fun _ hk => ⟨⟨hk.1, hk.2.2⟩, hk.2.1⟩)) hg (.inl rfl)); have n3_ := zA (Kd.R_after (v := (.slice (some ⟨go42, 0, none⟩) x9_3.length co47)) (v1 := (.slice (some ⟨go42, 0, none⟩) x9_3.length co47)) (ok := (fun k_ => some k_ ≠ (u4 : Value).ownBlock ∧ some k_ ≠ (v113 : Value).ownBlock)) (by (with_reducible repeat (first | apply Kd.R_alloc | apply Kd.R_drewN | apply Kd.R_drew)); exact Kd.R_mono HO_11.out (fun _ hk => ⟨⟨hk.1, hk.2.2⟩, hk.2.1⟩)) hg (.inl rfl)); have n4_ := zA (blk_grown (g := gb104) (o := .cells #[.slice A0_0 l0_0.length c0_0, .slice A0_1 l0_1.length c0_1] 40 (0, 0)) (zqB BK104.out) hg (Kd.R_ne HO_9.out BK104.out (by decide))); have n5_ := zA (blk_grown (g := gb105) (o := .cells #[.slice A1_0 l1_0.length c1_0, .slice (some ad120) l1_1.length c1_1] 56 (0, 0)) (zqB BK105.out) hg (Kd.R_ne HO_9.out BK105.out (by decide))); have n6_ := zA ((by rw [hw]; exact below_set (HB.out) GB42.out : Below w.heap.size w w49)); clear HO_4; clear HO_9; clear HO_10; clear HO_11; clear BK104; clear BK105; clear HB; have HO_4 := n0_; have HO_9 := n1_; have HO_10 := n2_; have HO_11 := n3_; have BK104 := n4_; have BK105 := n5_; have HB := n6_; clear n0_ n1_ n2_ n3_ n4_ n5_ n6_; clear hg hw hp_))
                     have n0_ := zA (Kd.R_drew HO_4.out); have n1_ := zA (Kd.R_drew HO_9.out); have n2_ := zA (Kd.R_drew HO_10.out); have n3_ := zA (Kd.R_drew HO_11.out); have n4_ := zA (blk_drew BK104.out); have n5_ := zA (blk_drew BK105.out); have n6_ := zA (below_drew1 HB.out); clear HO_4 HO_9 HO_10 HO_11 BK104 BK105 HB; have HO_4 := n0_; have HO_9 := n1_; have HO_10 := n2_; have HO_11 := n3_; have BK104 := n4_; have BK105 := n5_; have HB := n6_; clear n0_ n1_ n2_ n3_ n4_ n5_ n6_
                     have p123 : 0 ≤ (x68_3 : Int) := of_decide_eq_true (zqD)
                     have q123 : x68_3 < (y122.length : Int) := (by have h_ : (x68_3 : Int) < ((x9_3.length : Int) : Int) := of_decide_eq_true (zqD); first | (have e_ := (Kd.R_reads' HO_9.out).1; omega) | simpa only [Ny122.out, List.length_set] using h_)
                     have ql123 : ((x68_3 : Int) < ((x9_3.length : Int) : Int)) = True := eq_true (of_decide_eq_true (zqD))
                     obtain ⟨ad123, e123, hx123_0⟩ := Kd.at_int (Kd.R_reads' HO_9.out).2.2 x68_3 p123 q123
                     obtain rfl : (⟨go42, 0, none⟩ : Addr) = ad123 := (by injection e123)
                     (first | simp only [add_plain] at hx123_0 | simp only [add_at] at hx123_0 | simp only [Addr.add, Nat.zero_add] at hx123_0 | skip)
                     replace p123 := eq_true p123; replace q123 := eq_true q123
                     have p124 : 0 ≤ (x45_1 : Int) := of_decide_eq_true (zqD)
                     have q124 : x45_1 < ((rd_L6 l1_1 x68_3).length : Int) := of_decide_eq_true (zqD)
                     obtain ⟨ad124, e124, hx124_0⟩ := Kd.at_int HR120_0.out x45_1 p124 q124
                     have hw124_0 := hx124_0; cases e124
                     replace hx124_0 := (HB.out.cell (World.block_lt_of_cell? w _ hx124_0)).trans hx124_0
                     replace p124 := eq_true p124; replace q124 := eq_true q124
                     refine start_ (n := 10) (S := fun w' => w'.cell? ⟨go42, (x68_3).toNat, none⟩ = some (.int .i64 (rd y122 x68_3)) ∧ w'.cell? (ad124.add (x45_1).toNat) = some (.int .i64 (rd (rd_L6 l1_1 x68_3) x45_1))) (ds := []) #[false, false, false, false, false, false, false, false, false, false] (by kernel_rfl) rfl rfl ⟨hx123_0, ((HB.out.cell (World.block_lt_of_cell? w _ hw124_0)).trans hw124_0)⟩ (fun hHeld => ?_); refine with_tabW pump_Lacks.tab24 pump_Lacks.bits24 (fun HT_ HW_ => ?_)
                     generalize w49.drew = w50 at HO_4 HO_9 HO_10 HO_11 BK104 BK105 HB hx123_0 hx124_0 hHeld ⊢
                     refine pure_ (i := 0) (N := some 80) (v := ?_) (a' := ?_) #[true, false, false, false, false, false, false, false, false, false] rfl rfl (any_of HT_.out (by kernel_rfl)) (fun _ _ _ h => h) (Or.inl ⟨by rfl, ?_⟩) ?_ ?_
                     rotate_left
                     ·
                      intro w'
                      go_simp
                      with_reducible rfl
                     rotate_left
                     ·
                      simp only [Act.put, List.setIfInBounds_toArray, List.set_cons_zero, List.set_cons_succ, i64_w, i32_w]
                      rfl
                     refine pure_ (i := 1) (N := some 81) (v := ?_) (a' := ?_) #[true, true, false, false, false, false, false, false, false, false] rfl rfl (any_of HT_.out (by kernel_rfl)) (fun _ _ _ h => h) (Or.inl ⟨by rfl, ?_⟩) ?_ ?_
                     rotate_left
                     ·
                      intro w'
                      go_simp
                      with_reducible rfl
                     rotate_left
                     ·
                      simp only [Act.put, List.setIfInBounds_toArray, List.set_cons_zero, List.set_cons_succ, i64_w, i32_w]
                      rfl
                     refine pure_ (i := 2) (N := some 82) (v := ?_) (a' := ?_) #[true, true, true, false, false, false, false, false, false, false] rfl rfl (any_of HT_.out (by kernel_rfl)) (fun _ _ _ h => h) (Or.inl ⟨by rfl, ?_⟩) ?_ ?_
                     rotate_left
                     ·
                      intro w'
                      go_simp
                      with_reducible rfl
                     rotate_left
                     ·
                      simp only [Act.put, List.setIfInBounds_toArray, List.set_cons_zero, List.set_cons_succ, i64_w, i32_w]
                      rfl
                     refine pure_ (i := 4) (N := some 84) (v := ?_) (a' := ?_) #[true, true, true, false, true, false, false, false, false, false] rfl rfl (any_of HT_.out (by kernel_rfl)) (fun _ _ _ h => h) (Or.inl ⟨by rfl, ?_⟩) ?_ ?_
                     rotate_left
                     ·
                      intro w'
                      go_simp
                      with_reducible rfl
                     rotate_left
                     ·
                      simp only [Act.put, List.setIfInBounds_toArray, List.set_cons_zero, List.set_cons_succ, i64_w, i32_w]
                      rfl
                     refine pure_ (i := 5) (N := some 85) (v := ?_) (a' := ?_) #[true, true, true, false, true, true, false, false, false, false] rfl rfl (any_of HT_.out (by kernel_rfl)) (fun _ _ _ h => h) (Or.inl ⟨by rfl, ?_⟩) ?_ ?_
                     rotate_left
                     ·
                      intro w'
                      go_simp
                      with_reducible rfl
                     rotate_left
                     ·
                      simp only [Act.put, List.setIfInBounds_toArray, List.set_cons_zero, List.set_cons_succ, i64_w, i32_w]
                      rfl
                     refine pure_ (i := 6) (N := some 86) (v := ?_) (a' := ?_) #[true, true, true, false, true, true, true, false, false, false] rfl rfl (any_of HT_.out (by kernel_rfl)) (fun _ _ _ h => h) (Or.inl ⟨by rfl, ?_⟩) ?_ ?_
                     rotate_left
                     ·
                      intro w'
                      go_simp
                      with_reducible rfl
                     rotate_left
                     ·
                      simp only [Act.put, List.setIfInBounds_toArray, List.set_cons_zero, List.set_cons_succ, i64_w, i32_w]
                      rfl
                     refine take_ (i := 3) (N := some 83) (v := ?_) (a' := ?_) #[true, true, true, true, true, true, true, false, false, false] rfl rfl (take_ofW HT_.out HW_.out (by kernel_rfl)) (fun _ _ _ h => h) (Or.inl ⟨by rfl, ?_⟩) hHeld ?_ ?_
                     rotate_left
                     ·
                      rintro w' ⟨s0, s1⟩
                      go_simp
                      with_reducible rfl
                     rotate_left
                     ·
                      simp only [Act.put, List.setIfInBounds_toArray, List.set_cons_zero, List.set_cons_succ, i64_w, i32_w]
                      rfl
                     refine take_ (i := 7) (N := some 87) (v := ?_) (a' := ?_) #[true, true, true, true, true, true, true, true, false, false] rfl rfl (take_ofW HT_.out HW_.out (by kernel_rfl)) (fun _ _ _ h => h) (Or.inl ⟨by rfl, ?_⟩) hHeld ?_ ?_
                     rotate_left
                     ·
                      rintro w' ⟨s0, s1⟩
                      go_simp
                      with_reducible rfl
                     rotate_left
                     ·
                      simp only [Act.put, List.setIfInBounds_toArray, List.set_cons_zero, List.set_cons_succ, i64_w, i32_w]
                      rfl
                     refine pure_ (i := 8) (N := some 88) (v := ?_) (a' := ?_) #[true, true, true, true, true, true, true, true, true, false] rfl rfl (any_of HT_.out (by kernel_rfl)) (fun _ _ _ h => h) (Or.inl ⟨by rfl, ?_⟩) ?_ ?_
                     rotate_left
                     ·
                      intro w'
                      go_simp
                      with_reducible rfl
                     rotate_left
                     ·
                      simp only [Act.put, List.setIfInBounds_toArray, List.set_cons_zero, List.set_cons_succ, i64_w, i32_w]
                      rfl
                     refine pure_ (i := 9) (N := some 15) (v := ?_) (a' := ?_) #[true, true, true, true, true, true, true, true, true, true] rfl rfl (any_of HT_.out (by kernel_rfl)) (fun _ _ _ h => h) (Or.inl ⟨by rfl, ?_⟩) ?_ ?_
                     rotate_left
                     ·
                      intro w'
                      go_simp
                      with_reducible rfl
                     rotate_left
                     ·
                      simp only [Act.put, List.setIfInBounds_toArray, List.set_cons_zero, List.set_cons_succ, i64_w, i32_w]
                      rfl
                     refine done_ (done_of HT_.out (by kernel_rfl)) ?_
                     have p125 : 0 ≤ (x68_3 : Int) := of_decide_eq_true (zqD)
                     have q125 : x68_3 < (y122.length : Int) := (by have h_ : (x68_3 : Int) < ((x9_3.length : Int) : Int) := of_decide_eq_true (zqD); first | (have e_ := (Kd.R_reads' HO_9.out).1; omega) | simpa only [Ny122.out, List.length_set] using h_)
                     have ql125 : ((x68_3 : Int) < ((x9_3.length : Int) : Int)) = True := eq_true (of_decide_eq_true (zqD))
                     obtain ⟨ad125, e125, hx125_0⟩ := Kd.at_int (Kd.R_reads' HO_9.out).2.2 x68_3 p125 q125
                     obtain rfl : (⟨go42, 0, none⟩ : Addr) = ad125 := (by injection e125)
                     (first | simp only [add_plain] at hx125_0 | simp only [add_at] at hx125_0 | simp only [Addr.add, Nat.zero_add] at hx125_0 | skip)
                     replace p125 := eq_true p125; replace q125 := eq_true q125
                     have p46 : 0 ≤ (x68_3 : Int) := of_decide_eq_true (zqD)
                     have q46 : (x68_3 : Int) < ((x9_3.length : Int) : Int) := of_decide_eq_true (zqD)
                     obtain ⟨hx46_0, hf46_0⟩ := Kd.R_celln 0 HO_9.out (x68_3 : Int) p46 q46
                     replace p46 := eq_true p46; replace q46 := eq_true q46
                     obtain ⟨hy51_, hz51_⟩ := Kd.R_celln 0 HO_9.out (x68_3 : Int) (of_decide_eq_true (zqD)) (of_decide_eq_true (zqD))
                     have HP51 := Kd.R_putg HO_9.out (x68_3 : Int) (wrap64 ((rd y122 x68_3) - (ji45)))
                     try go_wp2_with (first | ((with_reducible refine gate_store (t := 3) (p := 95) rfl ?_); refine store_event (t := 3) (p := 95) (v := ?vo_w52) (w1 := (w50.setCell ⟨go42, (x68_3 : Int).toNat, none⟩ (.int .i64 (wrap64 ((rd y122 x68_3) - (ji45)))))) ?hg ?ho ?hn ?hr ?_; (case ho => rfl); (case hg => rfl); (case hn => rfl); (case hr => first | (go_simp; done) | (go_simp; rfl)); intro w52 hw; have hg : w50.grownBy w52 (some go42) := (by rw [hw]; exact HP51.2); have hp_ : Kd.R (Kd.int .i64) 3 w52 w.heap.size (fun k_ => some k_ ≠ (u4 : Value).ownBlock ∧ some k_ ≠ (v113 : Value).ownBlock ∧ some k_ ≠ (v116 : Value).ownBlock) (.slice (some ⟨go42, 0, none⟩) x9_3.length co47) y126 := (by rw [hw, Ny126.out]; exact HP51.1); clear HP51; have n0_ := zA (Kd.R_after (v := (.slice (some ⟨go42, 0, none⟩) x9_3.length co47)) (v1 := (.slice (some ⟨go42, 0, none⟩) x9_3.length co47)) (ok := (fun k_ => some k_ ≠ (v113 : Value).ownBlock ∧ some k_ ≠ (v116 : Value).ownBlock)) (zqC HO_4.out) hg (.inl rfl)); have n1_ := zA (hp_); have n2_ := zA (Kd.R_after (v := (.slice (some ⟨go42, 0, none⟩) x9_3.length co47)) (v1 := (.slice (some ⟨go42, 0, none⟩) x9_3.length co47)) (ok := (fun k_ => some k_ ≠ (u4 : Value).ownBlock ∧ some k_ ≠ (v116 : Value).ownBlock)) (zqC HO_10.out) hg (.inl rfl)); have n3_ := zA (Kd.R_after (v := (.slice (some ⟨go42, 0, none⟩) x9_3.length co47)) (v1 := (.slice (some ⟨go42, 0, none⟩) x9_3.length co47)) (ok := (fun k_ => some k_ ≠ (u4 : Value).ownBlock ∧ some k_ ≠ (v113 : Value).ownBlock)) (zqC HO_11.out) hg (.inl rfl)); have n4_ := zA (blk_grown (g := gb104) (o := .cells #[.slice A0_0 l0_0.length c0_0, .slice A0_1 l0_1.length c0_1] 40 (0, 0)) (zqB BK104.out) hg (Kd.R_ne HO_9.out BK104.out (by decide))); have n5_ := zA (blk_grown (g := gb105) (o := .cells #[.slice A1_0 l1_0.length c1_0, .slice (some ad120) l1_1.length c1_1] 56 (0, 0)) (zqB BK105.out) hg (Kd.R_ne HO_9.out BK105.out (by decide))); have n6_ := zA ((by rw [hw]; exact below_set (HB.out) GB42.out : Below w.heap.size w w52)); clear HO_4; clear HO_9; clear HO_10; clear HO_11; clear BK104; clear BK105; clear HB; have HO_4 := n0_; have HO_9 := n1_; have HO_10 := n2_; have HO_11 := n3_; have BK104 := n4_; have BK105 := n5_; have HB := n6_; clear n0_ n1_ n2_ n3_ n4_ n5_ n6_; clear hg hw hp_))
                     go_roundg k3
                     case measure => have := HK1.out; have := HK2.out; have := HK3.out; omega
                     case rel => exact ⟨(y126), (ji45), (wrap64 (x68_3 + 1)), (by first | rfl | (simp; done) | (simp only [← hji45] <;> (first | rfl | simp)) | (simp [*]; done)), zqQ, H', ⟨by have := HK1.out; have := HK2.out; have := HK3.out; omega⟩, ⟨by (with_reducible repeat (first | apply Kd.R_alloc | apply Kd.R_drewN | apply Kd.R_drew)); exact Kd.R_mono HO_4.out (fun _ hk => ⟨hk.2, ⟨hk.1.1, hk.1.2⟩⟩)⟩, ⟨zqC HO_9.out⟩, ⟨by (with_reducible repeat (first | apply Kd.R_alloc | apply Kd.R_drewN | apply Kd.R_drew)); exact Kd.R_mono HO_10.out (fun _ hk => ⟨hk.1.1, ⟨hk.2, hk.1.2⟩⟩)⟩, ⟨by (with_reducible repeat (first | apply Kd.R_alloc | apply Kd.R_drewN | apply Kd.R_drew)); exact Kd.R_mono HO_11.out (fun _ hk => ⟨hk.1.1, ⟨hk.2, hk.1.2⟩⟩)⟩, ⟨zqB BK104.out⟩, ⟨zqB BK105.out⟩, ⟨zqH HB.out GE104.out GE105.out⟩⟩
                    ·
                     rw [if_neg c44] at H
                     exact absurd H (by simp)
                   ·
                    rw [if_neg c43] at H
                    exact absurd H (by simp)
                  ·
                   rw [if_neg c41] at H
                   exact absurd H (by simp)
                 ·
                  rw [if_neg c40] at H
                  exact absurd H (by simp)
                ·
                 rw [if_neg c39] at H
                 exact absurd H (by simp)
               ·
                rw [if_neg c38] at H
                have c38b0 : decide (x68_3 < (l1_1.length : Int)) = false := decide_eq_false c38
                clear c38
                by_cases c53 : 0 ≤ x45_1
                ·
                 rw [if_pos c53] at H
                 have c53b0 : decide (0 ≤ x45_1) = true := decide_eq_true c53
                 clear c53
                 by_cases c54 : x45_1 < (x10_1.length : Int)
                 ·
                  rw [if_pos c54] at H
                  have c54b0 : decide (x45_1 < (x10_1.length : Int)) = true := decide_eq_true c54
                  clear c54
                  obtain ⟨y127, hy127⟩ : ∃ y_ : List Int, y_ = (x10_1.set (x45_1 : Int).toNat (wrap64 (x12_1 + x15_2))) := ⟨_, rfl⟩
                  replace H : (if x45_1 < (x11_1.length : Int) then ((pump_total.f k3 x9_3).bind fun t129 => (if x4_1.length < 17592186044416 then (pump_Lacks.l0 k3 (x4_1 ++ [t129]) x9_3 y127 (x11_1.set (x45_1 : Int).toNat (wrap64 (x13_1 + x15_3))) (wrap64 (x12_1 + x15_2)) (wrap64 (x13_1 + x15_3)) t107 (wrap64 (x45_1 + 1)) l1_0 l1_1) else (none))) else (none)) = some (r1, r2, r3) := zqF hy127 H
                  have Ny127 := zA hy127
                  clear hy127
                  by_cases c56 : x45_1 < (x11_1.length : Int)
                  ·
                   rw [if_pos c56] at H
                   have c56b0 : decide (x45_1 < (x11_1.length : Int)) = true := decide_eq_true c56
                   clear c56
                   obtain ⟨y128, hy128⟩ : ∃ y_ : List Int, y_ = (x11_1.set (x45_1 : Int).toNat (wrap64 (x13_1 + x15_3))) := ⟨_, rfl⟩
                   replace H : ((pump_total.f k3 x9_3).bind fun t129 => (if x4_1.length < 17592186044416 then (pump_Lacks.l0 k3 (x4_1 ++ [t129]) x9_3 y127 y128 (wrap64 (x12_1 + x15_2)) (wrap64 (x13_1 + x15_3)) t107 (wrap64 (x45_1 + 1)) l1_0 l1_1) else (none))) = some (r1, r2, r3) := zqF hy128 H
                   have Ny128 := zA hy128
                   clear hy128
                   replace H := Option.bind_eq_some_iff.mp H
                   obtain ⟨t129, A580, H⟩ := H
                   replace H : (if x4_1.length < 17592186044416 then (pump_Lacks.l0 k3 (x4_1 ++ [t129]) x9_3 y127 y128 (wrap64 (x12_1 + x15_2)) (wrap64 (x13_1 + x15_3)) t107 (wrap64 (x45_1 + 1)) l1_0 l1_1) else (none)) = some (r1, r2, r3) := H
                   have A58 := zA A580
                   clear A580
                   by_cases c59 : x4_1.length < 17592186044416
                   ·
                    rw [if_pos c59] at H
                    have LMc59 := zA c59
                    clear c59
                    obtain ⟨y130, hy130⟩ : ∃ y_ : List Int, y_ = (x4_1 ++ [t129]) := ⟨_, rfl⟩
                    replace H : (pump_Lacks.l0 k3 y130 x9_3 y127 y128 (wrap64 (x12_1 + x15_2)) (wrap64 (x13_1 + x15_3)) t107 (wrap64 (x45_1 + 1)) l1_0 l1_1) = some (r1, r2, r3) := zqF hy130 H
                    have Ny130 := zA hy130
                    clear hy130
                    have H' := zA H
                    clear H
                    have p55 : 0 ≤ (x45_1 : Int) := of_decide_eq_true (zqD)
                    have q55 : (x45_1 : Int) < ((x10_1.length : Int) : Int) := of_decide_eq_true (zqD)
                    obtain ⟨go55, co55, eo55, gb55, gl55, cl55, HG55⟩ := Kd.R_form HO_10.out (by omega)
                    (first | cases eo55 | (injection eo55 with ea_ en_ ec_; (first | subst ea_ | (injection ea_ with ea_; subst ea_)); subst ec_; clear en_))
                    have GB55 := zA gb55
                    have GG55 := zA HG55
                    clear gb55 gl55 HG55
                    obtain ⟨hx55_0, hf55_0⟩ := Kd.R_celln 0 HO_10.out (x45_1 : Int) p55 q55
                    replace p55 := eq_true p55; replace q55 := eq_true q55
                    have HP60 := Kd.R_putg HO_10.out (x45_1 : Int) (wrap64 (x12_1 + x15_2))
                    go_wp2_with (first | ((with_reducible refine gate_store (t := 3) (p := 106) rfl ?_); refine store_event (t := 3) (p := 106) (v := ?vo_w61) (w1 := (wr.setCell ⟨go55, (x45_1 : Int).toNat, none⟩ (.int .i64 (wrap64 (x12_1 + x15_2))))) ?hg ?ho ?hn ?hr ?_; (case ho => rfl); (case hg => rfl); (case hn => rfl); (case hr => first | (go_simp; done) | (go_simp; rfl)); intro w61 hw; have hg : wr.grownBy w61 (some go55) := (by rw [hw]; exact HP60.2); have hp_ : Kd.R (Kd.int .i64) 3 w61 w.heap.size (fun k_ => some k_ ≠ (u4 : Value).ownBlock ∧ some k_ ≠ (v110 : Value).ownBlock ∧ some k_ ≠ (v116 : Value).ownBlock) (.slice (some ⟨go55, 0, none⟩) x10_1.length co55) y127 := (by rw [hw, Ny127.out]; exact HP60.1); clear HP60; have n0_ := zA (Kd.R_after (v := (.slice (some ⟨go55, 0, none⟩) x10_1.length co55)) (v1 := (.slice (some ⟨go55, 0, none⟩) x10_1.length co55)) (ok := (fun k_ => some k_ ≠ (v110 : Value).ownBlock ∧ some k_ ≠ (v116 : Value).ownBlock)) (by (with_reducible repeat (first | apply Kd.R_alloc | apply Kd.R_drewN | apply Kd.R_drew)); exact Kd.R_mono HO_4.out (fun _ hk => ⟨⟨hk.1, hk.2.2⟩, hk.2.1⟩)) hg (.inl rfl)); have n1_ := zA (Kd.R_after (v := (.slice (some ⟨go55, 0, none⟩) x10_1.length co55)) (v1 := (.slice (some ⟨go55, 0, none⟩) x10_1.length co55)) (ok := (fun k_ => some k_ ≠ (u4 : Value).ownBlock ∧ some k_ ≠ (v116 : Value).ownBlock)) (by (with_reducible repeat (first | apply Kd.R_alloc | apply Kd.R_drewN | apply Kd.R_drew)); exact Kd.R_mono HO_9.out (fun _ hk => ⟨⟨hk.1, hk.2.2⟩, hk.2.1⟩)) hg (.inl rfl)); have n2_ := zA (hp_); have n3_ := zA (Kd.R_after (v := (.slice (some ⟨go55, 0, none⟩) x10_1.length co55)) (v1 := (.slice (some ⟨go55, 0, none⟩) x10_1.length co55)) (ok := (fun k_ => some k_ ≠ (u4 : Value).ownBlock ∧ some k_ ≠ (v110 : Value).ownBlock)) (by (with_reducible repeat (first | apply Kd.R_alloc | apply Kd.R_drewN | apply Kd.R_drew)); exact Kd.R_mono HO_11.out (fun _ hk => ⟨⟨hk.1, hk.2.1⟩, hk.2.2⟩)) hg (.inl rfl)); have n4_ := zA (blk_grown (g := gb104) (o := .cells #[.slice A0_0 l0_0.length c0_0, .slice A0_1 l0_1.length c0_1] 40 (0, 0)) (zqB BK104.out) hg (Kd.R_ne HO_10.out BK104.out (by decide))); have n5_ := zA (blk_grown (g := gb105) (o := .cells #[.slice A1_0 l1_0.length c1_0, .slice A1_1 l1_1.length c1_1] 56 (0, 0)) (zqB BK105.out) hg (Kd.R_ne HO_10.out BK105.out (by decide))); have n6_ := zA ((by rw [hw]; exact below_set (HB.out) GB55.out : Below w.heap.size w w61)); clear HO_4; clear HO_9; clear HO_10; clear HO_11; clear BK104; clear BK105; clear HB; have HO_4 := n0_; have HO_9 := n1_; have HO_10 := n2_; have HO_11 := n3_; have BK104 := n4_; have BK105 := n5_; have HB := n6_; clear n0_ n1_ n2_ n3_ n4_ n5_ n6_; clear hg hw hp_; have p57 : 0 ≤ (x45_1 : Int) := of_decide_eq_true (zqD); have q57 : (x45_1 : Int) < ((x11_1.length : Int) : Int) := of_decide_eq_true (zqD); obtain ⟨go57, co57, eo57, gb57, gl57, cl57, HG57⟩ := Kd.R_form HO_11.out (by omega); (first | cases eo57 | (injection eo57 with ea_ en_ ec_; (first | subst ea_ | (injection ea_ with ea_; subst ea_)); subst ec_; clear en_)); have GB57 := zA gb57; have GG57 := zA HG57; clear gb57 gl57 HG57; obtain ⟨hx57_0, hf57_0⟩ := Kd.R_celln 0 HO_11.out (x45_1 : Int) p57 q57; replace p57 := eq_true p57; replace q57 := eq_true q57; have n_ := zA (Kd.R_mono (ok' := (fun k_ => some k_ ≠ (u4 : Value).ownBlock ∧ some k_ ≠ (v110 : Value).ownBlock ∧ some k_ ≠ (.slice (some ⟨go55, 0, none⟩) x10_1.length co55 : Value).ownBlock)) HO_11.out (fun k_ hk => ⟨hk.1.1, ⟨hk.1.2, hk.2⟩⟩)); clear HO_11; have HO_11 := n_; clear n_; obtain ⟨hy62_, hz62_⟩ := Kd.R_celln 0 HO_11.out (x45_1 : Int) (of_decide_eq_true (zqD)) (of_decide_eq_true (zqD)); have HP62 := Kd.R_putg HO_11.out (x45_1 : Int) (wrap64 (x13_1 + x15_3))) | ((with_reducible refine gate_store (t := 3) (p := 107) rfl ?_); refine store_event (t := 3) (p := 107) (v := ?vo_w63) (w1 := (w61.setCell ⟨go57, (x45_1 : Int).toNat, none⟩ (.int .i64 (wrap64 (x13_1 + x15_3))))) ?hg ?ho ?hn ?hr ?_; (case ho => rfl); (case hg => rfl); (case hn => rfl); (case hr => first | (go_simp; done) | (go_simp; rfl)); intro w63 hw; have hg : w61.grownBy w63 (some go57) := (by rw [hw]; exact HP62.2); have hp_ : Kd.R (Kd.int .i64) 3 w63 w.heap.size (fun k_ => some k_ ≠ (u4 : Value).ownBlock ∧ some k_ ≠ (v110 : Value).ownBlock ∧ some k_ ≠ (.slice (some ⟨go55, 0, none⟩) x10_1.length co55 : Value).ownBlock) (.slice (some ⟨go57, 0, none⟩) x11_1.length co57) y128 := (by rw [hw, Ny128.out]; exact HP62.1); clear HP62; have n0_ := zA (Kd.R_after (v := (.slice (some ⟨go57, 0, none⟩) x11_1.length co57)) (v1 := (.slice (some ⟨go57, 0, none⟩) x11_1.length co57)) (ok := (fun k_ => some k_ ≠ (v110 : Value).ownBlock ∧ some k_ ≠ (.slice (some ⟨go55, 0, none⟩) x10_1.length co55 : Value).ownBlock)) (by (with_reducible repeat (first | apply Kd.R_alloc | apply Kd.R_drewN | apply Kd.R_drew)); exact Kd.R_mono HO_4.out (fun _ hk => ⟨⟨hk.1.1, hk.2⟩, hk.1.2⟩)) hg (.inl rfl)); have n1_ := zA (Kd.R_after (v := (.slice (some ⟨go57, 0, none⟩) x11_1.length co57)) (v1 := (.slice (some ⟨go57, 0, none⟩) x11_1.length co57)) (ok := (fun k_ => some k_ ≠ (u4 : Value).ownBlock ∧ some k_ ≠ (.slice (some ⟨go55, 0, none⟩) x10_1.length co55 : Value).ownBlock)) (by (with_reducible repeat (first | apply Kd.R_alloc | apply Kd.R_drewN | apply Kd.R_drew)); exact Kd.R_mono HO_9.out (fun _ hk => ⟨⟨hk.1.1, hk.2⟩, hk.1.2⟩)) hg (.inl rfl)); have n2_ := zA (Kd.R_after (v := (.slice (some ⟨go57, 0, none⟩) x11_1.length co57)) (v1 := (.slice (some ⟨go57, 0, none⟩) x11_1.length co57)) (ok := (fun k_ => some k_ ≠ (u4 : Value).ownBlock ∧ some k_ ≠ (v110 : Value).ownBlock)) (by (with_reducible repeat (first | apply Kd.R_alloc | apply Kd.R_drewN | apply Kd.R_drew)); exact Kd.R_mono HO_10.out (fun _ hk => ⟨⟨hk.1, hk.2.1⟩, hk.2.2⟩)) hg (.inl rfl)); have n3_ := zA (hp_); have n4_ := zA (blk_grown (g := gb104) (o := .cells #[.slice A0_0 l0_0.length c0_0, .slice A0_1 l0_1.length c0_1] 40 (0, 0)) (zqB BK104.out) hg (Kd.R_ne HO_11.out BK104.out (by decide))); have n5_ := zA (blk_grown (g := gb105) (o := .cells #[.slice A1_0 l1_0.length c1_0, .slice A1_1 l1_1.length c1_1] 56 (0, 0)) (zqB BK105.out) hg (Kd.R_ne HO_11.out BK105.out (by decide))); have n6_ := zA ((by rw [hw]; exact below_set (HB.out) GB57.out : Below w.heap.size w w63)); clear HO_4; clear HO_9; clear HO_10; clear HO_11; clear BK104; clear BK105; clear HB; have HO_4 := n0_; have HO_9 := n1_; have HO_10 := n2_; have HO_11 := n3_; have BK104 := n4_; have BK105 := n5_; have HB := n6_; clear n0_ n1_ n2_ n3_ n4_ n5_ n6_; clear hg hw hp_; obtain ⟨Ao64, co64, eo64⟩ := Kd.R_slice HO_9.out; subst eo64) | ((with_reducible refine gate_callee (f := 79) rfl ?_); refine goesL_ (some 110) rfl rfl Try.func79 (by kernel_rfl) rfl #[.slice Ao64 x9_3.length co64] rfl zqE ?_; (with_reducible refine (pump_total.calls k3 _ _ x9_3 t129 _ ?side1 ?side2 A58.out).mono ?_); (case side1 => exact zqK (Kd.R_reads' HO_9.out).2.2); (case side2 => exact (Kd.R_reads' HO_9.out).2.1); rintro e w' ⟨rfl, ⟨nd, rfl⟩⟩; refine ⟨_, rfl, ?_⟩) | ((with_reducible refine gate_builtin (b := .append) (xs := #[.tmp 108, .tmp 111]) rfl ?_); at_builtin; refine Kd.R_append (Kd.int .i64) (w0 := w) w.heap.size rfl (.tmp 108) (.tmp 111) 30 3 (.int .i64 0) 8 rfl Try.underlying30 info3 rfl (by decide) (by omega) u4 x4_1 t129 [.int .i64 t129] (fun k_ => some k_ ≠ (.slice Ao64 x9_3.length co64 : Value).ownBlock ∧ some k_ ≠ (.slice (some ⟨go55, 0, none⟩) x10_1.length co55 : Value).ownBlock ∧ some k_ ≠ (.slice (some ⟨go57, 0, none⟩) x11_1.length co57 : Value).ownBlock) (fun _ => False) rfl rfl ?aP (fun _ hk => hk.elim) ?aF ?aO ?aB ?aS ?aL ?_; (case aP => exact rfl); (case aB => exact (zqH HB.out GE104.out GE105.out)); (case aF => exact (fun k_ hk => ⟨Kd.fresh' (Kd.R_lt (zqC HO_9.out)) k_ hk, Kd.fresh' (Kd.R_lt (zqC HO_10.out)) k_ hk, Kd.fresh' (Kd.R_lt (zqC HO_11.out)) k_ hk⟩)); (case aO => exact (by (with_reducible repeat (first | apply Kd.R_alloc | apply Kd.R_drewN | apply Kd.R_drew)); exact Kd.R_mono HO_4.out (fun _ hk => ⟨hk.1.1, ⟨hk.1.2, hk.2⟩⟩))); (case aS => exact (below_size (zqH HB.out GE104.out GE105.out))); (case aL => have := LMc59.out; omega); intro v131 w65 ho hb hg hat; rw [← Ny130.out] at ho; have n0_ := zA (Kd.R_after (ok := (fun k_ => some k_ ≠ (.slice (some ⟨go55, 0, none⟩) x10_1.length co55 : Value).ownBlock ∧ some k_ ≠ (.slice (some ⟨go57, 0, none⟩) x11_1.length co57 : Value).ownBlock)) (by (with_reducible repeat (first | apply Kd.R_alloc | apply Kd.R_drewN | apply Kd.R_drew)); exact Kd.R_mono HO_9.out (fun _ hk => ⟨⟨hk.1.2, hk.2⟩, hk.1.1⟩)) hg hat); have n1_ := zA (Kd.R_after (ok := (fun k_ => some k_ ≠ (.slice Ao64 x9_3.length co64 : Value).ownBlock ∧ some k_ ≠ (.slice (some ⟨go57, 0, none⟩) x11_1.length co57 : Value).ownBlock)) (by (with_reducible repeat (first | apply Kd.R_alloc | apply Kd.R_drewN | apply Kd.R_drew)); exact Kd.R_mono HO_10.out (fun _ hk => ⟨⟨hk.1.2, hk.2⟩, hk.1.1⟩)) hg hat); have n2_ := zA (Kd.R_after (ok := (fun k_ => some k_ ≠ (.slice Ao64 x9_3.length co64 : Value).ownBlock ∧ some k_ ≠ (.slice (some ⟨go55, 0, none⟩) x10_1.length co55 : Value).ownBlock)) (by (with_reducible repeat (first | apply Kd.R_alloc | apply Kd.R_drewN | apply Kd.R_drew)); exact Kd.R_mono HO_11.out (fun _ hk => ⟨⟨hk.2.1, hk.2.2⟩, hk.1⟩)) hg hat); have n3_ := zA (blk_grown (g := gb104) (o := .cells #[.slice A0_0 l0_0.length c0_0, .slice A0_1 l0_1.length c0_1] 40 (0, 0)) (zqB BK104.out) hg (Kd.R_ne HO_4.out BK104.out (by decide))); have n4_ := zA (blk_grown (g := gb105) (o := .cells #[.slice A1_0 l1_0.length c1_0, .slice A1_1 l1_1.length c1_1] 56 (0, 0)) (zqB BK105.out) hg (Kd.R_ne HO_4.out BK105.out (by decide))); have n5_ := zA (hb); have n6_ := zA (ho); clear HO_9; clear HO_10; clear HO_11; clear BK104; clear BK105; clear HB; clear HO_4; have HO_9 := n0_; have HO_10 := n1_; have HO_11 := n2_; have BK104 := n3_; have BK105 := n4_; have HB := n5_; have HO132 := n6_; clear n0_ n1_ n2_ n3_ n4_ n5_ n6_; clear ho hb hg hat))
                    go_roundg k3
                    case measure => have := HK1.out; have := HK2.out; have := HK3.out; omega
                    case rel => exact ⟨(y130), (x9_3), (y127), (y128), ((wrap64 (x12_1 + x15_2))), (wrap64 (x13_1 + x15_3)), (wrap64 (x45_1 + 1)), zqQ, zqQ, zqQ, H', ⟨by have := HK1.out; have := HK2.out; have := HK3.out; omega⟩, ⟨zqC HO132.out⟩, ⟨by (with_reducible repeat (first | apply Kd.R_alloc | apply Kd.R_drewN | apply Kd.R_drew)); exact Kd.R_mono HO_9.out (fun _ hk => ⟨hk.2, ⟨hk.1.1, hk.1.2⟩⟩)⟩, ⟨by (with_reducible repeat (first | apply Kd.R_alloc | apply Kd.R_drewN | apply Kd.R_drew)); exact Kd.R_mono HO_10.out (fun _ hk => ⟨hk.2, ⟨hk.1.1, hk.1.2⟩⟩)⟩, ⟨by (with_reducible repeat (first | apply Kd.R_alloc | apply Kd.R_drewN | apply Kd.R_drew)); exact Kd.R_mono HO_11.out (fun _ hk => ⟨hk.2, ⟨hk.1.1, hk.1.2⟩⟩)⟩, ⟨zqB BK104.out⟩, ⟨zqB BK105.out⟩, ⟨zqH HB.out GE104.out GE105.out⟩⟩
                   ·
                    rw [if_neg c59] at H
                    exact absurd H (by simp)
                  ·
                   rw [if_neg c56] at H
                   exact absurd H (by simp)
                 ·
                  rw [if_neg c54] at H
                  exact absurd H (by simp)
                ·
                 rw [if_neg c53] at H
                 exact absurd H (by simp)
         ·
          rw [if_neg c28] at H
          have c28b0 : decide (x45_1 < t107) = false := decide_eq_false c28
          clear c28
          have H' := zA H
          clear H
          obtain ⟨Ao66, co66, eo66⟩ := Kd.R_slice HO_10.out
          subst eo66
          go_wp2
          go_loopg [5, 116] k1 (fun kq v5 vL116 w' => ∃ (x5_2 : List Int) (x116_2 : Int), vL116 = .int .i64 x116_2 ∧ Aside0 (pump_Lacks.l3 kq x4_1 x5_2 x11_1 x10_1 (x10_1.length : Int) x116_2 = some (r1, r2, r3)) ∧ Aside0 (kq ≤ k1) ∧ Aside0 (Kd.R (Kd.int .i64) 3 w' w.heap.size (fun k_ => some k_ ≠ (v5 : Value).ownBlock ∧ some k_ ≠ (v116 : Value).ownBlock ∧ some k_ ≠ ((.slice Ao66 x10_1.length co66) : Value).ownBlock) u4 x4_1) ∧ Aside0 (Kd.R (Kd.int .i64) 3 w' w.heap.size (fun k_ => some k_ ≠ (u4 : Value).ownBlock ∧ some k_ ≠ (v116 : Value).ownBlock ∧ some k_ ≠ ((.slice Ao66 x10_1.length co66) : Value).ownBlock) v5 x5_2) ∧ Aside0 (Kd.R (Kd.int .i64) 3 w' w.heap.size (fun k_ => some k_ ≠ (u4 : Value).ownBlock ∧ some k_ ≠ (v5 : Value).ownBlock ∧ some k_ ≠ ((.slice Ao66 x10_1.length co66) : Value).ownBlock) v116 x11_1) ∧ Aside0 (Kd.R (Kd.int .i64) 3 w' w.heap.size (fun k_ => some k_ ≠ (u4 : Value).ownBlock ∧ some k_ ≠ (v5 : Value).ownBlock ∧ some k_ ≠ (v116 : Value).ownBlock) (.slice Ao66 x10_1.length co66) x10_1) ∧ Aside0 (w'.heap[gb104]? = some (.cells #[(.slice A0_0 l0_0.length c0_0), (.slice A0_1 l0_1.length c0_1)] 40 (0, 0))) ∧ Aside0 (w'.heap[gb105]? = some (.cells #[(.slice A1_0 l1_0.length c1_0), (.slice A1_1 l1_1.length c1_1)] 56 (0, 0))) ∧ Aside0 (Below w.heap.size w w'))
          case atStart => exact ⟨(([] : List Int)), (0), zqQ, H', ⟨Nat.le_refl _⟩, ⟨by (with_reducible repeat (first | apply Kd.R_alloc | apply Kd.R_drewN | apply Kd.R_drew)); exact Kd.R_mono HO_4.out (fun _ hk => ⟨(by simp [Value.ownBlock]), ⟨hk.2.2, hk.2.1⟩⟩)⟩, ⟨by first | exact Kd.R_nil _ _ _ _ _ | exact Kd.N_nil _ _ _ _ _ | exact Kd.V_nil _ _ _ _ _ | exact Kd.Q_nil _ _ _ _ _ | exact Kd.S_nil _ _ _ _ _⟩, ⟨by (with_reducible repeat (first | apply Kd.R_alloc | apply Kd.R_drewN | apply Kd.R_drew)); exact Kd.R_mono HO_11.out (fun _ hk => ⟨hk.1, ⟨(by simp [Value.ownBlock]), hk.2.2⟩⟩)⟩, ⟨by (with_reducible repeat (first | apply Kd.R_alloc | apply Kd.R_drewN | apply Kd.R_drew)); exact Kd.R_mono HO_10.out (fun _ hk => ⟨hk.1, ⟨(by simp [Value.ownBlock]), hk.2.2⟩⟩)⟩, ⟨zqB BK104.out⟩, ⟨zqB BK105.out⟩, ⟨zqH HB.out GE104.out GE105.out⟩⟩
          case round =>
           clear H'
           try clear c1
           try clear p1
           try clear q1
           try clear hx1
           try clear c2
           try clear p2
           try clear c3
           try clear c4
           try clear c4b0
           try clear c4b1
           try clear p4
           try clear q4
           try clear hx4
           try clear hf4
           try clear c5
           try clear p5
           try clear q5
           try clear hx5
           try clear hf5
           try clear c6
           try clear c6b0
           try clear c6b1
           try clear p6
           try clear c7
           try clear c7b0
           try clear c7b1
           try clear c8
           try clear c8b0
           try clear c8b1
           try clear c9
           try clear c9b0
           try clear c9b1
           try clear c10
           try clear c10b0
           try clear c10b1
           try clear c11
           try clear p11
           try clear q11
           try clear hx11
           try clear c12
           try clear p12
           try clear q12
           try clear hx12
           try clear c13
           try clear c28
           try clear c28b0
           try clear c29
           try clear c31
           try clear c31b0
           try clear c32
           try clear c32b0
           try clear c33
           try clear c33b0
           try clear c34
           try clear c34b0
           try clear c35
           try clear c35b0
           try clear c36
           try clear c38
           try clear c38b0
           try clear c39
           try clear c39b0
           try clear c40
           try clear c40b0
           try clear c41
           try clear c41b0
           try clear p42
           try clear q42
           try clear hx42
           try clear hf42
           try clear c43
           try clear c43b0
           try clear c44
           try clear c44b0
           try clear p46
           try clear q46
           try clear hx46
           try clear hf46
           try clear c53
           try clear c53b0
           try clear c54
           try clear c54b0
           try clear p55
           try clear q55
           try clear hx55
           try clear hf55
           try clear c56
           try clear c56b0
           try clear p57
           try clear q57
           try clear hx57
           try clear hf57
           try clear c59
           try clear p64
           try clear hcz14_0
           try clear hcz14_1
           try clear hcz16_0
           try clear hcz16_1
           try clear hcz17_0
           try clear hcz17_1
           try clear hcz19_0
           try clear hcz19_1
           try clear hcz30_0
           try clear hcz30_1
           try clear hcz37_0
           try clear hcz37_1
           try clear hfz14_0
           try clear hfz14_1
           try clear hfz16_0
           try clear hfz16_1
           try clear hfz17_0
           try clear hfz17_1
           try clear hfz19_0
           try clear hfz19_1
           try clear hfz30_0
           try clear hfz30_1
           try clear hfz37_0
           try clear hfz37_1
           try clear hx118_0
           try clear hx119_0
           try clear hx120_0
           try clear hx121_0
           try clear hx123_0
           try clear hx124_0
           try clear hx125_0
           try clear hx42_0
           try clear hx46_0
           try clear hx55_0
           try clear hx57_0
           try clear p1
           try clear p11
           try clear p118
           try clear p119
           try clear p120
           try clear p121
           try clear p123
           try clear p124
           try clear p125
           try clear p2
           try clear p42
           try clear p46
           try clear p55
           try clear p57
           try clear p6
           try clear q1
           try clear q11
           try clear q118
           try clear q119
           try clear q120
           try clear q121
           try clear q123
           try clear q124
           try clear q125
           try clear q42
           try clear q46
           try clear q55
           try clear q57
           obtain ⟨x5_2, x116_2, rfl, HA, HK2, HO_4, HO_5, HO_11, HO_114, BK104, BK105, HB⟩ := hrel
           cases gk with
           | zero => exact absurd HA.out (by simp [pump_Lacks.l3])
           | succ k2 =>
            have H := HA.out
            clear HA
            simp only [pump_Lacks.l3] at H
            by_cases c67 : x116_2 < (x10_1.length : Int)
            ·
             rw [if_pos c67] at H
             have c67b0 : decide (x116_2 < (x10_1.length : Int)) = true := decide_eq_true c67
             clear c67
             by_cases c68 : 0 ≤ x116_2
             ·
              rw [if_pos c68] at H
              have c68b0 : decide (0 ≤ x116_2) = true := decide_eq_true c68
              clear c68
              by_cases c69 : x116_2 < (x10_1.length : Int)
              ·
               rw [if_pos c69] at H
               have c69b0 : decide (x116_2 < (x10_1.length : Int)) = true := decide_eq_true c69
               clear c69
               have c70b0 := eq_true (of_decide_eq_true (zqD) : 0 ≤ x116_2)
               by_cases c71 : x116_2 ≤ (x11_1.length : Int)
               ·
                rw [if_pos c71] at H
                have c71b0 := eq_true c71
                have c71b1 : decide (x116_2 ≤ (x11_1.length : Int)) = true := decide_eq_true c71
                clear c71
                obtain ⟨y134, hy134⟩ : ∃ y_ : List Int, y_ = (x11_1.drop (x116_2 : Int).toNat) := ⟨_, rfl⟩
                replace H : ((index_from.f y134 (rd x10_1 x116_2)).bind fun t138 => (if x5_2.length < 17592186044416 then (pump_Lacks.l3 k2 x4_1 (x5_2 ++ [t138]) x11_1 x10_1 (x10_1.length : Int) (wrap64 (x116_2 + 1))) else (none))) = some (r1, r2, r3) := zqF hy134 H
                have Ny134 := zA hy134
                clear hy134
                replace H := Option.bind_eq_some_iff.mp H
                obtain ⟨t138, A720, H⟩ := H
                replace H : (if x5_2.length < 17592186044416 then (pump_Lacks.l3 k2 x4_1 (x5_2 ++ [t138]) x11_1 x10_1 (x10_1.length : Int) (wrap64 (x116_2 + 1))) else (none)) = some (r1, r2, r3) := H
                have A72 := zA A720
                clear A720
                by_cases c73 : x5_2.length < 17592186044416
                ·
                 rw [if_pos c73] at H
                 have LMc73 := zA c73
                 clear c73
                 obtain ⟨y139, hy139⟩ : ∃ y_ : List Int, y_ = (x5_2 ++ [t138]) := ⟨_, rfl⟩
                 replace H : (pump_Lacks.l3 k2 x4_1 y139 x11_1 x10_1 (x10_1.length : Int) (wrap64 (x116_2 + 1))) = some (r1, r2, r3) := zqF hy139 H
                 have Ny139 := zA hy139
                 clear hy139
                 have H' := zA H
                 clear H
                 have p133 : 0 ≤ (x116_2 : Int) := of_decide_eq_true (zqD)
                 have q133 : x116_2 < (x10_1.length : Int) := of_decide_eq_true (zqD)
                 obtain ⟨ad133, e133, hx133_0⟩ := Kd.at_int (Kd.R_reads' HO_114.out).2.2 x116_2 p133 q133
                 cases e133; replace p133 := eq_true p133; replace q133 := eq_true q133
                 obtain ⟨Ao75, co75, eo75⟩ := Kd.R_slice HO_11.out
                 subst eo75
                 have q74 : (x116_2 : Int) ≤ ((x11_1.length : Int) : Int) := of_decide_eq_true (zqD)
                 obtain ⟨i074, hi074, _, hsz74, _⟩ := info_parts info3
                 have hroom74 : x11_1.length ≤ co75 := (Kd.R_reads' HO_11.out).2.1
                 have hC74 : Kd.C (Kd.int .i64) _ Ao75 x11_1.length x11_1 := (Kd.R_reads' HO_11.out).2.2
                 have q074 : (0 : Int) ≤ (x116_2 : Int) := of_decide_eq_true (zqD)
                 have hcut74 := cut_from (P := Try.prog) 30 3 .i64 Try.underlying30 hi074 1 hsz74 Ao75 x11_1.length co75 x116_2 q074 q74
                 have hr74 := Kd.C_drop (m := (x116_2 : Int).toNat) (c := co75) hC74 (by omega) hroom74
                 obtain ⟨A74, hA74⟩ : ∃ A1, A1 = (if co75 = (x116_2 : Int).toNat then Ao75 else (Ao75 : Option Addr).map (·.add ((x116_2 : Int).toNat * 1))) := ⟨_, rfl⟩
                 obtain ⟨c74, hc74⟩ : ∃ c1, c1 = co75 - (x116_2 : Int).toNat := ⟨_, rfl⟩
                 have hy74 : y134.length = x11_1.length - (x116_2 : Int).toNat := (by rw [Ny134.out, List.length_drop] <;> omega)
                 rw [show (x11_1).drop (x116_2 : Int).toNat = y134 from Ny134.out.symm] at hr74
                 replace hr74 : Kd.C (Kd.int .i64) _ A74 y134.length y134 := (by rw [hA74]; exact hr74)
                 rw [← hy74, ← hA74, ← hc74] at hcut74
                 have HR137 := zA hr74
                 have HC137 := zA (show y134.length ≤ c74 from by rw [hy74, hc74]; exact Nat.sub_le_sub_right hroom74 _)
                 clear hr74 hC74 hroom74 hi074 hsz74 hc74
                 have KY74 := zA hy74
                 have KA74 := zA hA74
                 clear hy74 hA74
                 have KL74 := zA (show (x116_2 : Int).toNat ≤ x11_1.length from by omega)
                 replace q74 := eq_true q74
                 go_wp2_with (first | (go_at_call 80; (with_reducible refine (index_from.calls A74 _ y134 (rd x10_1 x116_2) _ t138 _ ?side1 ?side2 (cell_new_at _ _ _ _ rfl) A72.out).mono ?_); (case side1 => repeat (first | exact (by repeat (first | (with_reducible exact HR137.out) | (with_reducible refine Kd.C_alloc ?_ _) | (with_reducible refine Kd.C_drewN ?_ _) | (with_reducible refine Kd.C_drew ?_) | exact HR137.out)) | (with_reducible refine Kd.C_alloc ?_ _) | (with_reducible refine Kd.C_drewN ?_ _) | (with_reducible refine Kd.C_drew ?_))); (case side2 => exact HC137.out); rintro e w76 ⟨rfl, hb⟩; have n0_ := zA (Kd.R_below (zqC HO_4.out) hb); have n1_ := zA (Kd.R_below (zqC HO_5.out) hb); have n2_ := zA (Kd.R_below (zqC HO_11.out) hb); have n3_ := zA (Kd.R_below (zqC HO_114.out) hb); have n4_ := zA (blk_below (g := gb104) (o := .cells #[.slice A0_0 l0_0.length c0_0, .slice A0_1 l0_1.length c0_1] 40 (0, 0)) (zqB BK104.out) hb); have n5_ := zA (blk_below (g := gb105) (o := .cells #[.slice A1_0 l1_0.length c1_0, .slice A1_1 l1_1.length c1_1] 56 (0, 0)) (zqB BK105.out) hb); have n6_ := zA (Kd.C_below (Kd.C_alloc HR137.out _) hb); have n7_ := zA (below_step (zqH HB.out GE104.out GE105.out) hb); clear HO_4; clear HO_5; clear HO_11; clear HO_114; clear BK104; clear BK105; clear HR137; clear HB; have HO_4 := n0_; have HO_5 := n1_; have HO_11 := n2_; have HO_114 := n3_; have BK104 := n4_; have BK105 := n5_; have HR137 := n6_; have HB := n7_; clear n0_ n1_ n2_ n3_ n4_ n5_ n6_ n7_; (try clear hb); (try clear hb2); (try clear hk); (try clear hi)) | ((with_reducible refine gate_builtin (b := .append) (xs := #[.tmp 121, .tmp 127]) rfl ?_); at_builtin; refine Kd.R_append (Kd.int .i64) (w0 := w) w.heap.size rfl (.tmp 121) (.tmp 127) 30 3 (.int .i64 0) 8 rfl Try.underlying30 info3 rfl (by decide) (by omega) u5 x5_2 t138 [.int .i64 t138] (fun k_ => some k_ ≠ (u4 : Value).ownBlock ∧ some k_ ≠ (.slice Ao75 x11_1.length co75 : Value).ownBlock ∧ some k_ ≠ (.slice (some ad133) x10_1.length co66 : Value).ownBlock) (fun _ => False) rfl rfl ?aP (fun _ hk => hk.elim) ?aF ?aO ?aB ?aS ?aL ?_; (case aP => exact rfl); (case aB => exact (zqH HB.out GE104.out GE105.out)); (case aF => exact (fun k_ hk => ⟨Kd.fresh' (Kd.R_lt (zqC HO_4.out)) k_ hk, Kd.fresh' (Kd.R_lt (zqC HO_11.out)) k_ hk, Kd.fresh' (Kd.R_lt (zqC HO_114.out)) k_ hk⟩)); (case aO => exact (zqC HO_5.out)); (case aS => exact (below_size (zqH HB.out GE104.out GE105.out))); (case aL => have := LMc73.out; omega); intro v140 w77 ho hb hg hat; rw [← Ny139.out] at ho; have n0_ := zA (Kd.R_after (ok := (fun k_ => some k_ ≠ (.slice Ao75 x11_1.length co75 : Value).ownBlock ∧ some k_ ≠ (.slice (some ad133) x10_1.length co66 : Value).ownBlock)) (by (with_reducible repeat (first | apply Kd.R_alloc | apply Kd.R_drewN | apply Kd.R_drew)); exact Kd.R_mono HO_4.out (fun _ hk => ⟨⟨hk.2.1, hk.2.2⟩, hk.1⟩)) hg hat); have n1_ := zA (Kd.R_after (ok := (fun k_ => some k_ ≠ (u4 : Value).ownBlock ∧ some k_ ≠ (.slice (some ad133) x10_1.length co66 : Value).ownBlock)) (by (with_reducible repeat (first | apply Kd.R_alloc | apply Kd.R_drewN | apply Kd.R_drew)); exact Kd.R_mono HO_11.out (fun _ hk => ⟨⟨hk.1, hk.2.2⟩, hk.2.1⟩)) hg hat); have n2_ := zA (Kd.R_after (ok := (fun k_ => some k_ ≠ (u4 : Value).ownBlock ∧ some k_ ≠ (.slice Ao75 x11_1.length co75 : Value).ownBlock)) (by (with_reducible repeat (first | apply Kd.R_alloc | apply Kd.R_drewN | apply Kd.R_drew)); exact Kd.R_mono HO_114.out (fun _ hk => ⟨⟨hk.1, hk.2.2⟩, hk.2.1⟩)) hg hat); have n3_ := zA (blk_grown (g := gb104) (o := .cells #[.slice A0_0 l0_0.length c0_0, .slice A0_1 l0_1.length c0_1] 40 (0, 0)) (zqB BK104.out) hg (Kd.R_ne HO_5.out BK104.out (by decide))); have n4_ := zA (blk_grown (g := gb105) (o := .cells #[.slice A1_0 l1_0.length c1_0, .slice A1_1 l1_1.length c1_1] 56 (0, 0)) (zqB BK105.out) hg (Kd.R_ne HO_5.out BK105.out (by decide))); have n5_ := zA (hb); have n6_ := zA ((show Kd.C (Kd.int .i64) w77 A74 y134.length y134 from by rw [Ny134.out, KA74.out]; exact Kd.C_drop (m := (x116_2 : Int).toNat) (c := co75) ((Kd.R_reads' (Kd.R_after (ok := (fun k_ => some k_ ≠ (u4 : Value).ownBlock ∧ some k_ ≠ (.slice (some ad133) x10_1.length co66 : Value).ownBlock)) (by (with_reducible repeat (first | apply Kd.R_alloc | apply Kd.R_drewN | apply Kd.R_drew)); exact Kd.R_mono HO_11.out (fun _ hk => ⟨⟨hk.1, hk.2.2⟩, hk.2.1⟩)) hg hat)).2.2) KL74.out ((Kd.R_reads' (Kd.R_after (ok := (fun k_ => some k_ ≠ (u4 : Value).ownBlock ∧ some k_ ≠ (.slice (some ad133) x10_1.length co66 : Value).ownBlock)) (by (with_reducible repeat (first | apply Kd.R_alloc | apply Kd.R_drewN | apply Kd.R_drew)); exact Kd.R_mono HO_11.out (fun _ hk => ⟨⟨hk.1, hk.2.2⟩, hk.2.1⟩)) hg hat)).2.1))); have n7_ := zA (ho); clear HO_4; clear HO_11; clear HO_114; clear BK104; clear BK105; clear HB; clear HR137; clear HO_5; have HO_4 := n0_; have HO_11 := n1_; have HO_114 := n2_; have BK104 := n3_; have BK105 := n4_; have HB := n5_; have HR137 := n6_; have HO141 := n7_; clear n0_ n1_ n2_ n3_ n4_ n5_ n6_ n7_; clear ho hb hg hat))
                 go_roundg k2
                 case measure => have := HK1.out; have := HK2.out; omega
                 case rel => exact ⟨(y139), (wrap64 (x116_2 + 1)), zqQ, H', ⟨by have := HK1.out; have := HK2.out; omega⟩, ⟨by (with_reducible repeat (first | apply Kd.R_alloc | apply Kd.R_drewN | apply Kd.R_drew)); exact Kd.R_mono HO_4.out (fun _ hk => ⟨hk.2, ⟨hk.1.1, hk.1.2⟩⟩)⟩, ⟨zqC HO141.out⟩, ⟨by (with_reducible repeat (first | apply Kd.R_alloc | apply Kd.R_drewN | apply Kd.R_drew)); exact Kd.R_mono HO_11.out (fun _ hk => ⟨hk.1.1, ⟨hk.2, hk.1.2⟩⟩)⟩, ⟨by (with_reducible repeat (first | apply Kd.R_alloc | apply Kd.R_drewN | apply Kd.R_drew)); exact Kd.R_mono HO_114.out (fun _ hk => ⟨hk.1.1, ⟨hk.2, hk.1.2⟩⟩)⟩, ⟨zqB BK104.out⟩, ⟨zqB BK105.out⟩, ⟨zqH HB.out GE104.out GE105.out⟩⟩
                ·
                 rw [if_neg c73] at H
                 exact absurd H (by simp)
               ·
                rw [if_neg c71] at H
                exact absurd H (by simp)
              ·
               rw [if_neg c69] at H
               exact absurd H (by simp)
             ·
              rw [if_neg c68] at H
              exact absurd H (by simp)
            ·
             rw [if_neg c67] at H
             have c67b0 : decide (x116_2 < (x10_1.length : Int)) = false := decide_eq_false c67
             clear c67
             simp only [Option.some.injEq, Prod.mk.injEq] at H
             obtain ⟨rfl, rfl, rfl⟩ := H
             go_wp2
             go_ret3
             exact ⟨_, _, zqR, by (with_reducible repeat (first | apply Kd.R_alloc | apply Kd.R_drewN | apply Kd.R_drew)); exact Kd.R_mono HO_4.out (fun _ hk => hk.1), by (with_reducible repeat (first | apply Kd.R_alloc | apply Kd.R_drewN | apply Kd.R_drew)); exact Kd.R_mono HO_5.out (fun _ hk => hk.1), zqH HB.out GE104.out GE105.out⟩
      ·
       rw [if_neg c10] at H
       exact absurd H (by simp)
     ·
      rw [if_neg c9] at H
      exact absurd H (by simp)
    ·
     rw [if_neg c8] at H
     exact absurd H (by simp)
   ·
    rw [if_neg c7] at H
    exact absurd H (by simp)
  ·
   rw [if_neg c6] at H
   have c6b0 : (t108 == 0) = false := beq_eq_false_iff_ne.mpr c6
   have c6b1 : (t108 != 0) = true := bne_iff_ne.mpr c6
   simp only [Option.some.injEq, Prod.mk.injEq] at H
   obtain ⟨rfl, rfl, rfl⟩ := H
   go_enter Try.func38, Try.ntmps38
   go_wp2_with (first | ((with_reducible refine gate_dst (N := 2) rfl ?_); refine box_event ?hg (N := 2) ?hd (cs := #[.slice A0_0 l0_0.length c0_0, .slice A0_1 l0_1.length c0_1]) (t := 40) ?hr ?_; (case hd => rfl); (case hg => rfl); (case hr => first | (go_simp; done) | (go_simp; rfl)); intro gb104 hg w78 hbox hb; have n0_ := zA (below_step (zqA HB.out) hb); have n1_ := zA (hbox); have n2_ := zA ((by rw [hg]; exact (below_size (zqA HB.out)) : w.heap.size ≤ gb104)); have n3_ := zA ((by rw [hg]; exact (below_size (zqA HB.out)) : w.heap.size ≤ gb104)); clear HB; have HB := n0_; have BK104 := n1_; have GW104 := n2_; have GE104 := n3_; clear n0_ n1_ n2_ n3_; clear hb hbox hg) | ((with_reducible refine gate_dst (N := 3) rfl ?_); refine box_event ?hg (N := 3) ?hd (cs := #[.slice A1_0 l1_0.length c1_0, .slice A1_1 l1_1.length c1_1]) (t := 56) ?hr ?_; (case hd => rfl); (case hg => rfl); (case hr => first | (go_simp; done) | (go_simp; rfl)); intro gb105 hg w79 hbox hb; have n0_ := zA (blk_below (g := gb104) (o := .cells #[.slice A0_0 l0_0.length c0_0, .slice A0_1 l0_1.length c0_1] 40 (0, 0)) (zqB BK104.out) hb); have n1_ := zA (below_step (zqG HB.out GE104.out) hb); have n2_ := zA (hbox); have n3_ := zA ((by rw [hg]; exact (below_size (zqG HB.out GE104.out)) : w.heap.size ≤ gb105)); have n4_ := zA ((by rw [hg]; exact (below_size (zqG HB.out GE104.out)) : w.heap.size ≤ gb105)); have n5_ := zA ((by rw [hg]; exact Nat.ne_of_lt (blk_lt (g := gb104) (o := .cells #[.slice A0_0 l0_0.length c0_0, .slice A0_1 l0_1.length c0_1] 40 (0, 0)) (zqB BK104.out)) : gb104 ≠ gb105)); have n6_ := zA ((by rw [hg]; exact Nat.ne_of_gt (blk_lt (g := gb104) (o := .cells #[.slice A0_0 l0_0.length c0_0, .slice A0_1 l0_1.length c0_1] 40 (0, 0)) (zqB BK104.out)) : gb105 ≠ gb104)); clear BK104; clear HB; have BK104 := n0_; have HB := n1_; have BK105 := n2_; have GW105 := n3_; have GE105 := n4_; have NB104_105 := n5_; have NB105_104 := n6_; clear n0_ n1_ n2_ n3_ n4_ n5_ n6_; clear hb hbox hg; have hnb80 := NB104_105.out; have hnc80 := NB105_104.out; have hcz81_0 : w79.cell? ⟨gb104, 0, none⟩ = some (.slice A0_0 l0_0.length c0_0) := (blk_cell BK104.out 0).trans rfl; have hcz81_1 : w79.cell? ⟨gb104, 1, none⟩ = some (.slice A0_1 l0_1.length c0_1) := (blk_cell BK104.out 1).trans rfl; have hfz81_0 := blk_frozen BK104.out 0; have hfz81_1 := blk_frozen BK104.out 1) | ((with_reducible refine gate_callee (f := 34) rfl ?_); refine goesL_ (some 23) rfl rfl Try.func34 (by kernel_rfl) rfl #[.agg #[.slice A0_0 l0_0.length c0_0, .slice A0_1 l0_1.length c0_1]] rfl zqE ?_; (with_reducible refine (pump_Check.calls _ _ l0_0 _ _ l0_1 t106 _ ?side1 ?side2 ?side3 ?side4 A3.out).mono ?_); (case side1 => exact zqK (Kd.C_below HR0_0.out HB.out)); (case side2 => exact HC0_0.out); (case side3 => exact zqK (Kd.C_below HR0_1.out HB.out)); (case side4 => exact HC0_1.out); rintro e w82 ⟨rfl, hb⟩; refine ⟨_, rfl, ?_⟩; have n0_ := zA (blk_below (g := gb104) (o := .cells #[.slice A0_0 l0_0.length c0_0, .slice A0_1 l0_1.length c0_1] 40 (0, 0)) (zqB BK104.out) hb); have n1_ := zA (blk_below (g := gb105) (o := .cells #[.slice A1_0 l1_0.length c1_0, .slice A1_1 l1_1.length c1_1] 56 (0, 0)) (zqB BK105.out) hb); have n2_ := zA (below_step (zqH HB.out GE104.out GE105.out) hb); clear BK104; clear BK105; clear HB; have BK104 := n0_; have BK105 := n1_; have HB := n2_; clear n0_ n1_ n2_; (try clear hb); (try clear hb2); (try clear hk); (try clear hi); have hcz83_0 : w82.cell? ⟨gb105, 0, none⟩ = some (.slice A1_0 l1_0.length c1_0) := (blk_cell BK105.out 0).trans rfl; have hcz83_1 : w82.cell? ⟨gb105, 1, none⟩ = some (.slice A1_1 l1_1.length c1_1) := (blk_cell BK105.out 1).trans rfl; have hfz83_0 := blk_frozen BK105.out 0; have hfz83_1 := blk_frozen BK105.out 1; have hcz84_0 : w82.cell? ⟨gb104, 0, none⟩ = some (.slice A0_0 l0_0.length c0_0) := (blk_cell BK104.out 0).trans rfl; have hcz84_1 : w82.cell? ⟨gb104, 1, none⟩ = some (.slice A0_1 l0_1.length c0_1) := (blk_cell BK104.out 1).trans rfl; have hfz84_0 := blk_frozen BK104.out 0; have hfz84_1 := blk_frozen BK104.out 1) | ((with_reducible refine gate_callee (f := 78) rfl ?_); refine goesL_ (some 30) rfl rfl Try.func78 (by kernel_rfl) rfl #[.agg #[.slice A1_0 l1_0.length c1_0, .slice A1_1 l1_1.length c1_1], .agg #[.slice A0_0 l0_0.length c0_0, .slice A0_1 l0_1.length c0_1]] rfl zqE ?_; (with_reducible refine (pump_Course_check.calls _ _ l1_0 _ _ l1_1 _ _ l0_0 _ _ l0_1 t107 t108 _ ?side1 ?side2 ?side3 ?side4 ?side5 ?side6 ?side7 ?side8 A5.out).mono ?_); (case side1 => exact zqK (Kd.C_below HR1_0.out HB.out)); (case side2 => exact HC1_0.out); (case side3 => exact zqK (Kd.C_below HR1_1.out HB.out)); (case side4 => exact HC1_1.out); (case side5 => exact zqK (Kd.C_below HR0_0.out HB.out)); (case side6 => exact HC0_0.out); (case side7 => exact zqK (Kd.C_below HR0_1.out HB.out)); (case side8 => exact HC0_1.out); rintro e w85 ⟨rfl, hb⟩; refine ⟨_, rfl, ?_⟩; have n0_ := zA (blk_below (g := gb104) (o := .cells #[.slice A0_0 l0_0.length c0_0, .slice A0_1 l0_1.length c0_1] 40 (0, 0)) (zqB BK104.out) hb); have n1_ := zA (blk_below (g := gb105) (o := .cells #[.slice A1_0 l1_0.length c1_0, .slice A1_1 l1_1.length c1_1] 56 (0, 0)) (zqB BK105.out) hb); have n2_ := zA (below_step (zqH HB.out GE104.out GE105.out) hb); clear BK104; clear BK105; clear HB; have BK104 := n0_; have BK105 := n1_; have HB := n2_; clear n0_ n1_ n2_; (try clear hb); (try clear hb2); (try clear hk); (try clear hi)))
   go_ret3
   exact ⟨_, _, zqR, by first | exact Kd.R_nil _ _ _ _ _ | exact Kd.N_nil _ _ _ _ _ | exact Kd.V_nil _ _ _ _ _ | exact Kd.Q_nil _ _ _ _ _ | exact Kd.S_nil _ _ _ _ _, by first | exact Kd.R_nil _ _ _ _ _ | exact Kd.N_nil _ _ _ _ _ | exact Kd.V_nil _ _ _ _ _ | exact Kd.Q_nil _ _ _ _ _ | exact Kd.S_nil _ _ _ _ _, zqH HB.out GE104.out GE105.out⟩
 ·
  rw [if_neg c4] at H
  have c4b0 : (t106 == 0) = false := beq_eq_false_iff_ne.mpr c4
  have c4b1 : (t106 != 0) = true := bne_iff_ne.mpr c4
  simp only [Option.some.injEq, Prod.mk.injEq] at H
  obtain ⟨rfl, rfl, rfl⟩ := H
  go_enter Try.func38, Try.ntmps38
  go_wp2_with (first | ((with_reducible refine gate_dst (N := 2) rfl ?_); refine box_event ?hg (N := 2) ?hd (cs := #[.slice A0_0 l0_0.length c0_0, .slice A0_1 l0_1.length c0_1]) (t := 40) ?hr ?_; (case hd => rfl); (case hg => rfl); (case hr => first | (go_simp; done) | (go_simp; rfl)); intro gb104 hg w86 hbox hb; have n0_ := zA (below_step (zqA HB.out) hb); have n1_ := zA (hbox); have n2_ := zA ((by rw [hg]; exact (below_size (zqA HB.out)) : w.heap.size ≤ gb104)); have n3_ := zA ((by rw [hg]; exact (below_size (zqA HB.out)) : w.heap.size ≤ gb104)); clear HB; have HB := n0_; have BK104 := n1_; have GW104 := n2_; have GE104 := n3_; clear n0_ n1_ n2_ n3_; clear hb hbox hg) | ((with_reducible refine gate_dst (N := 3) rfl ?_); refine box_event ?hg (N := 3) ?hd (cs := #[.slice A1_0 l1_0.length c1_0, .slice A1_1 l1_1.length c1_1]) (t := 56) ?hr ?_; (case hd => rfl); (case hg => rfl); (case hr => first | (go_simp; done) | (go_simp; rfl)); intro gb105 hg w87 hbox hb; have n0_ := zA (blk_below (g := gb104) (o := .cells #[.slice A0_0 l0_0.length c0_0, .slice A0_1 l0_1.length c0_1] 40 (0, 0)) (zqB BK104.out) hb); have n1_ := zA (below_step (zqG HB.out GE104.out) hb); have n2_ := zA (hbox); have n3_ := zA ((by rw [hg]; exact (below_size (zqG HB.out GE104.out)) : w.heap.size ≤ gb105)); have n4_ := zA ((by rw [hg]; exact (below_size (zqG HB.out GE104.out)) : w.heap.size ≤ gb105)); have n5_ := zA ((by rw [hg]; exact Nat.ne_of_lt (blk_lt (g := gb104) (o := .cells #[.slice A0_0 l0_0.length c0_0, .slice A0_1 l0_1.length c0_1] 40 (0, 0)) (zqB BK104.out)) : gb104 ≠ gb105)); have n6_ := zA ((by rw [hg]; exact Nat.ne_of_gt (blk_lt (g := gb104) (o := .cells #[.slice A0_0 l0_0.length c0_0, .slice A0_1 l0_1.length c0_1] 40 (0, 0)) (zqB BK104.out)) : gb105 ≠ gb104)); clear BK104; clear HB; have BK104 := n0_; have HB := n1_; have BK105 := n2_; have GW105 := n3_; have GE105 := n4_; have NB104_105 := n5_; have NB105_104 := n6_; clear n0_ n1_ n2_ n3_ n4_ n5_ n6_; clear hb hbox hg; have hnb88 := NB104_105.out; have hnc88 := NB105_104.out; have hcz89_0 : w87.cell? ⟨gb104, 0, none⟩ = some (.slice A0_0 l0_0.length c0_0) := (blk_cell BK104.out 0).trans rfl; have hcz89_1 : w87.cell? ⟨gb104, 1, none⟩ = some (.slice A0_1 l0_1.length c0_1) := (blk_cell BK104.out 1).trans rfl; have hfz89_0 := blk_frozen BK104.out 0; have hfz89_1 := blk_frozen BK104.out 1) | ((with_reducible refine gate_callee (f := 34) rfl ?_); refine goesL_ (some 23) rfl rfl Try.func34 (by kernel_rfl) rfl #[.agg #[.slice A0_0 l0_0.length c0_0, .slice A0_1 l0_1.length c0_1]] rfl zqE ?_; (with_reducible refine (pump_Check.calls _ _ l0_0 _ _ l0_1 t106 _ ?side1 ?side2 ?side3 ?side4 A3.out).mono ?_); (case side1 => exact zqK (Kd.C_below HR0_0.out HB.out)); (case side2 => exact HC0_0.out); (case side3 => exact zqK (Kd.C_below HR0_1.out HB.out)); (case side4 => exact HC0_1.out); rintro e w90 ⟨rfl, hb⟩; refine ⟨_, rfl, ?_⟩; have n0_ := zA (blk_below (g := gb104) (o := .cells #[.slice A0_0 l0_0.length c0_0, .slice A0_1 l0_1.length c0_1] 40 (0, 0)) (zqB BK104.out) hb); have n1_ := zA (blk_below (g := gb105) (o := .cells #[.slice A1_0 l1_0.length c1_0, .slice A1_1 l1_1.length c1_1] 56 (0, 0)) (zqB BK105.out) hb); have n2_ := zA (below_step (zqH HB.out GE104.out GE105.out) hb); clear BK104; clear BK105; clear HB; have BK104 := n0_; have BK105 := n1_; have HB := n2_; clear n0_ n1_ n2_; (try clear hb); (try clear hb2); (try clear hk); (try clear hi)))
  go_ret3
  exact ⟨_, _, zqR, by first | exact Kd.R_nil _ _ _ _ _ | exact Kd.N_nil _ _ _ _ _ | exact Kd.V_nil _ _ _ _ _ | exact Kd.Q_nil _ _ _ _ _ | exact Kd.S_nil _ _ _ _ _, by first | exact Kd.R_nil _ _ _ _ _ | exact Kd.N_nil _ _ _ _ _ | exact Kd.V_nil _ _ _ _ _ | exact Kd.Q_nil _ _ _ _ _ | exact Kd.S_nil _ _ _ _ _, zqH HB.out GE104.out GE105.out⟩
end Go.Proofs.Ythoeindopljmkaa.P
end
section
namespace Go.Proofs.Ythoeindopljmkaa.P
open Go.RowKit Go.Proofs.YthoeindopljmkaaW.PrintWords Go.Proofs.YthoeindopljmkaaW.PrintLast Go.Proofs.YthoeindopljmkaaW.PrintMore
set_option linter.unusedVariables false
set_option linter.unusedSimpArgs false
def exL : List S71 := [⟨1, 5⟩, ⟨3, 9⟩]
def exK : List S71 := [⟨2, 4⟩, ⟨5, 15⟩]
def exM : List Int := [0, 5, 9, 9, 14, 18]
def exN : List Int := [0, 0, 4, 4, 8, 15]
theorem wk_m0 : pump_Most.f exL 0 = some (0, 0) := by kernel_rfl
theorem wk_m1 : pump_Most.f exL 1 = some (5, 0) := by kernel_rfl
theorem wk_m2 : pump_Most.f exL 2 = some (9, 0) := by kernel_rfl
theorem wk_m3 : pump_Most.f exL 3 = some (9, 0) := by kernel_rfl
theorem wk_m4 : pump_Most.f exL 4 = some (14, 0) := by kernel_rfl
theorem wk_m5 : pump_Most.f exL 5 = some (18, 0) := by kernel_rfl
theorem wk_l0 : pump_Least.f exK 0 = some (0, 0) := by kernel_rfl
theorem wk_l1 : pump_Least.f exK 1 = some (0, 0) := by kernel_rfl
theorem wk_l2 : pump_Least.f exK 2 = some (4, 0) := by kernel_rfl
theorem wk_l3 : pump_Least.f exK 3 = some (4, 0) := by kernel_rfl
theorem wk_l4 : pump_Least.f exK 4 = some (8, 0) := by kernel_rfl
theorem wk_l5 : pump_Least.f exK 5 = some (15, 0) := by kernel_rfl
theorem sort_11 : sortI [1, 1] = [1, 1] := by simp [sortI, List.mergeSort, List.MergeSort.Internal.splitInTwo, List.merge]
theorem sort_01 : sortI [0, 1] = [0, 1] := by simp [sortI, List.mergeSort, List.MergeSort.Internal.splitInTwo, List.merge]
theorem wk_cover0 : pump_Cover.f exL 5 = some (sortI [1, 1], 0) := by kernel_rfl
theorem wk_cover : pump_Cover.f exL 5 = some ([1, 1], 0) := wk_cover0.trans (by rw [sort_11])
theorem wk_pack0 : pump_Pack.f exK 7 = some (sortI [0, 1], 0) := by kernel_rfl
theorem wk_pack : pump_Pack.f exK 7 = some ([0, 1], 0) := wk_pack0.trans (by rw [sort_01])
theorem wk_row : pump_Row.f [exL] [exK, exK] 3 = some (4, 0) := by kernel_rfl
theorem wk_drop : pump_Drop.f 1000 [exL] [exK] 6 = some (6, 4, 0) := by kernel_rfl
theorem wk_delay : pump_Delay.f 1000 [exL] [exK] 6 = some (3, 0) := by kernel_rfl
theorem wk_lacks : pump_Lacks.f 1000 [exL] [exK] [[5, 4, 0, 5]] [[0, 4, 0, 4]] = some ([5, 5, 5, 6], [3, -1, -1, -1], 0) := by kernel_rfl
theorem wk_worst : pump_Worst.f [exL] [exK] 6 = some ([[5, 4, 0, 5]], [[0, 4, 0, 4]], 0) := by kernel_rfl
theorem wk_last : pump_Lacks.f 1000 [exL] [exK] [[5, 4, 0, 5]] [[0, 4, 0, 4]] = some ([5, 5, 5, 6], [3, -1, -1, -1], 0) := wk_lacks
theorem wk_n1 : pianolalaw04_numbers.f 1000 [1, 1] [1, 1] = some true := by kernel_rfl
theorem wk_n2 : pianolalaw04_numbers.f 1000 [0, 1] [0, 1] = some true := by kernel_rfl
theorem wk_n3 : pianolalaw04_numbers.f 1000 [5, 5, 5, 6] [5, 5, 5, 6] = some true := by kernel_rfl
theorem wk_n4 : pianolalaw04_numbers.f 1000 [3, -1, -1, -1] [3, -1, -1, -1] = some true := by kernel_rfl
end Go.Proofs.Ythoeindopljmkaa.P
end
section
namespace Go.Proofs.Ythoeindopljmkaa.P
open Go.RowKit Go.Proofs.YthoeindopljmkaaW.PrintWords Go.Proofs.YthoeindopljmkaaW.PrintLast Go.Proofs.YthoeindopljmkaaW.PrintMore
set_option linter.unusedVariables false
set_option linter.unusedSimpArgs false
theorem L_c (w : World) : Calls Try.prog 50 #[] w fun e w' => ∃ A c, e = .returned (.slice A 2 c) ∧ 2 ≤ c ∧ Kd.C k71 w' A 2 exL ∧ Below w.heap.size w w' := by
  refine (pianolalaw04_L.calls exL w rfl).mono ?_
  rintro e w' ⟨v, rfl, hR, hb⟩
  obtain ⟨A, c, rfl, hl, hC⟩ := Kd.R_reads hR
  exact ⟨A, c, rfl, hl, hC, hb⟩
theorem K_c (w : World) : Calls Try.prog 51 #[] w fun e w' => ∃ A c, e = .returned (.slice A 2 c) ∧ 2 ≤ c ∧ Kd.C k71 w' A 2 exK ∧ Below w.heap.size w w' := by
  refine (pianolalaw04_K.calls exK w rfl).mono ?_
  rintro e w' ⟨v, rfl, hR, hb⟩
  obtain ⟨A, c, rfl, hl, hC⟩ := Kd.R_reads hR
  exact ⟨A, c, rfl, hl, hC, hb⟩
theorem P_c (w : World) : Calls Try.prog 48 #[] w fun e w' => ∃ A c B d, e = .returned (.agg #[.slice A 1 c, .slice B 1 d]) ∧ 1 ≤ c ∧ 1 ≤ d ∧ Kd.C (Kd.slice 71 k71) w' A 1 [exL] ∧ Kd.C (Kd.slice 71 k71) w' B 1 [exK] ∧ Below w.heap.size w w' := by
  refine (pianolalaw04_P.calls [exL] [exK] w rfl).mono ?_
  rintro e w' ⟨v0, v1, rfl, h0, h1, hb⟩
  obtain ⟨A, c, rfl⟩ := Kd.N_slice h0
  obtain ⟨B, d, rfl⟩ := Kd.N_slice h1
  exact ⟨A, c, B, d, rfl, (Kd.N_reads' h0).2.1, (Kd.N_reads' h1).2.1, (Kd.N_reads' h0).2.2, (Kd.N_reads' h1).2.2, hb⟩
theorem Q_c (w : World) : Calls Try.prog 49 #[] w fun e w' => ∃ A c B d, e = .returned (.agg #[.slice A 1 c, .slice B 2 d]) ∧ 1 ≤ c ∧ 2 ≤ d ∧ Kd.C (Kd.slice 71 k71) w' A 1 [exL] ∧ Kd.C (Kd.slice 71 k71) w' B 2 [exK, exK] ∧ Below w.heap.size w w' := by
  refine (pianolalaw04_Q.calls [exL] [exK, exK] w rfl).mono ?_
  rintro e w' ⟨v0, v1, rfl, h0, h1, hb⟩
  obtain ⟨A, c, rfl⟩ := Kd.N_slice h0
  obtain ⟨B, d, rfl⟩ := Kd.N_slice h1
  exact ⟨A, c, B, d, rfl, (Kd.N_reads' h0).2.1, (Kd.N_reads' h1).2.1, (Kd.N_reads' h0).2.2, (Kd.N_reads' h1).2.2, hb⟩
theorem lit_C {W : World} {g : Nat} (xs : List Int) (hx : xs.length ≤ 1000) (h : W.heap[g]? = some (.cells (xs.map (Value.int .i64)).toArray 3 (0, 0))) : Kd.C (Kd.int .i64) W (some ⟨g, 0, none⟩) xs.length xs := by
  refine ⟨rfl, Nat.le_trans hx (by decide), fun _ => ⟨_, rfl, fun j p hj => ⟨[.int .i64 p], rfl, rfl, fun i u hu => ?_⟩⟩⟩
  match i, hu with
  | 0, hu =>
    cases hu
    have e : (⟨g, 0, none⟩ : Addr).add (j * (Kd.int .i64).sz + 0) = ⟨g, j, none⟩ := by
      rw [show (Kd.int .i64).sz = 1 from rfl, Nat.mul_one, Nat.add_zero]
      unfold Addr.add; split <;> simp_all
    rw [e]
    unfold World.cell?
    rw [show (⟨g, j, none⟩ : Addr).block = g from rfl, h]
    have : (xs.map (Value.int .i64))[j]? = some (.int .i64 p) := by rw [List.getElem?_map, hj]; rfl
    simpa using this
  | i + 1, hu => cases hu
theorem add_zero0 (g j : Nat) : (⟨g, 0, none⟩ : Addr).add j = ⟨g, j, none⟩ := by unfold Addr.add; split <;> simp_all
theorem below_t {A B C : World} (h : Below A.heap.size A B) (k : Below B.heap.size B C) : Below A.heap.size A C := h.trans (k.mono h.size)
theorem wk_most (i : Int) (h0 : 0 ≤ i) (h1 : i < 6) : pump_Most.f exL i = some (rd exM i, 0) := by
  have : i = 0 ∨ i = 1 ∨ i = 2 ∨ i = 3 ∨ i = 4 ∨ i = 5 := by omega
  rcases this with rfl | rfl | rfl | rfl | rfl | rfl
  · exact wk_m0
  · exact wk_m1
  · exact wk_m2
  · exact wk_m3
  · exact wk_m4
  · exact wk_m5
theorem wk_least (i : Int) (h0 : 0 ≤ i) (h1 : i < 6) : pump_Least.f exK i = some (rd exN i, 0) := by
  have : i = 0 ∨ i = 1 ∨ i = 2 ∨ i = 3 ∨ i = 4 ∨ i = 5 := by omega
  rcases this with rfl | rfl | rfl | rfl | rfl | rfl
  · exact wk_l0
  · exact wk_l1
  · exact wk_l2
  · exact wk_l3
  · exact wk_l4
  · exact wk_l5
theorem course_C (W : World) (a0 a1 a2 a3 b0 b1 b2 b3 : Int) (WX : World)
    (hX : WX = (((W.alloc (.cells #[.int .i64 a0, .int .i64 a1, .int .i64 a2, .int .i64 a3] 3)).alloc (.cells #[.slice (some ⟨W.heap.size, 0, none⟩) 4 4] 30)).alloc (.cells #[.int .i64 b0, .int .i64 b1, .int .i64 b2, .int .i64 b3] 3)).alloc (.cells #[.slice (some ⟨W.heap.size + 1 + 1, 0, none⟩) 4 4] 30)) :
    Below W.heap.size W WX ∧ Kd.C (Kd.slice 3 (Kd.int .i64)) WX (some ⟨W.heap.size + 1, 0, none⟩) 1 [[a0, a1, a2, a3]] ∧ Kd.C (Kd.slice 3 (Kd.int .i64)) WX (some ⟨W.heap.size + 1 + 1 + 1, 0, none⟩) 1 [[b0, b1, b2, b3]] := by
  subst hX
  refine ⟨below_alloc (below_alloc (below_alloc (below_alloc (Below.refl _ _) _) _) _) _, ?_, ?_⟩
  · refine one_row (A := some ⟨W.heap.size, 0, none⟩) (c := 4) (x := [a0, a1, a2, a3]) ?_ (Nat.le_refl _) (lit_C [a0, a1, a2, a3] (show 4 ≤ 1000 by decide) ?_)
    · exact Lib.cell?_alloc_some _ (Lib.cell?_alloc_some _ (cell_new_at _ _ _ _ (by simp)))
    · exact (Below.heap_alloc _ _ _ (by simp only [World.size_alloc]; omega)).trans ((Below.heap_alloc _ _ _ (by simp only [World.size_alloc]; omega)).trans ((Below.heap_alloc _ _ _ (by simp)).trans (heap_alloc_new _ _)))
  · refine one_row (A := some ⟨W.heap.size + 1 + 1, 0, none⟩) (c := 4) (x := [b0, b1, b2, b3]) ?_ (Nat.le_refl _) (lit_C [b0, b1, b2, b3] (show 4 ≤ 1000 by decide) ?_)
    · exact cell_new_at _ _ _ _ (by simp)
    · refine (Below.heap_alloc _ _ _ (by simp)).trans ?_
      have := heap_alloc_new ((W.alloc (.cells #[.int .i64 a0, .int .i64 a1, .int .i64 a2, .int .i64 a3] 3)).alloc (.cells #[.slice (some ⟨W.heap.size, 0, none⟩) 4 4] 30)) (.cells #[.int .i64 b0, .int .i64 b1, .int .i64 b2, .int .i64 b3] 3)
      simpa using this
def pianolalaw04_works.f : Option Bool := some true
set_option maxHeartbeats 8000000 in
set_option maxRecDepth 100000 in
theorem works_c (w : World) : Calls Try.prog 15 #[] w fun e w' => e = .returned (.bool true) ∧ Below w.heap.size w w' := by
 have hu40 := Try.underlying40
 have hu56 := Try.underlying56
 go_enter Try.func15, Try.ntmps15
 go_wp2_with fail
 obtain ⟨W0, hW0⟩ : ∃ W0, W0 = (w.alloc (.cells #[.int .i64 0, .int .i64 5, .int .i64 9, .int .i64 9, .int .i64 14, .int .i64 18] 3)).alloc (.cells #[.int .i64 0, .int .i64 0, .int .i64 4, .int .i64 4, .int .i64 8, .int .i64 15] 3) := ⟨_, rfl⟩
 rw [← hW0]
 have HB0 : Aside0 (Below w.heap.size w W0) := ⟨by rw [hW0]; exact below_alloc (below_alloc (Below.refl _ _) _) _⟩
 have CM : Aside0 (Kd.C (Kd.int .i64) W0 (some ⟨w.heap.size, 0, none⟩) 6 exM) := ⟨lit_C exM (by decide) (by rw [hW0]; exact (Below.heap_alloc _ _ _ (by simp)).trans (heap_alloc_new _ _))⟩
 have CN : Aside0 (Kd.C (Kd.int .i64) W0 (some ⟨w.heap.size + 1, 0, none⟩) 6 exN) := ⟨lit_C exN (by decide) (by rw [hW0]; have := heap_alloc_new (w.alloc (.cells #[.int .i64 0, .int .i64 5, .int .i64 9, .int .i64 9, .int .i64 14, .int .i64 18] 3)) (.cells #[.int .i64 0, .int .i64 0, .int .i64 4, .int .i64 4, .int .i64 8, .int .i64 15] 3); simpa [exN] using this)⟩
 clear hW0
 go_loopg [3] 6 (fun kq v3 w' => ∃ i : Int, v3 = .int .i64 i ∧ Aside0 (0 ≤ i ∧ i ≤ 6 ∧ (kq : Int) = 6 - i) ∧ Aside0 (Below W0.heap.size W0 w'))
 case atStart => exact ⟨0, rfl, ⟨Int.le_refl _, by decide, by decide⟩, ⟨Below.refl _ _⟩⟩
 case round =>
  obtain ⟨i, rfl, HI, HB⟩ := hrel
  by_cases c : i < 6
  ·
   have c1 : decide (i < 6) = true := decide_eq_true c
   have i0 : 0 ≤ i := HI.out.1
   have HM := zA (wk_most i i0 c)
   have HN := zA (wk_least i i0 c)
   obtain ⟨x, hx⟩ : ∃ x, rd exM i = x := ⟨_, rfl⟩
   obtain ⟨y, hy⟩ : ∃ y, rd exN i = y := ⟨_, rfl⟩
   rw [hx] at HM
   rw [hy] at HN
   have hw : IntKind.i64.wrap (i + 1) = i + 1 := (i64_w _).trans (w64s (by omega) (by omega))
   have hw2 : wrap64 (i + 1) = i + 1 := w64s (by omega) (by omega)
   go_wp2_with fail
   refine (L_c _).mono ?_
   rintro e w1 ⟨A, c1', rfl, hl, hC, hb1⟩
   have K1 := zA (pump_Most.calls A c1' exL i x 0 w1 hC hl HM.out)
   clear hC hl
   go_wp2_with fail
   refine K1.out.mono ?_
   rintro e w2 ⟨rfl, hb2⟩
   clear K1
   go_wp2_with fail
   refine (K_c _).mono ?_
   rintro e w3 ⟨B, c2', rfl, hl, hC, hb3⟩
   have K2 := zA (pump_Least.calls B c2' exK i y 0 w3 hC hl HN.out)
   clear hC hl
   go_wp2_with fail
   refine K2.out.mono ?_
   rintro e w4 ⟨rfl, hb4⟩
   have HB4 := zA (below_t HB.out (below_t hb1 (below_t hb2 (below_t hb3 hb4))))
   have CM4 := Kd.C_below CM.out HB4.out
   have CN4 := Kd.C_below CN.out HB4.out
   obtain ⟨ad, ea, s0⟩ := Kd.at_int CM4 i i0 c
   obtain ⟨ad2, ea2, s1⟩ := Kd.at_int CN4 i i0 c
   injection ea with ea
   injection ea2 with ea2
   subst ea ea2
   rw [hx, add_zero0] at s0
   rw [hy, add_zero0] at s1
   have c2 := eq_true c
   have i1 := eq_true i0
   clear K2 hb1 hb2 hb3 hb4 hx hy CM4 CN4
   go_wp2
   go_roundg (6 - (i + 1)).toNat
   case measure => have := HI.out.2.2; have := of_eq_true c2; omega
   case rel => exact ⟨i + 1, by first | rfl | simp, ⟨by have := HI.out.1; omega, by have := of_eq_true c2; omega, by have := of_eq_true c2; omega⟩, HB4⟩
  ·
   have c1 : decide (i < 6) = false := decide_eq_false c
   have HBW := zA (HB0.out.trans (HB.out.mono HB0.out.size))
   clear HI CM CN HB HB0 c
   go_wp2_with fail
   refine (L_c _).mono ?_
   rintro e w1 ⟨A1, d1, rfl, hl, hC, hb1⟩
   have K := zA (pump_Cover.calls A1 d1 exL 5 [1, 1] 0 w1 hC hl wk_cover)
   clear hC hl
   go_wp2_with fail
   refine K.out.mono ?_
   rintro e w2 ⟨v8, rfl, hR8, hb2⟩
   obtain ⟨A8, d8, rfl, hl8, hC8⟩ := Kd.R_reads hR8
   have C8 := zA (And.intro hl8 hC8)
   clear K hR8 hl8 hC8
   go_wp2_with fail
   refine (K_c _).mono ?_
   rintro e w3 ⟨A2, d2, rfl, hl, hC, hb3⟩
   have K := zA (pump_Pack.calls A2 d2 exK 7 [0, 1] 0 w3 hC hl wk_pack)
   clear hC hl
   go_wp2_with fail
   refine K.out.mono ?_
   rintro e w4 ⟨v10, rfl, hR10, hb4⟩
   obtain ⟨A10, d10, rfl, hl10, hC10⟩ := Kd.R_reads hR10
   have C10 := zA (And.intro hl10 hC10)
   clear K hR10 hl10 hC10
   go_wp2_with fail
   refine (Q_c _).mono ?_
   rintro e w5 ⟨A3, d3, A4, d4, rfl, hl, hl', hC, hC', hb5⟩
   have K := zA (pump_Row.calls A3 d3 [exL] A4 d4 [exK, exK] 3 4 0 w5 hC hl hC' hl' wk_row)
   clear hC hl hC' hl'
   go_wp2_with fail
   refine K.out.mono ?_
   rintro e w6 ⟨rfl, hb6⟩
   clear K
   go_wp2_with fail
   refine (P_c _).mono ?_
   rintro e w7 ⟨A5, d5, A6, d6, rfl, hl, hl', hC, hC', hb7⟩
   have K := zA (pump_Drop.calls 1000 A5 d5 [exL] A6 d6 [exK] 6 6 4 0 w7 hC hl hC' hl' wk_drop)
   clear hC hl hC' hl'
   go_wp2_with fail
   refine K.out.mono ?_
   rintro e w8 ⟨rfl, hb8⟩
   clear K
   go_wp2_with fail
   refine (P_c _).mono ?_
   rintro e w9 ⟨A7, d7, A9, d9, rfl, hl, hl', hC, hC', hb9⟩
   have K := zA (pump_Delay.calls 1000 A7 d7 [exL] A9 d9 [exK] 6 3 0 w9 hC hl hC' hl' wk_delay)
   clear hC hl hC' hl'
   go_wp2_with fail
   refine K.out.mono ?_
   rintro e wa ⟨rfl, hba⟩
   clear K
   have H2a := zA (below_t hb3 (below_t hb4 (below_t hb5 (below_t hb6 (below_t hb7 (below_t hb8 (below_t hb9 hba)))))))
   have H4a := zA (below_t hb5 (below_t hb6 (below_t hb7 (below_t hb8 (below_t hb9 hba)))))
   have HWa := zA (HBW.out.trans ((below_t hb1 (below_t hb2 H2a.out)).mono HBW.out.size))
   clear hb1 hb2 hb3 hb4 hb5 hb6 hb7 hb8 hb9 hba HBW
   go_wp2_with fail
   have K := zA (pianolalaw04_numbers.calls 1000 A8 d8 [1, 1] (some ⟨wa.heap.size, 0, none⟩) 2 [1, 1] true _ (Kd.C_below C8.out.2 (below_t H2a.out (below_alloc (Below.refl wa.heap.size wa) (.cells #[.int .i64 1, .int .i64 1] 3)))) C8.out.1 (lit_C [1, 1] (by decide) (heap_alloc_new _ _)) (Nat.le_refl _) wk_n1)
   have n0_ := zA (below_alloc (Below.refl wa.heap.size wa) (.cells #[.int .i64 1, .int .i64 1] 3))
   refine K.out.mono ?_
   rintro e wb ⟨rfl, hd⟩
   have Hab := zA (n0_.out.trans (hd.below.mono n0_.out.size))
   clear K n0_ hd
   go_wp2_with fail
   have K := zA (pianolalaw04_numbers.calls 1000 A10 d10 [0, 1] (some ⟨wb.heap.size, 0, none⟩) 2 [0, 1] true _ (Kd.C_below C10.out.2 (below_t H4a.out (below_t Hab.out (below_alloc (Below.refl wb.heap.size wb) (.cells #[.int .i64 0, .int .i64 1] 3))))) C10.out.1 (lit_C [0, 1] (by decide) (heap_alloc_new _ _)) (Nat.le_refl _) wk_n2)
   have n0_ := zA (below_alloc (Below.refl wb.heap.size wb) (.cells #[.int .i64 0, .int .i64 1] 3))
   refine K.out.mono ?_
   rintro e wc ⟨rfl, hd⟩
   have HWc := zA (HWa.out.trans ((below_t Hab.out (n0_.out.trans (hd.below.mono n0_.out.size))).mono HWa.out.size))
   clear K n0_ hd C8 C10 H2a H4a Hab HWa
   go_wp2_with fail
   refine (P_c _).mono ?_
   rintro e wd ⟨A5, d5, A6, d6, rfl, hl, hl', hC, hC', hb⟩
   have HWd := zA (HWc.out.trans (hb.mono HWc.out.size))
   have PP := zA (And.intro hl (And.intro hl' (And.intro hC hC')))
   clear hl hl' hC hC' hb HWc
   go_wp2_with fail
   have CX := zA (course_C wd 5 4 0 5 0 4 0 4 _ rfl)
   refine (pump_Lacks.calls 1000 A5 d5 [exL] A6 d6 [exK] (some ⟨wd.heap.size + 1, 0, none⟩) 1 [[5, 4, 0, 5]] (some ⟨wd.heap.size + 1 + 1 + 1, 0, none⟩) 1 [[0, 4, 0, 4]] [5, 5, 5, 6] [3, -1, -1, -1] 0 _
    (Kd.C_below PP.out.2.2.1 CX.out.1) PP.out.1 (Kd.C_below PP.out.2.2.2 CX.out.1) PP.out.2.1 CX.out.2.1 (Nat.le_refl _) CX.out.2.2 (Nat.le_refl _) wk_lacks).mono ?_
   rintro e we ⟨v19, v20, rfl, h19, h20, hb⟩
   obtain ⟨A19, d19, rfl, l19, c19⟩ := Kd.R_reads h19
   obtain ⟨A20, d20, rfl, l20, c20⟩ := Kd.R_reads h20
   have C19 := zA (And.intro l19 c19)
   have C20 := zA (And.intro l20 c20)
   have HWe := zA (HWd.out.trans ((CX.out.1.trans (hb.mono CX.out.1.size)).mono HWd.out.size))
   clear h19 h20 l19 c19 l20 c20 hb CX PP HWd
   go_wp2_with fail
   refine (P_c _).mono ?_
   rintro e wf ⟨A7, d7, A9, d9, rfl, hl, hl', hC, hC', hb⟩
   have K := zA (pump_Worst.calls A7 d7 [exL] A9 d9 [exK] 6 [[5, 4, 0, 5]] [[0, 4, 0, 4]] 0 wf hC hl hC' hl' wk_worst)
   have Hef := zA hb
   clear hl hl' hC hC' hb
   go_wp2_with fail
   refine K.out.mono ?_
   rintro e wg ⟨Ad, cd, Ac, cc, rfl, ld, lc, cD, cC, hb⟩
   have Heg := zA (below_t Hef.out hb)
   have CD := zA (And.intro ld (And.intro lc (And.intro cD cC)))
   clear K Hef hb ld lc cD cC
   go_wp2_with fail
   obtain ⟨g21, hg21⟩ : ∃ g21, g21 = wg.heap.size := ⟨_, rfl⟩
   have bG : Below wg.heap.size wg (wg.alloc (.cells #[.slice Ad 1 cd, .slice Ac 1 cc] 56)) := below_alloc (Below.refl _ _) _
   have oG : (wg.alloc (.cells #[.slice Ad 1 cd, .slice Ac 1 cc] 56)).heap[wg.heap.size]? = some (.cells #[.slice Ad 1 cd, .slice Ac 1 cc] 56 (0, 0)) := heap_alloc_new _ _
   rw [← hg21]
   generalize hWG : wg.alloc (.cells #[.slice Ad 1 cd, .slice Ac 1 cc] 56) = WG at bG oG ⊢
   rw [← hg21] at oG
   have c210 : WG.cell? ⟨g21, 0, none⟩ = some (.slice Ad 1 cd) := (blk_cell oG 0).trans rfl
   have c211 : WG.cell? ⟨g21, 1, none⟩ = some (.slice Ac 1 cc) := (blk_cell oG 1).trans rfl
   have HeG := zA (below_t Heg.out bG)
   have CDG := zA (And.intro CD.out.1 (And.intro CD.out.2.1 (And.intro (Kd.C_below CD.out.2.2.1 bG) (Kd.C_below CD.out.2.2.2 bG))))
   have OG := zA oG
   clear hWG bG oG hg21 Heg CD
   go_region_law (first
    | (refine goes_ Try.func48 (by kernel_rfl) rfl #[] (by rfl) rfl rfl (by (try simp only [List.map_toArray, List.map_cons, List.map_nil]); first | done | rfl) ?_; refine (P_c _).mono ?_; rintro e wh ⟨A5, d5, A6, d6, rfl, hl, hl', hC, hC', hb⟩; refine ⟨_, rfl, ?_⟩; have HGh := zA ((below_drew1 (Below.refl WG.heap.size WG)).trans hb); have PP := zA (And.intro hl (And.intro hl' (And.intro hC hC'))); have OH := zA (blk_both OG.out HGh.out).1; have c210h : wh.cell? ⟨g21, 0, none⟩ = some (.slice Ad 1 cd) := (blk_cell OH.out 0).trans rfl; have c211h : wh.cell? ⟨g21, 1, none⟩ = some (.slice Ac 1 cc) := (blk_cell OH.out 1).trans rfl; clear hl hl' hC hC' hb)
    | (refine goes_ Try.func38 (by kernel_rfl) rfl #[.agg #[.slice A5 1 d5, .slice A6 1 d6], .agg #[.slice Ad 1 cd, .slice Ac 1 cc]] (by rfl) rfl rfl (by (try simp only [List.map_toArray, List.map_cons, List.map_nil]); first | done | rfl) ?_; refine (pump_Lacks.calls 1000 A5 d5 [exL] A6 d6 [exK] Ad cd [[5, 4, 0, 5]] Ac cc [[0, 4, 0, 4]] [5, 5, 5, 6] [3, -1, -1, -1] 0 _ PP.out.2.2.1 PP.out.1 PP.out.2.2.2 PP.out.2.1 (Kd.C_below CDG.out.2.2.1 HGh.out) CDG.out.1 (Kd.C_below CDG.out.2.2.2 HGh.out) CDG.out.2.1 wk_last).mono ?_; rintro e wi ⟨v22, v23, rfl, h22, h23, hb⟩; obtain ⟨A22, d22, rfl, l22, c22⟩ := Kd.R_reads h22; obtain ⟨A23, d23, rfl, l23, c23⟩ := Kd.R_reads h23; refine ⟨_, rfl, ?_⟩; have C22 := zA c22; have Hhi := zA hb; clear h22 h23 hb l22 c22 l23 c23))
   all_goals
    have Hei := zA (below_t HeG.out (below_t HGh.out Hhi.out))
    have HWi := zA (HWe.out.trans (Hei.out.mono HWe.out.size))
    obtain ⟨a22, e22, s22⟩ := Kd.at_int C22.out 3 (by decide) (by decide)
    subst e22
    have H0 := zA (show wi.cell? (a22.add 3) = some (.int .i64 6) from s22)
    clear s22
    go_wp2_with fail
    have K := zA (pianolalaw04_numbers.calls 1000 A19 d19 [5, 5, 5, 6] (some ⟨wi.heap.size, 0, none⟩) 4 [5, 5, 5, 6] true _ (Kd.C_below C19.out.2 (below_t Hei.out (below_alloc (Below.refl wi.heap.size wi) (.cells #[.int .i64 5, .int .i64 5, .int .i64 5, .int .i64 6] 3)))) C19.out.1 (lit_C [5, 5, 5, 6] (show 4 ≤ 1000 by decide) (heap_alloc_new _ _)) (Nat.le_refl _) wk_n3)
    have n0_ := zA (below_alloc (Below.refl wi.heap.size wi) (.cells #[.int .i64 5, .int .i64 5, .int .i64 5, .int .i64 6] 3))
    refine K.out.mono ?_
    rintro e wj ⟨rfl, hd⟩
    have Hij := zA (n0_.out.trans (hd.below.mono n0_.out.size))
    clear K n0_ hd
    go_wp2_with fail
    have K := zA (pianolalaw04_numbers.calls 1000 A20 d20 [3, -1, -1, -1] (some ⟨wj.heap.size, 0, none⟩) 4 [3, -1, -1, -1] true _ (Kd.C_below C20.out.2 (below_t Hei.out (below_t Hij.out (below_alloc (Below.refl wj.heap.size wj) (.cells #[.int .i64 3, .int .i64 (-1), .int .i64 (-1), .int .i64 (-1)] 3))))) C20.out.1 (lit_C [3, -1, -1, -1] (show 4 ≤ 1000 by decide) (heap_alloc_new _ _)) (Nat.le_refl _) wk_n4)
    have n0_ := zA (below_alloc (Below.refl wj.heap.size wj) (.cells #[.int .i64 3, .int .i64 (-1), .int .i64 (-1), .int .i64 (-1)] 3))
    refine K.out.mono ?_
    rintro e wk ⟨rfl, hd⟩
    have Hik := zA (below_t Hij.out (n0_.out.trans (hd.below.mono n0_.out.size)))
    have HWk := zA (HWi.out.trans (Hik.out.mono HWi.out.size))
    have s22 : wk.cell? ⟨a22.block, a22.off + 3, none⟩ = some (.int .i64 6) := (Hik.out.cell (World.block_lt_of_cell? _ _ H0.out)).trans H0.out
    clear K n0_ hd Hij
    go_wp2
    go_ret
    exact ⟨rfl, HWk.out⟩
theorem pianolalaw04_works.calls (r : Bool) (w : World) (h : pianolalaw04_works.f = some r) : Calls Try.prog 15 #[] w fun e w' => e = .returned (.bool r) ∧ Below w.heap.size w w' := by
  obtain rfl := Option.some.inj h
  exact works_c w
end Go.Proofs.Ythoeindopljmkaa.P
end
