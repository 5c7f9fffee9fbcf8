/- Words and contracts for a claim. -/
import Derived.Test.YtehpbmdphfbooaaBase11

section
namespace Go.Proofs.Ytehpbmdphfbooaa.P
open Go.RowKit Go.Proofs Go.Proofs.YtehpbmdphfbooaaW.PrintWords Go.Proofs.YtehpbmdphfbooaaW.PrintLast Go.Proofs.YtehpbmdphfbooaaW.PrintMore
set_option linter.unusedVariables false
set_option linter.unusedSimpArgs false
theorem fIdx_ge {α : Type} (q : α → Bool) : ∀ (l : List α) (k : Nat), fIdx q l k = -1 ∨ ((k : Int) ≤ fIdx q l k ∧ fIdx q l k < k + l.length)
  | [], k => .inl rfl
  | o :: os, k => by
    unfold fIdx
    by_cases h : q o = true
    · rw [if_pos h]
      right
      simp
      omega
    · rw [if_neg h]
      rcases fIdx_ge q os (k + 1) with h1 | ⟨h1, h2⟩
      · exact .inl h1
      · right
        simp at *
        omega
theorem keptI_ge (O : List S67) (i : Int) : keptI O i = -1 ∨ (0 ≤ keptI O i ∧ keptI O i < O.length) := by
  rcases fIdx_ge (isO i false) O 0 with h | h
  · exact .inl h
  · right
    unfold keptI
    omega
def leavesI (F T : List S61) (O : List S67) (i : Int) : Bool := if keptI O i < 0 then true else !atB (plcN (rd_T61 F i)) (rd_T61 T (keptI O i))
theorem leaves_f (F T : List S61) (O : List S67) (hl : O.length ≤ 1000000) (ho : O.length = T.length) (i : Int) (h0 : 0 ≤ i) (h1 : i < F.length) : edit_Patch_leaves.f (O.length + 1) F T O i = some (leavesI F T O i) := by
  unfold edit_Patch_leaves.f
  rw [kept_f F T O hl i]
  show (if keptI O i < 0 then _ else _) = _
  unfold leavesI
  by_cases h : keptI O i < 0
  · rw [if_pos h, if_pos h]
  · rw [if_neg h, if_neg h, if_pos (by omega), if_pos (by rcases keptI_ge O i with k | k <;> omega)]
    unfold edit_Note_place.f
    show (if 0 ≤ i then _ else _) = _
    rw [if_pos h0, if_pos h1]
    show some _ = some _
    congr 1
    unfold atB plcN
    show (!((rd_T61 T (keptI O i)).f0 == (rd_T61 F i).f0) || !((rd_T61 T (keptI O i)).f1 == (rd_T61 F i).f1)) = !(decide ((rd_T61 T (keptI O i)).f0 = (rd_T61 F i).f0) && decide ((rd_T61 T (keptI O i)).f1 = (rd_T61 F i).f1))
    by_cases a : (rd_T61 T (keptI O i)).f0 = (rd_T61 F i).f0 <;> by_cases b : (rd_T61 T (keptI O i)).f1 = (rd_T61 F i).f1 <;> simp [a, b]
theorem leaves111 (A0 : Option Addr) (c0 : Nat) (F : List S61) (A1 : Option Addr) (c1 : Nat) (T : List S61) (A2 : Option Addr) (c2 : Nat) (O : List S67) (i : Int) (w : World) (h0 : Kd.C k61 w A0 F.length F) (d0 : F.length ≤ c0) (h1 : Kd.C k61 w A1 T.length T) (d1 : T.length ≤ c1) (h2 : Kd.C k67 w A2 O.length O) (d2 : O.length ≤ c2) (hl : O.length ≤ 1000000) (ho : O.length = T.length) (hi0 : 0 ≤ i) (hi1 : i < F.length) :
    Calls Try.prog 111 #[.agg #[.slice A0 F.length c0, .slice A1 T.length c1, .slice A2 O.length c2], .int .i64 i] w fun e w' => e = .returned (.bool (leavesI F T O i)) ∧ Below w.heap.size w w' :=
  edit_Patch_leaves.calls (O.length + 1) A0 c0 F A1 c1 T A2 c2 O i _ w h0 d0 h1 d1 h2 d2 (leaves_f F T O hl ho i hi0 hi1)
def toI (F T : List S61) (i : Int) : Int := fIdx (atB (plcN (rd_T61 F i))) T 0
def waitsO (O : List S67) (o : S67) : Bool := selfO o || (o.f1 && decide (keptI O o.f0 < 0) && decide (copiesI O o.f0 = 1))
def nextI (F T : List S61) (O : List S67) (i : Int) : Int × Bool :=
  if toI F T i < 0 then (0, false) else if leavesI F T O i = false then (0, false) else ((rd_T67 O (toI F T i)).f0, waitsO O (rd_T67 O (toI F T i)))
theorem toI_ge (F T : List S61) (i : Int) : toI F T i = -1 ∨ (0 ≤ toI F T i ∧ toI F T i < T.length) := by
  rcases fIdx_ge (atB (plcN (rd_T61 F i))) T 0 with h | h
  · exact .inl h
  · right
    unfold toI
    omega
theorem ret_ib {a a' : Int} {b b' : Bool} (h : (a, b) = (a', b')) : Ending.returned (.tuple #[.int .i64 a', .bool b']) = .returned (.tuple #[.int .i64 a, .bool b]) := by
  injection h with h1 h2
  rw [h1, h2]
set_option maxHeartbeats 4000000 in
set_option maxRecDepth 100000 in
theorem next97 (A0 : Option Addr) (c0 : Nat) (F : List S61) (A1 : Option Addr) (c1 : Nat) (T : List S61) (A2 : Option Addr) (c2 : Nat) (O : List S67) (i : Int) (w : World) (h0 : Kd.C k61 w A0 F.length F) (d0 : F.length ≤ c0) (h1 : Kd.C k61 w A1 T.length T) (d1 : T.length ≤ c1) (h2 : Kd.C k67 w A2 O.length O) (d2 : O.length ≤ c2) (hl : O.length ≤ 1000000) (ho : O.length = T.length) (hi0 : 0 ≤ i) (hi1 : i < F.length) :
  Calls Try.prog 97 #[.agg #[.slice A0 F.length c0, .slice A1 T.length c1, .slice A2 O.length c2], .int .i64 i] w fun e w' => e = .returned (.tuple #[.int .i64 (nextI F T O i).1, .bool (nextI F T O i).2]) ∧ Below w.heap.size w w' := by
 have hu28 := Try.underlying28
 have hu61 := Try.underlying61
 have hu67 := Try.underlying67
 have hu26 := Try.underlying26
 have HB := zA (Below.refl w.heap.size w)
 have KF := zA (fun (g2 g3 : Nat) (W : World) (hb : Below w.heap.size w W) (hp : W.heap[g2]? = some (.cells #[.slice A0 F.length c0, .slice A1 T.length c1, .slice A2 O.length c2] 28 (0, 0))) (hi : W.heap[g3]? = some (.cells #[.int .i64 i] 3 (0, 0))) => index112_113 g2 g3 A1 c1 T (atB (plcN (rd_T61 F i))) W (Kd.C_below h1 hb) (by omega) (fun x W' hW => next113 g2 g3 A0 c0 F _ _ i x.f0 x.f1 x.f2 W' ((hW.block g2 (blk_lt hp)).trans hp) ((hW.block g3 (blk_lt hi)).trans hi) (Kd.C_below (Kd.C_below h0 hb) hW) hi0 hi1))
 have KL := zA (fun (W : World) (hb : Below w.heap.size w W) => leaves111 A0 c0 F A1 c1 T A2 c2 O i W (Kd.C_below h0 hb) d0 (Kd.C_below h1 hb) d1 (Kd.C_below h2 hb) d2 hl ho hi0 hi1)
 have KK := zA (fun (a : Int) (W : World) (hb : Below w.heap.size w W) => kept68 A0 c0 F A1 c1 T A2 c2 O a W (Kd.C_below h0 hb) d0 (Kd.C_below h1 hb) d1 (Kd.C_below h2 hb) d2 hl)
 have KC := zA (fun (a : Int) (W : World) (hb : Below w.heap.size w W) => copies105 A0 c0 F A1 c1 T A2 c2 O a W (Kd.C_below h0 hb) d0 (Kd.C_below h1 hb) d1 (Kd.C_below h2 hb) d2 hl)
 have HC2 := zA h2
 have HTO := zA (toI_ge F T i)
 have HO := zA ho
 obtain ⟨z, hz⟩ : ∃ z_, z_ = toI F T i := ⟨_, rfl⟩
 obtain ⟨lv, hlv⟩ : ∃ z_, z_ = leavesI F T O i := ⟨_, rfl⟩
 have HN : Aside0 (nextI F T O i = if z < 0 then (0, false) else if lv = false then (0, false) else ((rd_T67 O z).f0, waitsO O (rd_T67 O z))) := ⟨by rw [hz, hlv]; rfl⟩
 rw [← hz] at HTO
 have HZ := zA hz.symm
 have HLV := zA hlv.symm
 clear hz hlv h0 d0 h1 d1 h2 d2 hl ho
 go_enter Try.func97, Try.ntmps97
 go_upto_region 2 with (first | ((with_reducible refine gate_dst (N := 2) rfl ?_); refine box_event ?hg (N := 2) ?hd (cs := #[.slice A0 F.length c0, .slice A1 T.length c1, .slice A2 O.length c2]) (t := 28) ?hr ?_; (case hd => rfl); (case hg => rfl); (case hr => first | (go_simp; done) | (go_simp; rfl)); intro g2 hg w2 hbox hb; have GE2 : Aside0 (w.heap.size ≤ g2) := ⟨by rw [hg]; exact HB.out.size⟩; replace HB := zA (below_step HB.out hb); have aa := zA hbox; clear hb hbox hg) | ((with_reducible refine gate_dst (N := 3) rfl ?_); refine box_event ?hg (N := 3) ?hd (cs := #[.int .i64 i]) (t := 3) ?hr ?_; (case hd => rfl); (case hg => rfl); (case hr => first | (go_simp; done) | (go_simp; rfl)); intro g3 hg w3 hbox hb; have N23 : Aside0 (g2 ≠ g3) := ⟨by have := blk_lt aa.out; omega⟩; have GE3 : Aside0 (w.heap.size ≤ g3) := ⟨by rw [hg]; exact HB.out.size⟩; replace HB := zA (below_step HB.out hb); replace aa := zA (blk_keep aa.out hb); have ac := zA hbox; clear hb hbox hg; have p0 : w3.cell? ⟨g2, 0, none⟩ = some (.slice A0 F.length c0) := (blk_cell aa.out 0).trans rfl; have p1 : w3.cell? ⟨g2, 1, none⟩ = some (.slice A1 T.length c1) := (blk_cell aa.out 1).trans rfl; have p2 : w3.cell? ⟨g2, 2, none⟩ = some (.slice A2 O.length c2) := (blk_cell aa.out 2).trans rfl) | (go_at_call 112; refine (KF.out g2 g3 _ HB.out aa.out ac.out).mono ?_; rintro e w4 ⟨rfl, hb⟩; clear p0 p1 p2; replace HB := zA (below_step HB.out hb); replace aa := zA (blk_keep aa.out hb); replace ac := zA (blk_keep ac.out hb); clear hb; have hz := HZ.out; unfold toI at hz; rw [hz]; clear hz))
 have hcase : (z < 0) ∨ (¬ z < 0 ∧ lv = false) ∨ (¬ z < 0 ∧ lv = true) := by
  by_cases h : z < 0
  ·
   exact .inl h
  ·
   cases lv <;> simp [h]
 have q0 : w4.cell? ⟨g2, 0, none⟩ = some (.slice A0 F.length c0) := (blk_cell aa.out 0).trans rfl
 have q1 : w4.cell? ⟨g2, 1, none⟩ = some (.slice A1 T.length c1) := (blk_cell aa.out 1).trans rfl
 have q2 : w4.cell? ⟨g2, 2, none⟩ = some (.slice A2 O.length c2) := (blk_cell aa.out 2).trans rfl
 have r0 : w4.cell? ⟨g3, 0, none⟩ = some (.int .i64 i) := (blk_cell ac.out 0).trans rfl
 rcases hcase with hz | ⟨hz, rfl⟩ | ⟨hz, rfl⟩
 ·
  have hn := HN.out
  rw [if_pos hz] at hn
  have hzb := decide_eq_true hz
  have HN2 := zA hn
  clear hn hz
  go_wp2_with fail
  go_ret2
  exact ⟨ret_ib HN2.out, HB.out⟩
 ·
  have hn := HN.out
  rw [if_neg hz, if_pos rfl] at hn
  have hzb := decide_eq_false hz
  have HN2 := zA hn
  clear hn hz
  go_wp2_with (first | (go_at_call 111; refine (KL.out _ HB.out).mono ?_; rintro e w5 ⟨rfl, hb⟩; clear q0 q1 q2 r0; replace HB := zA (below_step HB.out hb); replace aa := zA (blk_keep aa.out hb); replace ac := zA (blk_keep ac.out hb); clear hb; rw [HLV.out]))
  go_ret2
  exact ⟨ret_ib HN2.out, HB.out⟩
 ·
  have hn := HN.out
  rw [if_neg hz, if_neg (by decide)] at hn
  have hzb := decide_eq_false hz
  have hz0 : 0 ≤ z := by omega
  have hz1 : z < (O.length : Int) := by have := HTO.out; have := HO.out; omega
  obtain ⟨ad, e, x0, x1⟩ := at_T67 HC2.out z hz0 hz1
  subst e
  obtain ⟨y0, ae⟩ : ∃ y_ : Int, y_ = (rd_T67 O z).f0 := ⟨_, rfl⟩
  obtain ⟨y1, af⟩ : ∃ y_ : Bool, y_ = (rd_T67 O z).f1 := ⟨_, rfl⟩
  have hy : rd_T67 O z = ⟨y0, y1⟩ := by rw [ae, af]
  rw [← ae] at x0
  rw [← af] at x1
  rw [hy] at hn
  have HN2 : Aside0 (nextI F T O i = (y0, waitsO O ⟨y0, y1⟩)) := ⟨hn⟩
  have HX0 := zA x0
  have HX1 := zA x1
  clear hn hy ae af x0 x1 HN
  go_upto_region 5 with (first | (go_at_call 111; refine (KL.out _ HB.out).mono ?_; rintro e w5 ⟨rfl, hb⟩; clear q0 q1 q2 r0; replace HB := zA (below_step HB.out hb); replace aa := zA (blk_keep aa.out hb); replace ac := zA (blk_keep ac.out hb); clear hb; rw [HLV.out]; have x0 := (HB.out.cell (World.block_lt_of_cell? w _ HX0.out)).trans HX0.out; have x1 := (HB.out.cell (World.block_lt_of_cell? w _ HX1.out)).trans HX1.out; have q0 : w5.cell? ⟨g2, 0, none⟩ = some (.slice A0 F.length c0) := (blk_cell aa.out 0).trans rfl; have q1 : w5.cell? ⟨g2, 1, none⟩ = some (.slice A1 T.length c1) := (blk_cell aa.out 1).trans rfl; have q2 : w5.cell? ⟨g2, 2, none⟩ = some (.slice (some ad) O.length c2) := (blk_cell aa.out 2).trans rfl) | ((with_reducible refine gate_dst (N := 7) rfl ?_); refine box_event ?hg (N := 7) ?hd (cs := #[.int .i64 0, .bool false]) (t := 67) ?hr ?_; (case hd => rfl); (case hg => rfl); (case hr => first | (go_simp; done) | (go_simp; rfl)); intro g7 hg w7 hbox hb; have N27 : Aside0 (g2 ≠ g7) := ⟨by have := blk_lt aa.out; omega⟩; have N37 : Aside0 (g3 ≠ g7) := ⟨by have := blk_lt ac.out; omega⟩; have ag : Aside0 (w.heap.size ≤ g7) := ⟨by rw [hg]; exact HB.out.size⟩; replace HB := zA (below_step HB.out hb); replace aa := zA (blk_keep aa.out hb); replace ac := zA (blk_keep ac.out hb); have ab := zA hbox; clear hb hbox hg; clear q0 q1 q2 x0 x1; have x0 := (HB.out.cell (World.block_lt_of_cell? w _ HX0.out)).trans HX0.out; have x1 := (HB.out.cell (World.block_lt_of_cell? w _ HX1.out)).trans HX1.out; have s0 : w7.cell? ⟨g7, 0, none⟩ = some (.int .i64 0) := (blk_cell ab.out 0).trans rfl; have s1 : w7.cell? ⟨g7, 1, none⟩ = some (.bool false) := (blk_cell ab.out 1).trans rfl; have sf0 := blk_frozen ab.out 0; have sf1 := blk_frozen ab.out 1))
  clear x0 x1 s0 s1 sf0 sf1
  have n0_ : Aside0 (((World.setCell (World.setCell w7 ⟨g7, 0, none⟩ (.int .i64 y0)) ⟨g7, 1, none⟩ (.bool y1))).heap[g7]? = some (.cells #[.int .i64 y0, .bool y1] 67 (0, 0))) := ⟨(blk_put (cs := #[.int .i64 y0, .bool false]) (blk_put (cs := #[.int .i64 0, .bool false]) ab.out 0 (.int .i64 y0) rfl) 1 (.bool y1) rfl)⟩
  have n1_ : Aside0 (Below w.heap.size w (World.setCell (World.setCell w7 ⟨g7, 0, none⟩ (.int .i64 y0)) ⟨g7, 1, none⟩ (.bool y1))) := ⟨(below_set (below_set HB.out ag.out) ag.out)⟩
  have n2_ := zA ((blk_far (blk_far aa.out (p := ⟨g7, 0, none⟩) (N27.out) (.int .i64 y0)) (p := ⟨g7, 1, none⟩) (N27.out) (.bool y1))); have n3_ := zA ((blk_far (blk_far ac.out (p := ⟨g7, 0, none⟩) (N37.out) (.int .i64 y0)) (p := ⟨g7, 1, none⟩) (N37.out) (.bool y1))); clear ab HB aa ac; generalize (World.setCell (World.setCell w7 ⟨g7, 0, none⟩ (.int .i64 y0)) ⟨g7, 1, none⟩ (.bool y1)) = w8 at n0_ n1_ n2_ n3_ ⊢; have ab := n0_; have HB := n1_; have aa := n2_; have ac := n3_; clear n0_ n1_ n2_ n3_
  have s0 : w8.cell? ⟨g7, 0, none⟩ = some (.int .i64 y0) := (blk_cell ab.out 0).trans rfl
  have s1 : w8.cell? ⟨g7, 1, none⟩ = some (.bool y1) := (blk_cell ab.out 1).trans rfl
  have q0 : w8.cell? ⟨g2, 0, none⟩ = some (.slice A0 F.length c0) := (blk_cell aa.out 0).trans rfl
  have q1 : w8.cell? ⟨g2, 1, none⟩ = some (.slice A1 T.length c1) := (blk_cell aa.out 1).trans rfl
  have q2 : w8.cell? ⟨g2, 2, none⟩ = some (.slice (some ad) O.length c2) := (blk_cell aa.out 2).trans rfl
  cases hsb : (decide (0 ≤ y0) && !y1) with
  | true =>
   have HN3 : Aside0 (nextI F T O i = (y0, true)) := ⟨HN2.out.trans (congrArg (Prod.mk y0) (by show ((decide (0 ≤ y0) && !y1) || (y1 && decide (keptI O y0 < 0) && decide (copiesI O y0 = 1))) = _; rw [hsb]; rfl))⟩
   go_wp2_with (first | (go_at_call 71; refine (self_c y0 y1 _).mono ?_; rintro e w9 ⟨rfl, hb⟩; clear s0 s1 q0 q1 q2; replace HB := zA (below_step HB.out hb); replace aa := zA (blk_keep aa.out hb); replace ac := zA (blk_keep ac.out hb); replace ab := zA (blk_keep ab.out hb); clear hb; have s0 : w9.cell? ⟨g7, 0, none⟩ = some (.int .i64 y0) := (blk_cell ab.out 0).trans rfl; have s1 : w9.cell? ⟨g7, 1, none⟩ = some (.bool y1) := (blk_cell ab.out 1).trans rfl; have q0 : w9.cell? ⟨g2, 0, none⟩ = some (.slice A0 F.length c0) := (blk_cell aa.out 0).trans rfl; have q1 : w9.cell? ⟨g2, 1, none⟩ = some (.slice A1 T.length c1) := (blk_cell aa.out 1).trans rfl; have q2 : w9.cell? ⟨g2, 2, none⟩ = some (.slice (some ad) O.length c2) := (blk_cell aa.out 2).trans rfl; rw [hsb]))
   go_ret2
   exact ⟨ret_ib HN3.out, HB.out⟩
  | false =>
   cases y1 with
   | false =>
    have HN3 : Aside0 (nextI F T O i = (y0, false)) := ⟨HN2.out.trans (congrArg (Prod.mk y0) (by show ((decide (0 ≤ y0) && !false) || (false && decide (keptI O y0 < 0) && decide (copiesI O y0 = 1))) = _; rw [hsb]; rfl))⟩
    go_wp2_with (first | (go_at_call 71; refine (self_c y0 false _).mono ?_; rintro e w9 ⟨rfl, hb⟩; clear s0 s1 q0 q1 q2; replace HB := zA (below_step HB.out hb); replace aa := zA (blk_keep aa.out hb); replace ac := zA (blk_keep ac.out hb); replace ab := zA (blk_keep ab.out hb); clear hb; have s0 : w9.cell? ⟨g7, 0, none⟩ = some (.int .i64 y0) := (blk_cell ab.out 0).trans rfl; have s1 : w9.cell? ⟨g7, 1, none⟩ = some (.bool false) := (blk_cell ab.out 1).trans rfl; have q0 : w9.cell? ⟨g2, 0, none⟩ = some (.slice A0 F.length c0) := (blk_cell aa.out 0).trans rfl; have q1 : w9.cell? ⟨g2, 1, none⟩ = some (.slice A1 T.length c1) := (blk_cell aa.out 1).trans rfl; have q2 : w9.cell? ⟨g2, 2, none⟩ = some (.slice (some ad) O.length c2) := (blk_cell aa.out 2).trans rfl; rw [hsb]))
    go_ret2
    exact ⟨ret_ib HN3.out, HB.out⟩
   | true =>
    by_cases hk : keptI O y0 < 0
    ·
     have hkb := decide_eq_true hk
     by_cases hc : copiesI O y0 = 1
     ·
      have hcb : (((copiesI O y0 : Nat) : Int) == 1) = true := by rw [hc]; rfl
      have HN3 : Aside0 (nextI F T O i = (y0, true)) := ⟨HN2.out.trans (congrArg (Prod.mk y0) (by show ((decide (0 ≤ y0) && !true) || (true && decide (keptI O y0 < 0) && decide (copiesI O y0 = 1))) = _; rw [hsb, hkb, decide_eq_true hc]; rfl))⟩
      go_wp2_with (first | (go_at_call 71; refine (self_c y0 true _).mono ?_; rintro e w9 ⟨rfl, hb⟩; clear s0 s1 q0 q1 q2; replace HB := zA (below_step HB.out hb); replace aa := zA (blk_keep aa.out hb); replace ac := zA (blk_keep ac.out hb); replace ab := zA (blk_keep ab.out hb); clear hb; have s0 : w9.cell? ⟨g7, 0, none⟩ = some (.int .i64 y0) := (blk_cell ab.out 0).trans rfl; have s1 : w9.cell? ⟨g7, 1, none⟩ = some (.bool true) := (blk_cell ab.out 1).trans rfl; have q0 : w9.cell? ⟨g2, 0, none⟩ = some (.slice A0 F.length c0) := (blk_cell aa.out 0).trans rfl; have q1 : w9.cell? ⟨g2, 1, none⟩ = some (.slice A1 T.length c1) := (blk_cell aa.out 1).trans rfl; have q2 : w9.cell? ⟨g2, 2, none⟩ = some (.slice (some ad) O.length c2) := (blk_cell aa.out 2).trans rfl; rw [hsb]) | (go_at_call 68; refine (KK.out y0 _ HB.out).mono ?_; rintro e wa ⟨rfl, hb⟩; clear s0 s1 q0 q1 q2; replace HB := zA (below_step HB.out hb); replace aa := zA (blk_keep aa.out hb); replace ac := zA (blk_keep ac.out hb); replace ab := zA (blk_keep ab.out hb); clear hb; have s0 : wa.cell? ⟨g7, 0, none⟩ = some (.int .i64 y0) := (blk_cell ab.out 0).trans rfl; have s1 : wa.cell? ⟨g7, 1, none⟩ = some (.bool true) := (blk_cell ab.out 1).trans rfl; have q0 : wa.cell? ⟨g2, 0, none⟩ = some (.slice A0 F.length c0) := (blk_cell aa.out 0).trans rfl; have q1 : wa.cell? ⟨g2, 1, none⟩ = some (.slice A1 T.length c1) := (blk_cell aa.out 1).trans rfl; have q2 : wa.cell? ⟨g2, 2, none⟩ = some (.slice (some ad) O.length c2) := (blk_cell aa.out 2).trans rfl) | (go_at_call 105; refine (KC.out y0 _ HB.out).mono ?_; rintro e wb ⟨rfl, hb⟩; clear s0 s1 q0 q1 q2; replace HB := zA (below_step HB.out hb); replace aa := zA (blk_keep aa.out hb); replace ac := zA (blk_keep ac.out hb); replace ab := zA (blk_keep ab.out hb); clear hb; have s0 : wb.cell? ⟨g7, 0, none⟩ = some (.int .i64 y0) := (blk_cell ab.out 0).trans rfl; have s1 : wb.cell? ⟨g7, 1, none⟩ = some (.bool true) := (blk_cell ab.out 1).trans rfl; have q0 : wb.cell? ⟨g2, 0, none⟩ = some (.slice A0 F.length c0) := (blk_cell aa.out 0).trans rfl; have q1 : wb.cell? ⟨g2, 1, none⟩ = some (.slice A1 T.length c1) := (blk_cell aa.out 1).trans rfl; have q2 : wb.cell? ⟨g2, 2, none⟩ = some (.slice (some ad) O.length c2) := (blk_cell aa.out 2).trans rfl))
      go_ret2
      exact ⟨ret_ib HN3.out, HB.out⟩
     ·
      have hcb : (((copiesI O y0 : Nat) : Int) == 1) = false := beq_eq_false_iff_ne.mpr (by omega)
      have HN3 : Aside0 (nextI F T O i = (y0, false)) := ⟨HN2.out.trans (congrArg (Prod.mk y0) (by show ((decide (0 ≤ y0) && !true) || (true && decide (keptI O y0 < 0) && decide (copiesI O y0 = 1))) = _; rw [hsb, hkb, decide_eq_false hc]; rfl))⟩
      go_wp2_with (first | (go_at_call 71; refine (self_c y0 true _).mono ?_; rintro e w9 ⟨rfl, hb⟩; clear s0 s1 q0 q1 q2; replace HB := zA (below_step HB.out hb); replace aa := zA (blk_keep aa.out hb); replace ac := zA (blk_keep ac.out hb); replace ab := zA (blk_keep ab.out hb); clear hb; have s0 : w9.cell? ⟨g7, 0, none⟩ = some (.int .i64 y0) := (blk_cell ab.out 0).trans rfl; have s1 : w9.cell? ⟨g7, 1, none⟩ = some (.bool true) := (blk_cell ab.out 1).trans rfl; have q0 : w9.cell? ⟨g2, 0, none⟩ = some (.slice A0 F.length c0) := (blk_cell aa.out 0).trans rfl; have q1 : w9.cell? ⟨g2, 1, none⟩ = some (.slice A1 T.length c1) := (blk_cell aa.out 1).trans rfl; have q2 : w9.cell? ⟨g2, 2, none⟩ = some (.slice (some ad) O.length c2) := (blk_cell aa.out 2).trans rfl; rw [hsb]) | (go_at_call 68; refine (KK.out y0 _ HB.out).mono ?_; rintro e wa ⟨rfl, hb⟩; clear s0 s1 q0 q1 q2; replace HB := zA (below_step HB.out hb); replace aa := zA (blk_keep aa.out hb); replace ac := zA (blk_keep ac.out hb); replace ab := zA (blk_keep ab.out hb); clear hb; have s0 : wa.cell? ⟨g7, 0, none⟩ = some (.int .i64 y0) := (blk_cell ab.out 0).trans rfl; have s1 : wa.cell? ⟨g7, 1, none⟩ = some (.bool true) := (blk_cell ab.out 1).trans rfl; have q0 : wa.cell? ⟨g2, 0, none⟩ = some (.slice A0 F.length c0) := (blk_cell aa.out 0).trans rfl; have q1 : wa.cell? ⟨g2, 1, none⟩ = some (.slice A1 T.length c1) := (blk_cell aa.out 1).trans rfl; have q2 : wa.cell? ⟨g2, 2, none⟩ = some (.slice (some ad) O.length c2) := (blk_cell aa.out 2).trans rfl) | (go_at_call 105; refine (KC.out y0 _ HB.out).mono ?_; rintro e wb ⟨rfl, hb⟩; clear s0 s1 q0 q1 q2; replace HB := zA (below_step HB.out hb); replace aa := zA (blk_keep aa.out hb); replace ac := zA (blk_keep ac.out hb); replace ab := zA (blk_keep ab.out hb); clear hb; have s0 : wb.cell? ⟨g7, 0, none⟩ = some (.int .i64 y0) := (blk_cell ab.out 0).trans rfl; have s1 : wb.cell? ⟨g7, 1, none⟩ = some (.bool true) := (blk_cell ab.out 1).trans rfl; have q0 : wb.cell? ⟨g2, 0, none⟩ = some (.slice A0 F.length c0) := (blk_cell aa.out 0).trans rfl; have q1 : wb.cell? ⟨g2, 1, none⟩ = some (.slice A1 T.length c1) := (blk_cell aa.out 1).trans rfl; have q2 : wb.cell? ⟨g2, 2, none⟩ = some (.slice (some ad) O.length c2) := (blk_cell aa.out 2).trans rfl))
      go_ret2
      exact ⟨ret_ib HN3.out, HB.out⟩
    ·
     have hkb := decide_eq_false hk
     have HN3 : Aside0 (nextI F T O i = (y0, false)) := ⟨HN2.out.trans (congrArg (Prod.mk y0) (by show ((decide (0 ≤ y0) && !true) || (true && decide (keptI O y0 < 0) && decide (copiesI O y0 = 1))) = _; rw [hsb, hkb]; rfl))⟩
     go_wp2_with (first | (go_at_call 71; refine (self_c y0 true _).mono ?_; rintro e w9 ⟨rfl, hb⟩; clear s0 s1 q0 q1 q2; replace HB := zA (below_step HB.out hb); replace aa := zA (blk_keep aa.out hb); replace ac := zA (blk_keep ac.out hb); replace ab := zA (blk_keep ab.out hb); clear hb; have s0 : w9.cell? ⟨g7, 0, none⟩ = some (.int .i64 y0) := (blk_cell ab.out 0).trans rfl; have s1 : w9.cell? ⟨g7, 1, none⟩ = some (.bool true) := (blk_cell ab.out 1).trans rfl; have q0 : w9.cell? ⟨g2, 0, none⟩ = some (.slice A0 F.length c0) := (blk_cell aa.out 0).trans rfl; have q1 : w9.cell? ⟨g2, 1, none⟩ = some (.slice A1 T.length c1) := (blk_cell aa.out 1).trans rfl; have q2 : w9.cell? ⟨g2, 2, none⟩ = some (.slice (some ad) O.length c2) := (blk_cell aa.out 2).trans rfl; rw [hsb]) | (go_at_call 68; refine (KK.out y0 _ HB.out).mono ?_; rintro e wa ⟨rfl, hb⟩; clear s0 s1 q0 q1 q2; replace HB := zA (below_step HB.out hb); replace aa := zA (blk_keep aa.out hb); replace ac := zA (blk_keep ac.out hb); replace ab := zA (blk_keep ab.out hb); clear hb; have s0 : wa.cell? ⟨g7, 0, none⟩ = some (.int .i64 y0) := (blk_cell ab.out 0).trans rfl; have s1 : wa.cell? ⟨g7, 1, none⟩ = some (.bool true) := (blk_cell ab.out 1).trans rfl; have q0 : wa.cell? ⟨g2, 0, none⟩ = some (.slice A0 F.length c0) := (blk_cell aa.out 0).trans rfl; have q1 : wa.cell? ⟨g2, 1, none⟩ = some (.slice A1 T.length c1) := (blk_cell aa.out 1).trans rfl; have q2 : wa.cell? ⟨g2, 2, none⟩ = some (.slice (some ad) O.length c2) := (blk_cell aa.out 2).trans rfl))
     go_ret2
     exact ⟨ret_ib HN3.out, HB.out⟩
end Go.Proofs.Ytehpbmdphfbooaa.P
end
