/- Words and contracts for a claim. -/
import Derived.Test.YthoeindopljmkaaBase10
import Derived.Laws.EntriesVeiled
section
namespace Go.Proofs.Ythoeindopljmkaa.P
open Go.RowKit Go.Proofs.YthoeindopljmkaaW.PrintWords Go.Proofs.YthoeindopljmkaaW.PrintLast Go.Proofs.YthoeindopljmkaaW.PrintMore
set_option linter.unusedVariables false
set_option linter.unusedSimpArgs false
def otherL (all : List (List Int)) (n : Int) : Bool := all.any fun x => (x.length : Int) != n
def wrongL (all : List (List Int)) : Bool := all.any fun x => x.any fun v => !btw 0 v 1000000
def keptAll (ps : List (List S71)) (ds : List (List Int)) : Bool := (ps.zip ds).all fun p => keptL p.2 p.1
def hadAll (ps : List (List S71)) (ds : List (List Int)) : Bool := (ps.zip ds).all fun p => hadL p.2 p.1
def chkF (d c : List (List Int)) (ps rs : List (List S71)) : Int × Int :=
  if d.length ≠ ps.length then (0, 6) else if c.length ≠ rs.length then (0, 6) else
  if otherL (d ++ c) (rd_L6 (d ++ c) 0).length = true then (0, 6) else if ((rd_L6 (d ++ c) 0).length : Int) > 400 then (0, 5) else if wrongL (d ++ c) = true then (0, 3) else
  if keptAll ps d = false then (0, 21) else if hadAll rs c = false then (0, 21) else ((rd_L6 (d ++ c) 0).length, 0)
def smallB (d c : List (List Int)) (ps rs : List (List S71)) : Bool :=
  decide (d.length ≤ 1000) && decide (c.length ≤ 1000) && decide (ps.length ≤ 1000) && decide (rs.length ≤ 1000) && decide (0 < ps.length) && (d ++ c).all (fun x => decide (x.length ≤ 1000000)) && (ps ++ rs).all (fun l => decide (l.length ≤ 1000000) && okTB l)
def pump_Course_check.f (d c : List (List Int)) (ps rs : List (List S71)) : Option (Int × Int) := if smallB d c ps rs = true then some (chkF d c ps rs) else none
set_option maxHeartbeats 2000000 in
set_option maxRecDepth 100000 in
theorem other92 (A : Option Addr) (cx : Nat) (x : List Int) (n : Int) (g7 : Nat) (W : World) (h : W.cell? ⟨g7, 0, none⟩ = some (.int .i64 n)) : Calls Try.prog 92 #[.slice A x.length cx, .pointer (some ⟨g7, 0, none⟩)] W fun e w' => e = .returned (.bool ((x.length : Int) != n)) ∧ Below W.heap.size W w' := by
  go_enter Try.func92, Try.ntmps92
  go_wp2
  go_ret
  exact ⟨rfl, Below.refl _ _⟩
set_option maxHeartbeats 2000000 in
set_option maxRecDepth 100000 in
theorem wrong90 (v : Int) (W : World) : Calls Try.prog 90 #[.int .i64 v] W fun e w' => e = .returned (.bool (!btw 0 v 1000000)) ∧ Below W.heap.size W w' := by
  have H := fun W => btw_c 0 v 1000000 W
  generalize btw 0 v 1000000 = b at H
  go_enter Try.func90, Try.ntmps90
  go_wp2_with (go_at_call 85; refine (H _).mono ?_; rintro e w' ⟨rfl, hd⟩)
  go_ret
  exact ⟨rfl, hd.below⟩
set_option maxHeartbeats 2000000 in
set_option maxRecDepth 100000 in
theorem wrong93 (A : Option Addr) (cx : Nat) (x : List Int) (g8 : Nat) (W : World) (hl : x.length ≤ cx) (hx : x.length ≤ 1000000) (hC : Kd.C (Kd.int .i64) W A x.length x) (h : W.cell? ⟨g8, 0, none⟩ = some (.func (.func 90) #[] #[])) :
    Calls Try.prog 93 #[.slice A x.length cx, .pointer (some ⟨g8, 0, none⟩)] W fun e w' => e = .returned (.bool (x.any fun v => !btw 0 v 1000000)) ∧ Below W.heap.size W w' := by
  have H := zA (ContainsFunc94 90 #[] (fun v => !btw 0 v 1000000) (fun args w => enters_ Try.func90 (by kernel_rfl) rfl args w) A cx x W hC hl hx (fun v W' _ _ => wrong90 v W'))
  clear hC; generalize (x.any fun v => !btw 0 v 1000000) = b at H
  go_enter Try.func93, Try.ntmps93
  go_wp2_with (go_at_call 94; refine H.out.mono ?_; rintro e w' ⟨rfl, hb⟩)
  go_ret
  exact ⟨rfl, hb⟩
theorem other_c (all : List (List Int)) (A : Option Addr) (c : Nat) (n : Int) (g7 : Nat) (W : World) (hl : all.length ≤ c) (hn : all.length ≤ 1000000) (hC : Kd.C (Kd.slice 3 (Kd.int .i64)) W A all.length all) (h : W.cell? ⟨g7, 0, none⟩ = some (.int .i64 n)) :
    Calls Try.prog 91 #[.slice A all.length c, .func (.func 92) #[] #[.pointer (some ⟨g7, 0, none⟩)]] W fun e w' => e = .returned (.bool (otherL all n)) ∧ Below W.heap.size W w' :=
  ContainsFunc91 92 _ (fun x => (x.length : Int) != n) (fun args w => enters_ Try.func92 (by kernel_rfl) rfl args w) A c all W hC hl hn (fun x A' c' W' _ hb _ _ => other92 A' c' x n g7 W' ((hb.cell (World.block_lt_of_cell? _ _ h)).trans h))
theorem wrong_c (all : List (List Int)) (A : Option Addr) (c : Nat) (g8 : Nat) (W : World) (hl : all.length ≤ c) (hn : all.length ≤ 1000000) (hx : ∀ x ∈ all, x.length ≤ 1000000) (hC : Kd.C (Kd.slice 3 (Kd.int .i64)) W A all.length all) (h : W.cell? ⟨g8, 0, none⟩ = some (.func (.func 90) #[] #[])) :
    Calls Try.prog 91 #[.slice A all.length c, .func (.func 93) #[] #[.pointer (some ⟨g8, 0, none⟩)]] W fun e w' => e = .returned (.bool (wrongL all)) ∧ Below W.heap.size W w' :=
  ContainsFunc91 93 _ (fun x => x.any fun v => !btw 0 v 1000000) (fun args w => enters_ Try.func93 (by kernel_rfl) rfl args w) A c all W hC hl hn (fun x A' c' W' hm hb hl' hC' => wrong93 A' c' x g8 W' hl' (hx x hm) hC' ((hb.cell (World.block_lt_of_cell? _ _ h)).trans h))
theorem mem_L4 {l : List (List S71)} {i : Int} (h0 : 0 ≤ i) (h1 : i < l.length) : rd_L4 l i ∈ l := by
  unfold rd_L4
  rw [List.getD_eq_getElem?_getD, List.getElem?_eq_getElem (by omega)]
  exact List.getElem_mem _
theorem mem_L6 {l : List (List Int)} {i : Int} (h0 : 0 ≤ i) (h1 : i < l.length) : rd_L6 l i ∈ l := by
  unfold rd_L6
  rw [List.getD_eq_getElem?_getD, List.getElem?_eq_getElem (by omega)]
  exact List.getElem_mem _
theorem keptAll_iff {ps : List (List S71)} {d : List (List Int)} (h : d.length = ps.length) : (∀ j : Nat, j < ps.length → keptL (rd_L6 d j) (rd_L4 ps j) = true) ↔ keptAll ps d = true := by
  unfold keptAll
  rw [List.all_eq_true]
  have e : ∀ j : Nat, (hj : j < ps.length) → rd_L4 ps j = ps[j] ∧ rd_L6 d j = d[j]'(by omega) := fun j hj => by
    unfold rd_L4 rd_L6
    rw [List.getD_eq_getElem?_getD, List.getD_eq_getElem?_getD, Int.toNat_natCast, List.getElem?_eq_getElem hj, List.getElem?_eq_getElem (by omega)]
    exact ⟨rfl, rfl⟩
  constructor
  · intro H p hp
    obtain ⟨j, hj, rfl⟩ := List.mem_iff_getElem.1 hp
    rw [List.length_zip] at hj
    have := H j (by omega)
    rw [(e j (by omega)).1, (e j (by omega)).2] at this
    rw [List.getElem_zip]
    exact this
  · intro H j hj
    have := H (ps[j], d[j]) (List.mem_iff_getElem.2 ⟨j, by rw [List.length_zip]; omega, by rw [List.getElem_zip]⟩)
    rw [(e j hj).1, (e j hj).2]
    exact this
theorem hadAll_iff {ps : List (List S71)} {d : List (List Int)} (h : d.length = ps.length) : (∀ j : Nat, j < ps.length → hadL (rd_L6 d j) (rd_L4 ps j) = true) ↔ hadAll ps d = true := by
  unfold hadAll
  rw [List.all_eq_true]
  have e : ∀ j : Nat, (hj : j < ps.length) → rd_L4 ps j = ps[j] ∧ rd_L6 d j = d[j]'(by omega) := fun j hj => by
    unfold rd_L4 rd_L6
    rw [List.getD_eq_getElem?_getD, List.getD_eq_getElem?_getD, Int.toNat_natCast, List.getElem?_eq_getElem hj, List.getElem?_eq_getElem (by omega)]
    exact ⟨rfl, rfl⟩
  constructor
  · intro H p hp
    obtain ⟨j, hj, rfl⟩ := List.mem_iff_getElem.1 hp
    rw [List.length_zip] at hj
    have := H j (by omega)
    rw [(e j (by omega)).1, (e j (by omega)).2] at this
    rw [List.getElem_zip]
    exact this
  · intro H j hj
    have := H (ps[j], d[j]) (List.mem_iff_getElem.2 ⟨j, by rw [List.length_zip]; omega, by rw [List.getElem_zip]⟩)
    rw [(e j hj).1, (e j hj).2]
    exact this
set_option maxHeartbeats 8000000 in
set_option maxRecDepth 100000 in
theorem pump_Course_check.calls (A0 : Option Addr) (c0 : Nat) (d : List (List Int)) (A1 : Option Addr) (c1 : Nat) (c : List (List Int)) (A2 : Option Addr) (c2 : Nat) (ps : List (List (S71))) (A3 : Option Addr) (c3 : Nat) (rs : List (List (S71))) (r1 : Int) (r2 : Int) (w : World)
  (hr0 : Kd.C (Kd.slice 3 (Kd.int .i64)) w A0 d.length d) (hc0 : d.length ≤ c0) (hr1 : Kd.C (Kd.slice 3 (Kd.int .i64)) w A1 c.length c) (hc1 : c.length ≤ c1) (hr2 : Kd.C (Kd.slice 71 k71) w A2 ps.length ps) (hc2 : ps.length ≤ c2) (hr3 : Kd.C (Kd.slice 71 k71) w A3 rs.length rs) (hc3 : rs.length ≤ c3) (h : pump_Course_check.f d c ps rs = some (r1, r2)) :
  Calls Try.prog 78 #[.agg #[.slice A0 d.length c0, .slice A1 c.length c1], .agg #[.slice A2 ps.length c2, .slice A3 rs.length c3]] w fun e w' => e = .returned (.tuple #[.int .i64 r1, .int .i64 r2]) ∧ Below w.heap.size w w' := by
 have hu56 := Try.underlying56
 have hu40 := Try.underlying40
 unfold pump_Course_check.f at h
 split at h
 case isFalse => cases h
 rename_i hb
 have H := Option.some.inj h
 unfold smallB at hb
 simp only [Bool.and_eq_true, decide_eq_true_eq, List.all_eq_true] at hb
 obtain ⟨⟨⟨⟨⟨⟨hn0, hn1⟩, hn2⟩, hn3⟩, hpos⟩, hlen⟩, hok⟩ := hb
 have HL := zA hlen
 have HK := zA hok
 have HR0 := zA hr0
 have HR1 := zA hr1
 have HR2 := zA hr2
 have HR3 := zA hr3
 clear h hlen hok hr0 hr1 hr2 hr3
 unfold chkF at H
 by_cases e1 : d.length = ps.length
 case neg =>
  rw [if_pos e1] at H
  injection H with H1 H2
  subst H1 H2
  have b0 : ((d.length : Int) == (ps.length : Int)) = false := beq_eq_false_iff_ne.mpr (by omega)
  have b1 : ((d.length : Int) != (ps.length : Int)) = true := bne_iff_ne.mpr (by omega)
  have b2 : (d.length == ps.length) = false := beq_eq_false_iff_ne.mpr e1
  clear e1
  go_enter Try.func78, Try.ntmps78
  go_wp2_with (first | ((with_reducible refine gate_dst (N := 2) rfl ?_); refine box_event ?hg (N := 2) ?hd (cs := #[.slice A0 d.length c0, .slice A1 c.length c1]) (t := 56) ?hr ?_; (case hd => rfl); (case hg => rfl); (case hr => first | (go_simp; done) | (go_simp; rfl)); intro g2 hg w2 hbox hb; have BK2 := zA hbox; have HB2 := zA hb; clear hbox hb hg) | ((with_reducible refine gate_dst (N := 3) rfl ?_); refine box_event ?hg (N := 3) ?hd (cs := #[.slice A2 ps.length c2, .slice A3 rs.length c3]) (t := 40) ?hr ?_; (case hd => rfl); (case hg => rfl); (case hr => first | (go_simp; done) | (go_simp; rfl)); intro g3 hg w3 hbox hb; have BK3 := zA hbox; have BK2b := zA (blk_both BK2.out hb).1; have HB3 := zA (HB2.out.trans (hb.mono HB2.out.size)); have cz20 : w3.cell? ⟨g2, 0, none⟩ = some (.slice A0 d.length c0) := (blk_cell BK2b.out 0).trans rfl; have cz21 : w3.cell? ⟨g2, 1, none⟩ = some (.slice A1 c.length c1) := (blk_cell BK2b.out 1).trans rfl; have cz30 : w3.cell? ⟨g3, 0, none⟩ = some (.slice A2 ps.length c2) := (blk_cell BK3.out 0).trans rfl; have cz31 : w3.cell? ⟨g3, 1, none⟩ = some (.slice A3 rs.length c3) := (blk_cell BK3.out 1).trans rfl; clear hbox hb hg BK2 HB2))
  go_ret2
  exact ⟨rfl, HB3.out⟩
 rw [if_neg (fun hh => hh e1)] at H
 replace hpos : 0 < d.length + c.length := by omega
 by_cases e2 : c.length = rs.length
 case neg =>
  rw [if_pos e2] at H
  injection H with H1 H2
  subst H1 H2
  have b0 : ((d.length : Int) == (ps.length : Int)) = true := beq_iff_eq.mpr (by omega)
  have b1 : ((d.length : Int) != (ps.length : Int)) = false := bne_eq_false_iff_eq.mpr (by omega)
  have b2 : (d.length == ps.length) = true := beq_iff_eq.mpr e1
  have b3 : ((c.length : Int) == (rs.length : Int)) = false := beq_eq_false_iff_ne.mpr (by omega)
  have b4 : ((c.length : Int) != (rs.length : Int)) = true := bne_iff_ne.mpr (by omega)
  have b5 : (c.length == rs.length) = false := beq_eq_false_iff_ne.mpr e2
  have E := zA (And.intro e1 e2)
  clear e1 e2
  go_enter Try.func78, Try.ntmps78
  go_wp2_with (first | ((with_reducible refine gate_dst (N := 2) rfl ?_); refine box_event ?hg (N := 2) ?hd (cs := #[.slice A0 d.length c0, .slice A1 c.length c1]) (t := 56) ?hr ?_; (case hd => rfl); (case hg => rfl); (case hr => first | (go_simp; done) | (go_simp; rfl)); intro g2 hg w2 hbox hb; have BK2 := zA hbox; have HB2 := zA hb; clear hbox hb hg) | ((with_reducible refine gate_dst (N := 3) rfl ?_); refine box_event ?hg (N := 3) ?hd (cs := #[.slice A2 ps.length c2, .slice A3 rs.length c3]) (t := 40) ?hr ?_; (case hd => rfl); (case hg => rfl); (case hr => first | (go_simp; done) | (go_simp; rfl)); intro g3 hg w3 hbox hb; have BK3 := zA hbox; have BK2b := zA (blk_both BK2.out hb).1; have HB3 := zA (HB2.out.trans (hb.mono HB2.out.size)); have cz20 : w3.cell? ⟨g2, 0, none⟩ = some (.slice A0 d.length c0) := (blk_cell BK2b.out 0).trans rfl; have cz21 : w3.cell? ⟨g2, 1, none⟩ = some (.slice A1 c.length c1) := (blk_cell BK2b.out 1).trans rfl; have cz30 : w3.cell? ⟨g3, 0, none⟩ = some (.slice A2 ps.length c2) := (blk_cell BK3.out 0).trans rfl; have cz31 : w3.cell? ⟨g3, 1, none⟩ = some (.slice A3 rs.length c3) := (blk_cell BK3.out 1).trans rfl; clear hbox hb hg BK2 HB2))
  go_ret2
  exact ⟨rfl, HB3.out⟩
 rw [if_neg (fun hh => hh e2)] at H
 have b0 : ((d.length : Int) == (ps.length : Int)) = true := beq_iff_eq.mpr (by omega)
 have b1 : ((d.length : Int) != (ps.length : Int)) = false := bne_eq_false_iff_eq.mpr (by omega)
 have b2 : (d.length == ps.length) = true := beq_iff_eq.mpr e1
 have b3 : ((c.length : Int) == (rs.length : Int)) = true := beq_iff_eq.mpr (by omega)
 have b4 : ((c.length : Int) != (rs.length : Int)) = false := bne_eq_false_iff_eq.mpr (by omega)
 have b5 : (c.length == rs.length) = true := beq_iff_eq.mpr e2
 have E := zA (And.intro e1 e2)
 clear e1 e2
 have hal : (d ++ c).length = d.length + c.length := List.length_append
 obtain ⟨all, hall⟩ : ∃ all, all = d ++ c := ⟨_, rfl⟩
 rw [← hall] at H HL hal
 have HALL := zA hall
 clear hall
 have hq : (0 < all.length) = True := eq_true (by omega)
 obtain ⟨n, hn⟩ : ∃ n : Nat, n = (rd_L6 all 0).length := ⟨_, rfl⟩
 rw [← hn] at H
 have HN := zA hn
 clear hn
 have HH := zA H
 clear H
 have CC := zA (fun W h0 h1 => concat_c A0 A1 c0 c1 d c W h0 hc0 h1 hc1 (by omega))
 rw [← HALL.out] at CC
 have HS := zA (And.intro hal (And.intro hn0 (And.intro hn1 (And.intro hn2 hn3))))
 clear hal hpos
 go_enter Try.func78, Try.ntmps78
 go_wp2_with (first | ((with_reducible refine gate_dst (N := 2) rfl ?_); refine box_event ?hg (N := 2) ?hd (cs := #[.slice A0 d.length c0, .slice A1 c.length c1]) (t := 56) ?hr ?_; (case hd => rfl); (case hg => rfl); (case hr => first | (go_simp; done) | (go_simp; rfl)); intro g2 hg w2 hbox hb; have BK2 := zA hbox; have HB2 := zA hb; clear hbox hb hg) | ((with_reducible refine gate_dst (N := 3) rfl ?_); refine box_event ?hg (N := 3) ?hd (cs := #[.slice A2 ps.length c2, .slice A3 rs.length c3]) (t := 40) ?hr ?_; (case hd => rfl); (case hg => rfl); (case hr => first | (go_simp; done) | (go_simp; rfl)); intro g3 hg w3 hbox hb; have BK3 := zA hbox; have BK2b := zA (blk_both BK2.out hb).1; have HB3 := zA (HB2.out.trans (hb.mono HB2.out.size)); have cz20 : w3.cell? ⟨g2, 0, none⟩ = some (.slice A0 d.length c0) := (blk_cell BK2b.out 0).trans rfl; have cz21 : w3.cell? ⟨g2, 1, none⟩ = some (.slice A1 c.length c1) := (blk_cell BK2b.out 1).trans rfl; have cz30 : w3.cell? ⟨g3, 0, none⟩ = some (.slice A2 ps.length c2) := (blk_cell BK3.out 0).trans rfl; have cz31 : w3.cell? ⟨g3, 1, none⟩ = some (.slice A3 rs.length c3) := (blk_cell BK3.out 1).trans rfl; clear hbox hb hg BK2 HB2) | (go_at_call 89; refine (CC.out _ (Kd.C_below HR0.out HB3.out) (Kd.C_below HR1.out HB3.out)).mono ?_; rintro e w4 ⟨Al, cl, rfl, hl, hC, hb⟩; obtain ⟨ad, Ax, cx, e0, h0, _, _⟩ := at_L6 hC 0 (Int.le_refl 0) (by have := of_eq_true hq; omega); subst e0; (try rw [show ((0 : Int)).toNat = 0 from rfl] at h0); (try rw [Addr.add_zero'] at h0); rw [← HN.out] at h0; have HC4 := zA hC; have HL4 := zA hl; have HB4 := zA hb; have cy20 := (hb.cell (World.block_lt_of_cell? _ _ cz20)).trans cz20; have cy21 := (hb.cell (World.block_lt_of_cell? _ _ cz21)).trans cz21; have cy30 := (hb.cell (World.block_lt_of_cell? _ _ cz30)).trans cz30; have cy31 := (hb.cell (World.block_lt_of_cell? _ _ cz31)).trans cz31; clear hC hl hb cz20 cz21 cz30 cz31) | fail)
 obtain ⟨W5, hW5⟩ : ∃ W5, ((w4.alloc (Obj.cells #[Value.int IntKind.i64 n] 3)).alloc (Obj.cells #[Value.func (Fn.func 90) #[] #[]] 123)) = W5 := ⟨_, rfl⟩
 rw [hW5]
 have b45 : Below w4.heap.size w4 W5 := by rw [← hW5]; exact below_alloc (below_alloc (Below.refl _ _) _) _
 have c7 : W5.cell? ⟨w4.heap.size, 0, none⟩ = some (.int .i64 n) := by rw [← hW5]; exact Lib.cell?_alloc_some _ (cell_new_at _ _ _ _ rfl)
 have c8 : W5.cell? ⟨w4.heap.size + 1, 0, none⟩ = some (.func (.func 90) #[] #[]) := by rw [← hW5]; exact cell_new_at _ _ _ _ (by simp)
 have l7 := World.block_lt_of_cell? _ _ c7
 have l8 := World.block_lt_of_cell? _ _ c8
 have C5 := zA (Kd.C_below HC4.out b45)
 have B5 := zA (HB3.out.trans ((HB4.out.trans (b45.mono HB4.out.size)).mono HB3.out.size))
 have P5 := fun (p : Addr) (v : Value) (h : w4.cell? p = some v) => (b45.cell (World.block_lt_of_cell? _ _ h)).trans h
 have d20 := P5 _ _ cy20
 have d21 := P5 _ _ cy21
 have d30 := P5 _ _ cy30
 have d31 := P5 _ _ cy31
 clear cy20 cy21 cy30 cy31 h0 hW5 P5 CC HC4 b45
 have hn4 : all.length ≤ 1000000 := by have := HS.out; omega
 have MEM : Aside0 (∀ x ∈ all, x.length ≤ 1000000) := ⟨HL.out⟩
 refine (other_c all (some ad) cl n w4.heap.size W5 HL4.out hn4 C5.out c7).mono ?_
 rintro e w5 ⟨rfl, hb5⟩
 have C6 := zA (Kd.C_below C5.out hb5)
 have B6 := zA (B5.out.trans (hb5.mono B5.out.size))
 have c75 := (hb5.cell (World.block_lt_of_cell? _ _ c7)).trans c7
 have c85 := (hb5.cell (World.block_lt_of_cell? _ _ c8)).trans c8
 have e20 := (hb5.cell (World.block_lt_of_cell? _ _ d20)).trans d20
 have e21 := (hb5.cell (World.block_lt_of_cell? _ _ d21)).trans d21
 have e30 := (hb5.cell (World.block_lt_of_cell? _ _ d30)).trans d30
 have e31 := (hb5.cell (World.block_lt_of_cell? _ _ d31)).trans d31
 clear c7 c8 d20 d21 d30 d31 hb5 C5 B5
 cases ho : otherL all n with
 | true =>
  have H := HH.out
  rw [if_pos ho] at H
  injection H with H1 H2
  subst H1 H2
  go_wp2
  go_ret2
  exact ⟨rfl, B6.out⟩
 | false =>
 have HH2 := zA (show (if (n : Int) > 400 then ((0 : Int), (5 : Int)) else if wrongL all = true then (0, 3) else if keptAll ps d = false then (0, 21) else if hadAll rs c = false then (0, 21) else ((n : Int), 0)) = (r1, r2) by have H := HH.out; rw [if_neg (by rw [ho]; decide)] at H; exact H)
 clear HH ho
 by_cases e4 : (n : Int) > 400
 ·
  have H := HH2.out
  rw [if_pos e4] at H
  injection H with H1 H2
  subst H1 H2
  have q1 : decide (400 < (n : Int)) = true := decide_eq_true e4
  have q2 : decide (400 < n) = true := decide_eq_true (by omega)
  have q3 : 400 < n := by omega
  clear e4
  go_wp2
  go_ret2
  exact ⟨rfl, B6.out⟩
 have HH3 := zA (show (if wrongL all = true then ((0 : Int), (3 : Int)) else if keptAll ps d = false then (0, 21) else if hadAll rs c = false then (0, 21) else ((n : Int), 0)) = (r1, r2) by have H := HH2.out; rw [if_neg e4] at H; exact H)
 have q1 : decide (400 < (n : Int)) = false := decide_eq_false e4
 have q2 : decide (400 < n) = false := decide_eq_false (by omega)
 have q3 : ¬ 400 < n := by omega
 clear HH2 e4
 go_wp2_with fail
 refine (wrong_c all (some ad) cl (w4.heap.size + 1) w5 HL4.out hn4 MEM.out C6.out c85).mono ?_
 rintro e w6 ⟨rfl, hb6⟩
 have B7 := zA (B6.out.trans (hb6.mono B6.out.size))
 have c76 := (hb6.cell (World.block_lt_of_cell? _ _ c75)).trans c75
 have f20 := (hb6.cell (World.block_lt_of_cell? _ _ e20)).trans e20
 have f21 := (hb6.cell (World.block_lt_of_cell? _ _ e21)).trans e21
 have f30 := (hb6.cell (World.block_lt_of_cell? _ _ e30)).trans e30
 have f31 := (hb6.cell (World.block_lt_of_cell? _ _ e31)).trans e31
 clear c75 c85 e20 e21 e30 e31 hb6 C6 B6 q1 q2 q3 l7 l8
 cases ho : wrongL all with
 | true =>
  have H := HH3.out
  rw [if_pos ho] at H
  injection H with H1 H2
  subst H1 H2
  go_wp2
  go_ret2
  exact ⟨rfl, B7.out⟩
 | false =>
 have HH4 := zA (show (if keptAll ps d = false then ((0 : Int), (21 : Int)) else if hadAll rs c = false then (0, 21) else ((n : Int), 0)) = (r1, r2) by have H := HH3.out; rw [if_neg (by rw [ho]; decide)] at H; exact H)
 clear HH3 ho hn4 MEM
 have F0 := zA (And.intro f20 (And.intro f21 (And.intro f30 (And.intro f31 c76))))
 go_wp2_with fail
 go_loopg [53] ps.length (fun kq v53 w' => ∃ i : Int, v53 = .int .i64 i ∧ Aside0 (0 ≤ i ∧ (kq : Int) = ps.length - i ∧ ∀ j : Nat, (j : Int) < i → keptL (rd_L6 d j) (rd_L4 ps j) = true) ∧ Aside0 (Below w6.heap.size w6 w'))
 case atStart => exact ⟨0, rfl, ⟨by omega, by omega, fun j hj => by omega⟩, ⟨Below.refl _ _⟩⟩
 case round =>
  clear f20 f21 f30 f31 c76
  obtain ⟨i, rfl, HI, HW⟩ := hrel
  by_cases hi : i < (ps.length : Int)
  ·
   have p := HI.out.1
   have hil : i < (d.length : Int) := by have := E.out.1; omega
   obtain ⟨adp, Ap, cp, ep, hp0, hpl, hpC⟩ := at_L4 HR2.out i p hi
   cases ep
   obtain ⟨add, Ad, cd, ed, hd0, hdl, hdC⟩ := at_L6 HR0.out i p hil
   cases ed
   have Bw := zA (B7.out.trans (HW.out.mono B7.out.size))
   replace hp0 := (Bw.out.cell (World.block_lt_of_cell? w _ hp0)).trans hp0
   replace hd0 := (Bw.out.cell (World.block_lt_of_cell? w _ hd0)).trans hd0
   have g20 := (HW.out.cell (World.block_lt_of_cell? _ _ F0.out.1)).trans F0.out.1
   have g21 := (HW.out.cell (World.block_lt_of_cell? _ _ F0.out.2.1)).trans F0.out.2.1
   have K := zA (pump_bounds_kept.calls Ap cp (rd_L4 ps i) Ad cd (rd_L6 d i) _ wr (Kd.C_below hpC Bw.out) hpl (Kd.C_below hdC Bw.out) hdl (if_pos ⟨(HK.out _ (List.mem_append_left _ (mem_L4 p hi))).1, HL.out _ (by rw [HALL.out]; exact List.mem_append_left _ (mem_L6 p hil)), (HK.out _ (List.mem_append_left _ (mem_L4 p hi))).2⟩))
   clear hpC hdC hpl hdl
   have c1 : decide (i < (ps.length : Int)) = true := decide_eq_true hi
   cases hk : keptL (rd_L6 d i) (rd_L4 ps i) with
   | true =>
    rw [hk] at K
    have HK2 := zA hk
    clear hk
    go_wp2_with (go_at_call 95; refine K.out.mono ?_; rintro e w7 ⟨rfl, hb7⟩; have HW7 := zA (HW.out.trans (hb7.mono HW.out.size)); clear hb7)
    have hi2 := HI.out.2.1
    go_roundg (ps.length - (i + 1)).toNat
    case measure => omega
    case rel => exact ⟨i + 1, by first | rfl | simp | (simp only [i64_w]; rw [w64s (by omega) (by have := HS.out; omega)]), ⟨by omega, by omega, fun j hj => by
     by_cases ej : (j : Int) = i
     ·
      rw [ej]; exact HK2.out
     ·
      exact HI.out.2.2 j (by omega)⟩, HW7⟩
   | false =>
    rw [hk] at K
    have ha : keptAll ps d = false := by
     cases ha : keptAll ps d with
     | false => rfl
     | true =>
      have := (keptAll_iff E.out.1).2 ha i.toNat (by omega)
      rw [show ((i.toNat : Nat) : Int) = i by omega, hk] at this
      cases this
    clear hk
    have H := HH4.out
    rw [if_pos ha] at H
    injection H with H1 H2
    subst H1 H2
    clear ha
    go_wp2_with (go_at_call 95; refine K.out.mono ?_; rintro e w7 ⟨rfl, hb7⟩; have HW7 := zA (HW.out.trans (hb7.mono HW.out.size)); clear hb7)
    go_ret2
    exact ⟨rfl, B7.out.trans (HW7.out.mono B7.out.size)⟩
  ·
   have ha : keptAll ps d = true := (keptAll_iff E.out.1).1 (fun j hj => HI.out.2.2 j (by omega))
   have HH5 := zA (show (if hadAll rs c = false then ((0 : Int), (21 : Int)) else ((n : Int), 0)) = (r1, r2) by have H := HH4.out; rw [if_neg (by rw [ha]; decide)] at H; exact H)
   clear ha HH4
   have c1 : decide (i < (ps.length : Int)) = false := decide_eq_false hi
   have B8 := zA (B7.out.trans (HW.out.mono B7.out.size))
   have f21 := (HW.out.cell (World.block_lt_of_cell? _ _ F0.out.2.1)).trans F0.out.2.1
   have f31 := (HW.out.cell (World.block_lt_of_cell? _ _ F0.out.2.2.2.1)).trans F0.out.2.2.2.1
   have c76 := (HW.out.cell (World.block_lt_of_cell? _ _ F0.out.2.2.2.2)).trans F0.out.2.2.2.2
   have F1 := zA (And.intro f21 (And.intro f31 c76))
   clear HI HW B7
   go_wp2_with fail
   go_loopg [70] rs.length (fun kq v70 w' => ∃ i : Int, v70 = .int .i64 i ∧ Aside0 (0 ≤ i ∧ (kq : Int) = rs.length - i ∧ ∀ j : Nat, (j : Int) < i → hadL (rd_L6 c j) (rd_L4 rs j) = true) ∧ Aside0 (Below wr.heap.size wr w'))
   case atStart => exact ⟨0, rfl, ⟨by omega, by omega, fun j hj => by omega⟩, ⟨Below.refl _ _⟩⟩
   case round =>
    clear f21 f31 c76 c1 hi
    obtain ⟨i, rfl, HI, HW⟩ := hrel
    by_cases hi : i < (rs.length : Int)
    ·
     have p := HI.out.1
     have hil : i < (c.length : Int) := by have := E.out.2; omega
     obtain ⟨adp, Ap, cp, ep, hp0, hpl, hpC⟩ := at_L4 HR3.out i p hi
     cases ep
     obtain ⟨add, Ad, cd, ed, hd0, hdl, hdC⟩ := at_L6 HR1.out i p hil
     cases ed
     have Bw := zA (B8.out.trans (HW.out.mono B8.out.size))
     replace hp0 := (Bw.out.cell (World.block_lt_of_cell? w _ hp0)).trans hp0
     replace hd0 := (Bw.out.cell (World.block_lt_of_cell? w _ hd0)).trans hd0
     have g20 := (HW.out.cell (World.block_lt_of_cell? _ _ F1.out.1)).trans F1.out.1
     have g21 := (HW.out.cell (World.block_lt_of_cell? _ _ F1.out.2.1)).trans F1.out.2.1
     have K := zA (pump_bounds_had.calls Ap cp (rd_L4 rs i) Ad cd (rd_L6 c i) _ wr (Kd.C_below hpC Bw.out) hpl (Kd.C_below hdC Bw.out) hdl (if_pos ⟨(HK.out _ (List.mem_append_right _ (mem_L4 p hi))).1, HL.out _ (by rw [HALL.out]; exact List.mem_append_right _ (mem_L6 p hil)), (HK.out _ (List.mem_append_right _ (mem_L4 p hi))).2⟩))
     clear hpC hdC hpl hdl
     have c1 : decide (i < (rs.length : Int)) = true := decide_eq_true hi
     cases hk : hadL (rd_L6 c i) (rd_L4 rs i) with
     | true =>
      rw [hk] at K
      have HK2 := zA hk
      clear hk
      go_wp2_with (go_at_call 96; refine K.out.mono ?_; rintro e w7 ⟨rfl, hb7⟩; have HW7 := zA (HW.out.trans (hb7.mono HW.out.size)); clear hb7)
      have hi2 := HI.out.2.1
      go_roundg (rs.length - (i + 1)).toNat
      case measure => omega
      case rel => exact ⟨i + 1, by first | rfl | simp | (simp only [i64_w]; rw [w64s (by omega) (by have := HS.out; omega)]), ⟨by omega, by omega, fun j hj => by
       by_cases ej : (j : Int) = i
       ·
        rw [ej]; exact HK2.out
       ·
        exact HI.out.2.2 j (by omega)⟩, HW7⟩
     | false =>
      rw [hk] at K
      have ha : hadAll rs c = false := by
       cases ha : hadAll rs c with
       | false => rfl
       | true =>
        have := (hadAll_iff E.out.2).2 ha i.toNat (by omega)
        rw [show ((i.toNat : Nat) : Int) = i by omega, hk] at this
        cases this
      clear hk
      have H := HH5.out
      rw [if_pos ha] at H
      injection H with H1 H2
      subst H1 H2
      clear ha
      go_wp2_with (go_at_call 96; refine K.out.mono ?_; rintro e w7 ⟨rfl, hb7⟩; have HW7 := zA (HW.out.trans (hb7.mono HW.out.size)); clear hb7)
      go_ret2
      exact ⟨rfl, B8.out.trans (HW7.out.mono B8.out.size)⟩
    ·
     have ha : hadAll rs c = true := (hadAll_iff E.out.2).1 (fun j hj => HI.out.2.2 j (by omega))
     have H := HH5.out
     rw [if_neg (by rw [ha]; decide)] at H
     injection H with H1 H2
     subst H1 H2
     have c1 : decide (i < (rs.length : Int)) = false := decide_eq_false hi
     have c77 := (HW.out.cell (World.block_lt_of_cell? _ _ F1.out.2.2)).trans F1.out.2.2
     clear ha
     go_wp2
     go_ret2
     exact ⟨rfl, B8.out.trans (HW.out.mono B8.out.size)⟩
end Go.Proofs.Ythoeindopljmkaa.P
end
