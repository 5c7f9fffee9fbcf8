/- Words and contracts for a claim. -/
import Derived.Test.YthoeindopljmkaaBase2
import Derived.Test.YthoeindopljmkaaProg
section
namespace Go.Proofs.Ythoeindopljmkaa.P
open Go.RowKit Go.Proofs.YthoeindopljmkaaW.PrintWords Go.Proofs.YthoeindopljmkaaW.PrintLast Go.Proofs.YthoeindopljmkaaW.PrintMore
attribute [local go_sem] max2_int min2_int max_two min_two max_three min_three max_four min_four
set_option linter.unusedVariables false
set_option linter.unusedSimpArgs false
def errW : Option Int → Value
  | none => .nilIface
  | some c => .iface 0 (.int .i64 c)
theorem errW_none : errW none = .nilIface := rfl
theorem errW_some (c : Int) : errW (some c) = .iface 0 (.int .i64 c) := rfl
theorem info3 : (Try.prog.info? 3).map (fun i => (i.zero, i.size, i.bytes)) = some (some (.int .i64 0), 1, 8) := by kernel_rfl
theorem info5 : (Try.prog.info? 5).map (fun i => (i.zero, i.size, i.bytes)) = some (some (.int .u8 0), 1, 1) := by kernel_rfl
theorem info22 : (Try.prog.info? 22).map (fun i => (i.zero, i.size, i.bytes)) = some (some (.slice none 0 0), 1, 24) := by kernel_rfl
theorem info30 : (Try.prog.info? 30).map (fun i => (i.zero, i.size, i.bytes)) = some (some (.slice none 0 0), 1, 24) := by kernel_rfl
theorem info71 : (Try.prog.info? 71).map (fun i => (i.zero, i.size, i.bytes)) = some (some (.agg #[(.int .i64 0), (.int .i64 0)]), 2, 16) := by kernel_rfl
structure S71 where
  f0 : Int
  f1 : Int
def z71 : S71 := ⟨(0 : Int), (0 : Int)⟩
def k71 : Kd S71 := Kd.iso (Kd.pair (Kd.int .i64) (Kd.int .i64)) (fun x : S71 => (x.f0, x.f1))
theorem k71_heap : Kd.Heap k71 := Kd.heap_iso _ (Kd.heap_pair (Kd.heap_int .i64) (Kd.heap_int .i64))
theorem k71_open {w : World} {x : S71} {cs : List Value} (h : k71.K w x cs) : cs = [.int .i64 x.f0, .int .i64 x.f1] := by
  obtain ⟨_, _, rfl, rfl, rfl⟩ := h
  exact rfl
theorem k71_openM {w : World} {base : Nat} {ok : Nat → Prop} {x : S71} {cs : List Value} (h : k71.M w base ok x cs) : cs = [.int .i64 x.f0, .int .i64 x.f1] := by
  obtain ⟨_, _, rfl, rfl, rfl⟩ := h
  exact rfl
theorem k71_mkM (w : World) (base : Nat) (ok : Nat → Prop) (x : S71)  : k71.M w base ok x [.int .i64 x.f0, .int .i64 x.f1] := ⟨[.int .i64 x.f0], [.int .i64 x.f1], rfl, rfl, rfl⟩
def rd_T71 (xs : List S71) (i : Int) : S71 := xs.getD i.toNat z71
theorem at_T71 {w : World} {A : Option Addr} {n : Nat} {xs : List S71} (h : Kd.C k71 w A n xs) (i : Int) (h0 : 0 ≤ i) (h1 : i < n) : ∃ ad , A = some ad ∧ w.cell? (ad.add (i.toNat * 2)) = some (.int .i64 (rd_T71 xs i).f0) ∧ w.cell? ⟨(ad.add (i.toNat * 2)).block, (ad.add (i.toNat * 2)).off + 1, none⟩ = some (.int .i64 (rd_T71 xs i).f1) := by
  obtain ⟨ad, c, e, _, hK, hc0⟩ := Kd.C_get h z71 i h0 h1
  have hc : ∀ j u, c[j]? = some u → w.cell? (ad.add (i.toNat * 2 + j)) = some u := hc0
  obtain rfl := k71_open hK
  exact ⟨ad, e, hc 0 _ rfl, by rw [← add_field _ _ 1 (by omega)]; exact hc 1 _ rfl⟩
def rd_L4 (xs : List (List S71)) (i : Int) : (List S71) := xs.getD i.toNat ([] : List S71)
theorem at_L4 {w : World} {A : Option Addr} {n : Nat} {xs : List (List S71)} (h : Kd.C (Kd.slice 71 k71) w A n xs) (i : Int) (h0 : 0 ≤ i) (h1 : i < n) : ∃ ad A0 c0, A = some ad ∧ w.cell? (ad.add i.toNat) = some (.slice A0 (rd_L4 xs i).length c0) ∧ (rd_L4 xs i).length ≤ c0 ∧ k71.C w A0 (rd_L4 xs i).length (rd_L4 xs i) := by
  obtain ⟨ad, c, e, _, hK, hc0⟩ := Kd.C_get h ([] : List S71) i h0 h1
  have hc : ∀ j u, c[j]? = some u → w.cell? (ad.add (i.toNat * 1 + j)) = some u := hc0
  obtain ⟨A0, c0, rfl, l0, g0⟩ := hK
  exact ⟨ad, A0, c0, e, by have hq := hc 0 _ rfl; rwa [Nat.mul_one, Nat.add_zero] at hq, l0, g0⟩
def rd_L6 (xs : List (List Int)) (i : Int) : (List Int) := xs.getD i.toNat ([] : List Int)
theorem at_L6 {w : World} {A : Option Addr} {n : Nat} {xs : List (List Int)} (h : Kd.C (Kd.slice 3 (Kd.int .i64)) w A n xs) (i : Int) (h0 : 0 ≤ i) (h1 : i < n) : ∃ ad A0 c0, A = some ad ∧ w.cell? (ad.add i.toNat) = some (.slice A0 (rd_L6 xs i).length c0) ∧ (rd_L6 xs i).length ≤ c0 ∧ (Kd.int .i64).C w A0 (rd_L6 xs i).length (rd_L6 xs i) := by
  obtain ⟨ad, c, e, _, hK, hc0⟩ := Kd.C_get h ([] : List Int) i h0 h1
  have hc : ∀ j u, c[j]? = some u → w.cell? (ad.add (i.toNat * 1 + j)) = some u := hc0
  obtain ⟨A0, c0, rfl, l0, g0⟩ := hK
  exact ⟨ad, A0, c0, e, by have hq := hc 0 _ rfl; rwa [Nat.mul_one, Nat.add_zero] at hq, l0, g0⟩
def rd_L7 (xs : List (List (List S71))) (i : Int) : (List (List S71)) := xs.getD i.toNat ([] : List (List S71))
theorem at_L7 {w : World} {A : Option Addr} {n : Nat} {xs : List (List (List S71))} (h : Kd.C (Kd.slice 22 (Kd.slice 71 k71)) w A n xs) (i : Int) (h0 : 0 ≤ i) (h1 : i < n) : ∃ ad A0 c0, A = some ad ∧ w.cell? (ad.add i.toNat) = some (.slice A0 (rd_L7 xs i).length c0) ∧ (rd_L7 xs i).length ≤ c0 ∧ (Kd.slice 71 k71).C w A0 (rd_L7 xs i).length (rd_L7 xs i) := by
  obtain ⟨ad, c, e, _, hK, hc0⟩ := Kd.C_get h ([] : List (List S71)) i h0 h1
  have hc : ∀ j u, c[j]? = some u → w.cell? (ad.add (i.toNat * 1 + j)) = some u := hc0
  obtain ⟨A0, c0, rfl, l0, g0⟩ := hK
  exact ⟨ad, A0, c0, e, by have hq := hc 0 _ rfl; rwa [Nat.mul_one, Nat.add_zero] at hq, l0, g0⟩
def rd_L9 (xs : List (List (List Int))) (i : Int) : (List (List Int)) := xs.getD i.toNat ([] : List (List Int))
theorem at_L9 {w : World} {A : Option Addr} {n : Nat} {xs : List (List (List Int))} (h : Kd.C (Kd.slice 30 (Kd.slice 3 (Kd.int .i64))) w A n xs) (i : Int) (h0 : 0 ≤ i) (h1 : i < n) : ∃ ad A0 c0, A = some ad ∧ w.cell? (ad.add i.toNat) = some (.slice A0 (rd_L9 xs i).length c0) ∧ (rd_L9 xs i).length ≤ c0 ∧ (Kd.slice 3 (Kd.int .i64)).C w A0 (rd_L9 xs i).length (rd_L9 xs i) := by
  obtain ⟨ad, c, e, _, hK, hc0⟩ := Kd.C_get h ([] : List (List Int)) i h0 h1
  have hc : ∀ j u, c[j]? = some u → w.cell? (ad.add (i.toNat * 1 + j)) = some u := hc0
  obtain ⟨A0, c0, rfl, l0, g0⟩ := hK
  exact ⟨ad, A0, c0, e, by have hq := hc 0 _ rfl; rwa [Nat.mul_one, Nat.add_zero] at hq, l0, g0⟩
structure S86 where
  f0 : Int
  f1 : Int
def z86 : S86 := ⟨(0 : Int), (0 : Int)⟩
def k86 : Kd S86 := Kd.iso (Kd.pair (Kd.int .u8) (Kd.int .u8)) (fun x : S86 => (x.f0, x.f1))
theorem k86_open {w : World} {x : S86} {cs : List Value} (h : k86.K w x cs) : cs = [.int .u8 x.f0, .int .u8 x.f1] := by
  obtain ⟨_, _, rfl, rfl, rfl⟩ := h
  exact rfl
def rd_T86 (xs : List S86) (i : Int) : S86 := xs.getD i.toNat z86
theorem at_T86 {w : World} {A : Option Addr} {n : Nat} {xs : List S86} (h : Kd.C k86 w A n xs) (i : Int) (h0 : 0 ≤ i) (h1 : i < n) : ∃ ad , A = some ad ∧ w.cell? (ad.add (i.toNat * 2)) = some (.int .u8 (rd_T86 xs i).f0) ∧ w.cell? ⟨(ad.add (i.toNat * 2)).block, (ad.add (i.toNat * 2)).off + 1, none⟩ = some (.int .u8 (rd_T86 xs i).f1) := by
  obtain ⟨ad, c, e, _, hK, hc0⟩ := Kd.C_get h z86 i h0 h1
  have hc : ∀ j u, c[j]? = some u → w.cell? (ad.add (i.toNat * 2 + j)) = some u := hc0
  obtain rfl := k86_open hK
  exact ⟨ad, e, hc 0 _ rfl, by rw [← add_field _ _ 1 (by omega)]; exact hc 1 _ rfl⟩
structure S115 where
  f0 : (List S71)
  f1 : (List Int)
  f2 : (List Int)
def z115 : S115 := ⟨([] : List S71), ([] : List Int), ([] : List Int)⟩
def k115 : Kd S115 := Kd.iso (Kd.pair (Kd.slice 71 k71) (Kd.pair (Kd.slice 3 (Kd.int .i64)) (Kd.slice 3 (Kd.int .i64)))) (fun x : S115 => (x.f0, x.f1, x.f2))
theorem k115_open {w : World} {x : S115} {cs : List Value} (h : k115.K w x cs) : ∃ A0 c0 A1 c1 A2 c2, cs = [.slice A0 x.f0.length c0, .slice A1 x.f1.length c1, .slice A2 x.f2.length c2] ∧ x.f0.length ≤ c0 ∧ k71.C w A0 x.f0.length x.f0 ∧ x.f1.length ≤ c1 ∧ (Kd.int .i64).C w A1 x.f1.length x.f1 ∧ x.f2.length ≤ c2 ∧ (Kd.int .i64).C w A2 x.f2.length x.f2 := by
  obtain ⟨_, _, rfl, ⟨A0, c0, rfl, l0, g0⟩, ⟨_, _, rfl, ⟨A1, c1, rfl, l1, g1⟩, ⟨A2, c2, rfl, l2, g2⟩⟩⟩ := h
  exact ⟨A0, c0, A1, c1, A2, c2, rfl, l0, g0, l1, g1, l2, g2⟩
def rd_T115 (xs : List S115) (i : Int) : S115 := xs.getD i.toNat z115
theorem at_T115 {w : World} {A : Option Addr} {n : Nat} {xs : List S115} (h : Kd.C k115 w A n xs) (i : Int) (h0 : 0 ≤ i) (h1 : i < n) : ∃ ad A0 c0 A1 c1 A2 c2, A = some ad ∧ w.cell? (ad.add (i.toNat * 3)) = some (.slice A0 (rd_T115 xs i).f0.length c0) ∧ w.cell? ⟨(ad.add (i.toNat * 3)).block, (ad.add (i.toNat * 3)).off + 1, none⟩ = some (.slice A1 (rd_T115 xs i).f1.length c1) ∧ w.cell? ⟨(ad.add (i.toNat * 3)).block, (ad.add (i.toNat * 3)).off + 2, none⟩ = some (.slice A2 (rd_T115 xs i).f2.length c2) ∧ (rd_T115 xs i).f0.length ≤ c0 ∧ k71.C w A0 (rd_T115 xs i).f0.length (rd_T115 xs i).f0 ∧ (rd_T115 xs i).f1.length ≤ c1 ∧ (Kd.int .i64).C w A1 (rd_T115 xs i).f1.length (rd_T115 xs i).f1 ∧ (rd_T115 xs i).f2.length ≤ c2 ∧ (Kd.int .i64).C w A2 (rd_T115 xs i).f2.length (rd_T115 xs i).f2 := by
  obtain ⟨ad, c, e, _, hK, hc0⟩ := Kd.C_get h z115 i h0 h1
  have hc : ∀ j u, c[j]? = some u → w.cell? (ad.add (i.toNat * 3 + j)) = some u := hc0
  obtain ⟨A0, c0, A1, c1, A2, c2, rfl, l0, g0, l1, g1, l2, g2⟩ := k115_open hK
  exact ⟨ad, A0, c0, A1, c1, A2, c2, e, hc 0 _ rfl, by rw [← add_field _ _ 1 (by omega)]; exact hc 1 _ rfl, by rw [← add_field _ _ 2 (by omega)]; exact hc 2 _ rfl, l0, g0, l1, g1, l2, g2⟩
end Go.Proofs.Ythoeindopljmkaa.P
end
section
namespace Go.Proofs.Ythoeindopljmkaa.P
open Go.RowKit Go.Proofs.YthoeindopljmkaaW.PrintWords Go.Proofs.YthoeindopljmkaaW.PrintLast Go.Proofs.YthoeindopljmkaaW.PrintMore
attribute [local go_sem] max2_int min2_int max_two min_two max_three min_three max_four min_four
set_option linter.unusedVariables false
set_option linter.unusedSimpArgs false
def pump_between.f (a0 : Int) (a1 : Int) (a2 : Int) : Option (Bool) := if a0 ≤ a1 then (some (decide (a1 ≤ a2))) else (some false)
set_option maxHeartbeats 8000000 in
set_option maxRecDepth 100000 in
theorem pump_between.calls (a0 : Int) (a1 : Int) (a2 : Int) (r : Bool) (w : World) (h : pump_between.f a0 a1 a2 = some r) :
    Calls Try.prog 85 #[.int .i64 a0, .int .i64 a1, .int .i64 a2] w fun e w' => e = .returned (.bool r) ∧ Drawn0 w w' := by
  have H : (if a0 ≤ a1 then (some (decide (a1 ≤ a2))) else (some false)) = some r := h
  clear h
  by_cases c4 : a0 ≤ a1
  · rw [if_pos c4] at H
    have c4b0 : decide (a0 ≤ a1) = true := decide_eq_true c4
    clear c4
    obtain rfl := Option.some.inj H
    go_enter Try.func85, Try.ntmps85
    go_wp2
    go_ret
    exact ⟨by first | rfl | (simp; done) | (simp [*]; done), by repeat (first | exact Drawn0.refl _ | apply Drawn0.step)⟩
  · rw [if_neg c4] at H
    have c4b0 : decide (a0 ≤ a1) = false := decide_eq_false c4
    clear c4
    obtain rfl := Option.some.inj H
    go_enter Try.func85, Try.ntmps85
    go_wp2
    go_ret
    exact ⟨by first | rfl | (simp; done) | (simp [*]; done), by repeat (first | exact Drawn0.refl _ | apply Drawn0.step)⟩
def pump_Bound_good.f (a0_0 : Int) (a0_1 : Int) : Option (Bool) := (pump_between.f 1 a0_0 100).bind fun t706 => (if t706 = true then ((pump_between.f 0 a0_1 1000000).bind fun t707 => (some t707)) else (some false))
set_option maxHeartbeats 8000000 in
set_option maxRecDepth 100000 in
theorem pump_Bound_good.calls (a0_0 : Int) (a0_1 : Int) (r : Bool) (w : World) (h : pump_Bound_good.f a0_0 a0_1 = some r) :
  Calls Try.prog 60 #[.agg #[.int .i64 a0_0, .int .i64 a0_1]] w fun e w' => e = .returned (.bool r) ∧ Below w.heap.size w w' := by
 have hu71 := Try.underlying71
 have HB := Aside0.mk (Below.refl w.heap.size w)
 have H : ((pump_between.f 1 a0_0 100).bind fun t706 => (if t706 = true then ((pump_between.f 0 a0_1 1000000).bind fun t707 => (some t707)) else (some false))) = some r := h
 clear h
 replace H := Option.bind_eq_some_iff.mp H
 obtain ⟨t706, A20, H⟩ := H
 replace H : (if t706 = true then ((pump_between.f 0 a0_1 1000000).bind fun t707 => (some t707)) else (some false)) = some r := H
 have A2 := Aside0.mk A20
 clear A20
 by_cases c3 : t706 = true
 ·
  subst c3
  have H1 : ((pump_between.f 0 a0_1 1000000).bind fun t707 => (some t707)) = some r := by rw [if_pos rfl] at H; exact H
  clear H
  have H := H1
  clear H1
  replace H := Option.bind_eq_some_iff.mp H
  obtain ⟨t707, A40, H⟩ := H
  replace H : (some t707) = some r := H
  have A4 := Aside0.mk A40
  clear A40
  obtain rfl := Option.some.inj H
  go_enter Try.func60, Try.ntmps60
  go_wp2_with (first | ((with_reducible refine gate_dst (N := 1) rfl ?_); refine box_event ?hg (N := 1) ?hd (cs := #[.int .i64 a0_0, .int .i64 a0_1]) (t := 71) ?hr ?_; (case hd => rfl); (case hg => rfl); (case hr => first | (go_simp; done) | (go_simp; rfl)); intro gb705 hg w5 hbox hb; have n0_ := Aside0.mk (below_step (zqA HB.out) hb); have n1_ := Aside0.mk (hbox); have n2_ := Aside0.mk ((by rw [hg]; exact (below_size (zqA HB.out)) : w.heap.size ≤ gb705)); have n3_ := Aside0.mk ((by rw [hg]; exact (below_size (zqA HB.out)) : w.heap.size ≤ gb705)); clear HB; have HB := n0_; have BK705 := n1_; have GW705 := n2_; have GE705 := n3_; clear n0_ n1_ n2_ n3_; clear hb hbox hg; have hcz6_0 : w5.cell? ⟨gb705, 0, none⟩ = some (.int .i64 a0_0) := (blk_cell BK705.out 0).trans rfl; have hcz6_1 : w5.cell? ⟨gb705, 1, none⟩ = some (.int .i64 a0_1) := (blk_cell BK705.out 1).trans rfl; have hfz6_0 := blk_frozen BK705.out 0; have hfz6_1 := blk_frozen BK705.out 1) | ((with_reducible refine gate_callee (f := 85) rfl ?_); refine goesL_ (some 5) rfl rfl Try.func85 (by kernel_rfl) rfl #[.int .i64 1, .int .i64 a0_0, .int .i64 100] rfl (by (try simp only [List.map_toArray, List.map_cons, List.map_nil]); first | done | rfl | (simp only [List.length_drop, List.length_take]; rfl)) ?_; (with_reducible refine (pump_between.calls 1 a0_0 100 true _ A2.out).mono ?_); rintro e w' ⟨rfl, ⟨nd, rfl⟩⟩; refine ⟨_, rfl, ?_⟩) | (go_at_call 85; (with_reducible refine (pump_between.calls 0 a0_1 1000000 t707 _ A4.out).mono ?_); rintro e w' ⟨rfl, ⟨nd, rfl⟩⟩))
  go_ret
  exact ⟨by first | rfl | (simp [errW_none, errW_some] <;> rfl) | (simp [*, errW_none, errW_some] <;> rfl), zqG HB.out GE705.out⟩
 ·
  replace c3 := Bool.eq_false_iff.mpr c3
  subst c3
  have H1 : (some false) = some r := by rw [if_neg (show ¬ (false = true) by decide)] at H; exact H
  clear H
  have H := H1
  clear H1
  obtain rfl := Option.some.inj H
  go_enter Try.func60, Try.ntmps60
  go_wp2_with (first | ((with_reducible refine gate_dst (N := 1) rfl ?_); refine box_event ?hg (N := 1) ?hd (cs := #[.int .i64 a0_0, .int .i64 a0_1]) (t := 71) ?hr ?_; (case hd => rfl); (case hg => rfl); (case hr => first | (go_simp; done) | (go_simp; rfl)); intro gb705 hg w7 hbox hb; have n0_ := Aside0.mk (below_step (zqA HB.out) hb); have n1_ := Aside0.mk (hbox); have n2_ := Aside0.mk ((by rw [hg]; exact (below_size (zqA HB.out)) : w.heap.size ≤ gb705)); have n3_ := Aside0.mk ((by rw [hg]; exact (below_size (zqA HB.out)) : w.heap.size ≤ gb705)); clear HB; have HB := n0_; have BK705 := n1_; have GW705 := n2_; have GE705 := n3_; clear n0_ n1_ n2_ n3_; clear hb hbox hg; have hcz8_0 : w7.cell? ⟨gb705, 0, none⟩ = some (.int .i64 a0_0) := (blk_cell BK705.out 0).trans rfl; have hcz8_1 : w7.cell? ⟨gb705, 1, none⟩ = some (.int .i64 a0_1) := (blk_cell BK705.out 1).trans rfl; have hfz8_0 := blk_frozen BK705.out 0; have hfz8_1 := blk_frozen BK705.out 1) | ((with_reducible refine gate_callee (f := 85) rfl ?_); refine goesL_ (some 5) rfl rfl Try.func85 (by kernel_rfl) rfl #[.int .i64 1, .int .i64 a0_0, .int .i64 100] rfl (by (try simp only [List.map_toArray, List.map_cons, List.map_nil]); first | done | rfl | (simp only [List.length_drop, List.length_take]; rfl)) ?_; (with_reducible refine (pump_between.calls 1 a0_0 100 false _ A2.out).mono ?_); rintro e w' ⟨rfl, ⟨nd, rfl⟩⟩; refine ⟨_, rfl, ?_⟩))
  go_ret
  exact ⟨by first | rfl | (simp [errW_none, errW_some] <;> rfl) | (simp [*, errW_none, errW_some] <;> rfl), zqG HB.out GE705.out⟩
def pump_total.l0 : Nat → Int → List Int → Int → Int → Option (Int)
  | 0, _, _, _, _ => none
  | k + 1, x3, x6, x7, x8 => if x8 < x7 then (if 0 ≤ x8 then (if x8 < (x6.length : Int) then (pump_total.l0 k (wrap64 (x3 + (rd x6 x8))) x6 x7 (wrap64 (x8 + 1))) else (none)) else (none)) else (some x3)
def pump_total.f (k : Nat) (l0 : List Int) : Option (Int) := pump_total.l0 k 0 l0 (l0.length : Int) 0
set_option maxHeartbeats 8000000 in
set_option maxRecDepth 100000 in
theorem pump_total.calls (k : Nat) (A0 : Option Addr) (c0 : Nat) (l0 : List Int) (r : Int) (w : World) (hr0 : Kd.C (Kd.int .i64) w A0 l0.length l0) (hc0 : l0.length ≤ c0) (h : pump_total.f k l0 = some r) :
  Calls Try.prog 79 #[.slice A0 l0.length c0] w fun e w' => e = .returned (.int .i64 r) ∧ Drawn0 w w' := by
 have HR0 := Aside0.mk hr0
 have HC0 := Aside0.mk hc0
 clear hr0 hc0
 have H : (pump_total.l0 k 0 l0 (l0.length : Int) 0) = some r := h
 clear h
 have H' := Aside0.mk H
 clear H
 go_enter Try.func79, Try.ntmps79
 go_wp2
 go_loopg [3, 8] k (fun kq v3 v8 w' => ∃ (x3_1 : Int) (x8_1 : Int), v3 = .int .i64 x3_1 ∧ v8 = .int .i64 x8_1 ∧ Aside0 (pump_total.l0 kq x3_1 l0 (l0.length : Int) x8_1 = some r) ∧ Aside0 (kq ≤ k) ∧ Drawn0 w w')
 case atStart => exact ⟨(0), (0), (by first | rfl | (simp; done) | (simp [*]; done)), (by first | rfl | (simp; done) | (simp [*]; done)), H', ⟨Nat.le_refl _⟩, by repeat (first | exact Drawn0.refl _ | apply Drawn0.step)⟩
 case round =>
  clear H'
  obtain ⟨x3_1, x8_1, rfl, rfl, HA, HK1, ⟨m1, rfl⟩⟩ := hrel
  cases gk with
  | zero => exact absurd HA.out (by simp [pump_total.l0])
  | succ k1 =>
   have H := HA.out
   clear HA
   simp only [pump_total.l0] at H
   by_cases c2 : x8_1 < (l0.length : Int)
   ·
    rw [if_pos c2] at H
    have c2b0 : decide (x8_1 < (l0.length : Int)) = true := decide_eq_true c2
    clear c2
    by_cases c3 : 0 ≤ x8_1
    ·
     rw [if_pos c3] at H
     have c3b0 : decide (0 ≤ x8_1) = true := decide_eq_true c3
     clear c3
     by_cases c4 : x8_1 < (l0.length : Int)
     ·
      rw [if_pos c4] at H
      have c4b0 : decide (x8_1 < (l0.length : Int)) = true := decide_eq_true c4
      clear c4
      have H' := Aside0.mk H
      clear H
      have p708 : 0 ≤ (x8_1 : Int) := of_decide_eq_true (zqD)
      have q708 : x8_1 < (l0.length : Int) := of_decide_eq_true (zqD)
      obtain ⟨ad708, e708, hx708_0⟩ := Kd.at_int HR0.out x8_1 p708 q708
      cases e708
      replace p708 := eq_true p708
      replace q708 := eq_true q708
      go_wp2
      go_roundg k1
      case measure => have := HK1.out; omega
      case rel => exact ⟨(wrap64 (x3_1 + (rd l0 x8_1))), (wrap64 (x8_1 + 1)), (by first | rfl | (simp; done) | (simp [*]; done)), (by first | rfl | (simp; done) | (simp [*]; done)), H', ⟨by have := HK1.out; omega⟩, by repeat (first | exact Drawn0.refl _ | apply Drawn0.step)⟩
     ·
      rw [if_neg c4] at H
      exact absurd H (by simp)
    ·
     rw [if_neg c3] at H
     exact absurd H (by simp)
   ·
    rw [if_neg c2] at H
    have c2b0 : decide (x8_1 < (l0.length : Int)) = false := decide_eq_false c2
    clear c2
    obtain rfl := Option.some.inj H
    go_wp2
    go_ret
    exact ⟨by first | rfl | (simp; done) | (simp [*]; done), by repeat (first | exact Drawn0.refl _ | apply Drawn0.step)⟩
def pump_bounds_most.l0 : Nat → Int → Int → Int → List (S71) → Int → Int → List Int → List Int → Option (Int × Int)
  | 0, _, _, _, _, _, _, _, _ => none
  | k + 1, x4, x5, x6, x13, x14, x15, x710000, x710001 => if x15 < x14 then (if 0 ≤ x15 then (if x15 < (x13.length : Int) then (if 0 ≤ (mx 0 (wrap64 (x6 - ((rd_T71 x13 x15).f0)))) then (if (mx 0 (wrap64 (x6 - ((rd_T71 x13 x15).f0)))) < (x710000.length : Int) then (if x15 = 0 then (pump_bounds_most.l0 k (wrap64 ((rd x710000 (mx 0 (wrap64 (x6 - ((rd_T71 x13 x15).f0))))) + ((rd_T71 x13 x15).f1))) x15 x6 x13 x14 (wrap64 (x15 + 1)) x710000 x710001) else (if (wrap64 ((rd x710000 (mx 0 (wrap64 (x6 - ((rd_T71 x13 x15).f0))))) + ((rd_T71 x13 x15).f1))) < x4 then (pump_bounds_most.l0 k (wrap64 ((rd x710000 (mx 0 (wrap64 (x6 - ((rd_T71 x13 x15).f0))))) + ((rd_T71 x13 x15).f1))) x15 x6 x13 x14 (wrap64 (x15 + 1)) x710000 x710001) else (pump_bounds_most.l0 k x4 x5 x6 x13 x14 (wrap64 (x15 + 1)) x710000 x710001))) else (none)) else (none)) else (none)) else (none)) else (some (x4, x5))
def pump_bounds_most.f (k : Nat) (l0 : List (S71)) (l1_0 : List Int) (l1_1 : List Int) : Option (Int × Int) := pump_bounds_most.l0 k 0 0 (l1_0.length : Int) l0 (l0.length : Int) 0 l1_0 l1_1
set_option maxHeartbeats 8000000 in
set_option maxRecDepth 100000 in
theorem pump_bounds_most.calls (k : Nat) (A0 : Option Addr) (c0 : Nat) (l0 : List (S71)) (A1_0 : Option Addr) (c1_0 : Nat) (l1_0 : List Int) (A1_1 : Option Addr) (c1_1 : Nat) (l1_1 : List Int) (r1 : Int) (r2 : Int) (w : World) (hr0 : Kd.C k71 w A0 l0.length l0) (hc0 : l0.length ≤ c0) (hr1_0 : Kd.C (Kd.int .i64) w A1_0 l1_0.length l1_0) (hc1_0 : l1_0.length ≤ c1_0) (hr1_1 : Kd.C (Kd.int .i64) w A1_1 l1_1.length l1_1) (hc1_1 : l1_1.length ≤ c1_1) (h : pump_bounds_most.f k l0 l1_0 l1_1 = some (r1, r2)) :
  Calls Try.prog 53 #[.slice A0 l0.length c0, .agg #[.slice A1_0 l1_0.length c1_0, .slice A1_1 l1_1.length c1_1]] w fun e w' => e = .returned (.tuple #[.int .i64 r1, .int .i64 r2]) ∧ Below w.heap.size w w' := by
 have hu107 := Try.underlying107
 have hu71 := Try.underlying71
 have HR0 := Aside0.mk hr0
 have HC0 := Aside0.mk hc0
 clear hr0 hc0
 have HR1_0 := Aside0.mk hr1_0
 have HC1_0 := Aside0.mk hc1_0
 clear hr1_0 hc1_0
 have HR1_1 := Aside0.mk hr1_1
 have HC1_1 := Aside0.mk hc1_1
 clear hr1_1 hc1_1
 have HB := Aside0.mk (Below.refl w.heap.size w)
 have H : (pump_bounds_most.l0 k 0 0 (l1_0.length : Int) l0 (l0.length : Int) 0 l1_0 l1_1) = some (r1, r2) := h
 clear h
 have H' := Aside0.mk H
 clear H
 go_enter Try.func53, Try.ntmps53
 go_wp2_with (first | ((with_reducible refine gate_dst (N := 3) rfl ?_); refine box_event ?hg (N := 3) ?hd (cs := #[.slice A1_0 l1_0.length c1_0, .slice A1_1 l1_1.length c1_1]) (t := 107) ?hr ?_; (case hd => rfl); (case hg => rfl); (case hr => first | (go_simp; done) | (go_simp; rfl)); intro gb709 hg w3 hbox hb; have n0_ := Aside0.mk (below_step (zqA HB.out) hb); have n1_ := Aside0.mk (hbox); have n2_ := Aside0.mk ((by rw [hg]; exact (below_size (zqA HB.out)) : w.heap.size ≤ gb709)); have n3_ := Aside0.mk ((by rw [hg]; exact (below_size (zqA HB.out)) : w.heap.size ≤ gb709)); clear HB; have HB := n0_; have BK709 := n1_; have GW709 := n2_; have GE709 := n3_; clear n0_ n1_ n2_ n3_; clear hb hbox hg; have hcz4_0 : w3.cell? ⟨gb709, 0, none⟩ = some (.slice A1_0 l1_0.length c1_0) := (blk_cell BK709.out 0).trans rfl; have hcz4_1 : w3.cell? ⟨gb709, 1, none⟩ = some (.slice A1_1 l1_1.length c1_1) := (blk_cell BK709.out 1).trans rfl; have hfz4_0 := blk_frozen BK709.out 0; have hfz4_1 := blk_frozen BK709.out 1))
 repeat (go_quiet (first | ((with_reducible refine gate_dst (N := 3) rfl ?_); refine box_event ?hg (N := 3) ?hd (cs := #[.slice A1_0 l1_0.length c1_0, .slice A1_1 l1_1.length c1_1]) (t := 107) ?hr ?_; (case hd => rfl); (case hg => rfl); (case hr => first | (go_simp; done) | (go_simp; rfl)); intro gb709 hg w3 hbox hb; have n0_ := Aside0.mk (below_step (zqA HB.out) hb); have n1_ := Aside0.mk (hbox); have n2_ := Aside0.mk ((by rw [hg]; exact (below_size (zqA HB.out)) : w.heap.size ≤ gb709)); have n3_ := Aside0.mk ((by rw [hg]; exact (below_size (zqA HB.out)) : w.heap.size ≤ gb709)); clear HB; have HB := n0_; have BK709 := n1_; have GW709 := n2_; have GE709 := n3_; clear n0_ n1_ n2_ n3_; clear hb hbox hg; have hcz4_0 : w3.cell? ⟨gb709, 0, none⟩ = some (.slice A1_0 l1_0.length c1_0) := (blk_cell BK709.out 0).trans rfl; have hcz4_1 : w3.cell? ⟨gb709, 1, none⟩ = some (.slice A1_1 l1_1.length c1_1) := (blk_cell BK709.out 1).trans rfl; have hfz4_0 := blk_frozen BK709.out 0; have hfz4_1 := blk_frozen BK709.out 1)); try go_wp2_with (first | ((with_reducible refine gate_dst (N := 3) rfl ?_); refine box_event ?hg (N := 3) ?hd (cs := #[.slice A1_0 l1_0.length c1_0, .slice A1_1 l1_1.length c1_1]) (t := 107) ?hr ?_; (case hd => rfl); (case hg => rfl); (case hr => first | (go_simp; done) | (go_simp; rfl)); intro gb709 hg w3 hbox hb; have n0_ := Aside0.mk (below_step (zqA HB.out) hb); have n1_ := Aside0.mk (hbox); have n2_ := Aside0.mk ((by rw [hg]; exact (below_size (zqA HB.out)) : w.heap.size ≤ gb709)); have n3_ := Aside0.mk ((by rw [hg]; exact (below_size (zqA HB.out)) : w.heap.size ≤ gb709)); clear HB; have HB := n0_; have BK709 := n1_; have GW709 := n2_; have GE709 := n3_; clear n0_ n1_ n2_ n3_; clear hb hbox hg; have hcz4_0 : w3.cell? ⟨gb709, 0, none⟩ = some (.slice A1_0 l1_0.length c1_0) := (blk_cell BK709.out 0).trans rfl; have hcz4_1 : w3.cell? ⟨gb709, 1, none⟩ = some (.slice A1_1 l1_1.length c1_1) := (blk_cell BK709.out 1).trans rfl; have hfz4_0 := blk_frozen BK709.out 0; have hfz4_1 := blk_frozen BK709.out 1)))
 go_loopg [4, 5, 15] k (fun kq v4 v5 v15 w' => ∃ (x4_1 : Int) (x5_1 : Int) (x15_1 : Int), v4 = .int .i64 x4_1 ∧ v5 = .int .i64 x5_1 ∧ v15 = .int .i64 x15_1 ∧ Aside0 (pump_bounds_most.l0 kq x4_1 x5_1 (l1_0.length : Int) l0 (l0.length : Int) x15_1 l1_0 l1_1 = some (r1, r2)) ∧ Aside0 (kq ≤ k) ∧ Aside0 (w'.heap[gb709]? = some (.cells #[(.slice A1_0 l1_0.length c1_0), (.slice A1_1 l1_1.length c1_1)] 107 (0, 0))) ∧ Aside0 (Below w.heap.size w w'))
 case atStart => exact ⟨(0), (0), (0), (by first | rfl | (simp; done) | (simp [*]; done)), (by first | rfl | (simp; done) | (simp [*]; done)), (by first | rfl | (simp; done) | (simp [*]; done)), H', ⟨Nat.le_refl _⟩, ⟨zqB BK709.out⟩, ⟨zqG HB.out GE709.out⟩⟩
 case round =>
  clear H'
  try clear c1
  try clear p2
  try clear hcz4_0
  try clear hcz4_1
  try clear hfz4_0
  try clear hfz4_1
  obtain ⟨x4_1, x5_1, x15_1, rfl, rfl, rfl, HA, HK1, BK709, HB⟩ := hrel
  cases gk with
  | zero => exact absurd HA.out (by simp [pump_bounds_most.l0])
  | succ k1 =>
   have H := HA.out
   clear HA
   simp only [pump_bounds_most.l0] at H
   by_cases c5 : x15_1 < (l0.length : Int)
   ·
    rw [if_pos c5] at H
    have c5b0 : decide (x15_1 < (l0.length : Int)) = true := decide_eq_true c5
    clear c5
    by_cases c6 : 0 ≤ x15_1
    ·
     rw [if_pos c6] at H
     have c6b0 : decide (0 ≤ x15_1) = true := decide_eq_true c6
     clear c6
     by_cases c7 : x15_1 < (l0.length : Int)
     ·
      rw [if_pos c7] at H
      have c7b0 : decide (x15_1 < (l0.length : Int)) = true := decide_eq_true c7
      clear c7
      obtain ⟨ji8, hji8⟩ : ∃ j_ : Int, (mx 0 (wrap64 ((l1_0.length : Int) - ((rd_T71 l0 x15_1).f0)))) = j_ := ⟨_, rfl⟩
      replace H : (if 0 ≤ (ji8) then (if (ji8) < (l1_0.length : Int) then (if x15_1 = 0 then (pump_bounds_most.l0 k1 (wrap64 ((rd l1_0 (ji8)) + ((rd_T71 l0 x15_1).f1))) x15_1 (l1_0.length : Int) l0 (l0.length : Int) (wrap64 (x15_1 + 1)) l1_0 l1_1) else (if (wrap64 ((rd l1_0 (ji8)) + ((rd_T71 l0 x15_1).f1))) < x4_1 then (pump_bounds_most.l0 k1 (wrap64 ((rd l1_0 (ji8)) + ((rd_T71 l0 x15_1).f1))) x15_1 (l1_0.length : Int) l0 (l0.length : Int) (wrap64 (x15_1 + 1)) l1_0 l1_1) else (pump_bounds_most.l0 k1 x4_1 x5_1 (l1_0.length : Int) l0 (l0.length : Int) (wrap64 (x15_1 + 1)) l1_0 l1_1))) else (none)) else (none)) = some (r1, r2) := by first | (rw [hji8] at H; exact H) | (simp only [hji8] at H ⊢; exact H)
      have hji8_ : (if 0 < (wrap64 ((l1_0.length : Int) - ((rd_T71 l0 x15_1).f0))) then (wrap64 ((l1_0.length : Int) - ((rd_T71 l0 x15_1).f0))) else 0) = ji8 := hji8
      by_cases c9 : 0 ≤ (ji8)
      ·
       rw [if_pos c9] at H
       have c9b0 : decide (0 ≤ (ji8)) = true := decide_eq_true c9
       clear c9
       by_cases c10 : (ji8) < (l1_0.length : Int)
       ·
        rw [if_pos c10] at H
        have c10b0 : decide ((ji8) < (l1_0.length : Int)) = true := decide_eq_true c10
        clear c10
        by_cases c11 : x15_1 = 0
        ·
         rw [if_pos c11] at H
         have c11b0 : (x15_1 == 0) = true := beq_iff_eq.mpr c11
         have c11b1 : (x15_1 != 0) = false := bne_eq_false_iff_eq.mpr c11
         clear c11
         have H' := Aside0.mk H
         clear H
         have p710 : 0 ≤ (x15_1 : Int) := of_decide_eq_true (zqD)
         have q710 : x15_1 < (l0.length : Int) := of_decide_eq_true (zqD)
         obtain ⟨ad710, e710, hx710_0, hx710_1⟩ := at_T71 HR0.out x15_1 p710 q710
         cases e710
         replace hx710_0 := (HB.out.cell (World.block_lt_of_cell? w _ hx710_0)).trans hx710_0
         replace hx710_1 := (HB.out.cell (World.block_lt_of_cell? w _ hx710_1)).trans hx710_1
         replace p710 := eq_true p710
         replace q710 := eq_true q710
         go_wp2_with (first | ((with_reducible refine gate_dst (N := 8) rfl ?_); refine box_event ?hg (N := 8) ?hd (cs := #[.int .i64 0, .int .i64 0]) (t := 71) ?hr ?_; (case hd => rfl); (case hg => rfl); (case hr => first | (go_simp; done) | (go_simp; rfl)); intro gb711 hg w12 hbox hb; have n0_ := Aside0.mk (blk_below (g := gb709) (o := .cells #[.slice A1_0 l1_0.length c1_0, .slice A1_1 l1_1.length c1_1] 107 (0, 0)) (zqB BK709.out) hb); have n1_ := Aside0.mk (below_step (zqG HB.out GE709.out) hb); have n2_ := Aside0.mk (hbox); have n3_ := Aside0.mk ((by rw [hg]; exact (below_size (zqG HB.out GE709.out)) : w.heap.size ≤ gb711)); have n4_ := Aside0.mk ((by rw [hg]; exact (below_size (zqG HB.out GE709.out)) : w.heap.size ≤ gb711)); have n5_ := Aside0.mk ((by rw [hg]; exact Nat.ne_of_lt (blk_lt (g := gb709) (o := .cells #[.slice A1_0 l1_0.length c1_0, .slice A1_1 l1_1.length c1_1] 107 (0, 0)) (zqB BK709.out)) : gb709 ≠ gb711)); have n6_ := Aside0.mk ((by rw [hg]; exact Nat.ne_of_gt (blk_lt (g := gb709) (o := .cells #[.slice A1_0 l1_0.length c1_0, .slice A1_1 l1_1.length c1_1] 107 (0, 0)) (zqB BK709.out)) : gb711 ≠ gb709)); clear BK709; clear HB; have BK709 := n0_; have HB := n1_; have BK711 := n2_; have GW711 := n3_; have GE711 := n4_; have NB709_711 := n5_; have NB711_709 := n6_; clear n0_ n1_ n2_ n3_ n4_ n5_ n6_; clear hb hbox hg; have hnb13 := NB711_709.out; have hnc13 := NB709_711.out; have hcz14_0 : w12.cell? ⟨gb711, 0, none⟩ = some (.int .i64 0) := (blk_cell BK711.out 0).trans rfl; have hcz14_1 : w12.cell? ⟨gb711, 1, none⟩ = some (.int .i64 0) := (blk_cell BK711.out 1).trans rfl; have hfz14_0 := blk_frozen BK711.out 0; have hfz14_1 := blk_frozen BK711.out 1; have hcz15_0 : w12.cell? ⟨gb709, 0, none⟩ = some (.slice A1_0 l1_0.length c1_0) := (blk_cell BK709.out 0).trans rfl; have hcz15_1 : w12.cell? ⟨gb709, 1, none⟩ = some (.slice A1_1 l1_1.length c1_1) := (blk_cell BK709.out 1).trans rfl; have hfz15_0 := blk_frozen BK709.out 0; have hfz15_1 := blk_frozen BK709.out 1; have p712 : 0 ≤ ((ji8) : Int) := of_decide_eq_true (zqD); have q712 : (ji8) < (l1_0.length : Int) := of_decide_eq_true (zqD); obtain ⟨ad712, e712, hx712_0⟩ := Kd.at_int HR1_0.out (ji8) p712 q712; cases e712; have hn712_0 : ad712.block ≠ gb711 := Nat.ne_of_lt (Nat.lt_of_lt_of_le (by have := World.block_lt_of_cell? _ _ hx712_0; first | rwa [add_block] at this | exact this) GW711.out); have hn712_1 : ad712.block ≠ gb711 := Nat.ne_of_lt (Nat.lt_of_lt_of_le (by have := World.block_lt_of_cell? _ _ hx712_0; first | rwa [add_block] at this | exact this) GW711.out); replace hx712_0 := (HB.out.cell (World.block_lt_of_cell? w _ hx712_0)).trans hx712_0; replace hx712_0 := (cell_far (p := ⟨gb711, 0, none⟩) (by first | (rw [add_block]; exact hn712_0) | (show (Addr.add _ _).block ≠ _; rw [add_block]; exact hn712_0) | exact hn712_0) (.int .i64 ((rd_T71 l0 x15_1).f0))).trans hx712_0; replace hx712_0 := (cell_far (p := ⟨gb711, 1, none⟩) (by first | (rw [add_block]; exact hn712_1) | (show (Addr.add _ _).block ≠ _; rw [add_block]; exact hn712_1) | exact hn712_1) (.int .i64 ((rd_T71 l0 x15_1).f1))).trans hx712_0; (try have hy712_0 := fun (n_ : Nat) => (show ((((w12.drewN n_).setCell ⟨gb711, 0, none⟩ (.int .i64 ((rd_T71 l0 x15_1).f0))).setCell ⟨gb711, 1, none⟩ (.int .i64 ((rd_T71 l0 x15_1).f1)))).cell? _ = some _ from hx712_0)); clear hn712_0; clear hn712_1; replace p712 := eq_true p712; replace q712 := eq_true q712))
         repeat (go_quiet (first | ((with_reducible refine gate_dst (N := 8) rfl ?_); refine box_event ?hg (N := 8) ?hd (cs := #[.int .i64 0, .int .i64 0]) (t := 71) ?hr ?_; (case hd => rfl); (case hg => rfl); (case hr => first | (go_simp; done) | (go_simp; rfl)); intro gb711 hg w12 hbox hb; have n0_ := Aside0.mk (blk_below (g := gb709) (o := .cells #[.slice A1_0 l1_0.length c1_0, .slice A1_1 l1_1.length c1_1] 107 (0, 0)) (zqB BK709.out) hb); have n1_ := Aside0.mk (below_step (zqG HB.out GE709.out) hb); have n2_ := Aside0.mk (hbox); have n3_ := Aside0.mk ((by rw [hg]; exact (below_size (zqG HB.out GE709.out)) : w.heap.size ≤ gb711)); have n4_ := Aside0.mk ((by rw [hg]; exact (below_size (zqG HB.out GE709.out)) : w.heap.size ≤ gb711)); have n5_ := Aside0.mk ((by rw [hg]; exact Nat.ne_of_lt (blk_lt (g := gb709) (o := .cells #[.slice A1_0 l1_0.length c1_0, .slice A1_1 l1_1.length c1_1] 107 (0, 0)) (zqB BK709.out)) : gb709 ≠ gb711)); have n6_ := Aside0.mk ((by rw [hg]; exact Nat.ne_of_gt (blk_lt (g := gb709) (o := .cells #[.slice A1_0 l1_0.length c1_0, .slice A1_1 l1_1.length c1_1] 107 (0, 0)) (zqB BK709.out)) : gb711 ≠ gb709)); clear BK709; clear HB; have BK709 := n0_; have HB := n1_; have BK711 := n2_; have GW711 := n3_; have GE711 := n4_; have NB709_711 := n5_; have NB711_709 := n6_; clear n0_ n1_ n2_ n3_ n4_ n5_ n6_; clear hb hbox hg; have hnb13 := NB711_709.out; have hnc13 := NB709_711.out; have hcz14_0 : w12.cell? ⟨gb711, 0, none⟩ = some (.int .i64 0) := (blk_cell BK711.out 0).trans rfl; have hcz14_1 : w12.cell? ⟨gb711, 1, none⟩ = some (.int .i64 0) := (blk_cell BK711.out 1).trans rfl; have hfz14_0 := blk_frozen BK711.out 0; have hfz14_1 := blk_frozen BK711.out 1; have hcz15_0 : w12.cell? ⟨gb709, 0, none⟩ = some (.slice A1_0 l1_0.length c1_0) := (blk_cell BK709.out 0).trans rfl; have hcz15_1 : w12.cell? ⟨gb709, 1, none⟩ = some (.slice A1_1 l1_1.length c1_1) := (blk_cell BK709.out 1).trans rfl; have hfz15_0 := blk_frozen BK709.out 0; have hfz15_1 := blk_frozen BK709.out 1; have p712 : 0 ≤ ((ji8) : Int) := of_decide_eq_true (zqD); have q712 : (ji8) < (l1_0.length : Int) := of_decide_eq_true (zqD); obtain ⟨ad712, e712, hx712_0⟩ := Kd.at_int HR1_0.out (ji8) p712 q712; cases e712; have hn712_0 : ad712.block ≠ gb711 := Nat.ne_of_lt (Nat.lt_of_lt_of_le (by have := World.block_lt_of_cell? _ _ hx712_0; first | rwa [add_block] at this | exact this) GW711.out); have hn712_1 : ad712.block ≠ gb711 := Nat.ne_of_lt (Nat.lt_of_lt_of_le (by have := World.block_lt_of_cell? _ _ hx712_0; first | rwa [add_block] at this | exact this) GW711.out); replace hx712_0 := (HB.out.cell (World.block_lt_of_cell? w _ hx712_0)).trans hx712_0; replace hx712_0 := (cell_far (p := ⟨gb711, 0, none⟩) (by first | (rw [add_block]; exact hn712_0) | (show (Addr.add _ _).block ≠ _; rw [add_block]; exact hn712_0) | exact hn712_0) (.int .i64 ((rd_T71 l0 x15_1).f0))).trans hx712_0; replace hx712_0 := (cell_far (p := ⟨gb711, 1, none⟩) (by first | (rw [add_block]; exact hn712_1) | (show (Addr.add _ _).block ≠ _; rw [add_block]; exact hn712_1) | exact hn712_1) (.int .i64 ((rd_T71 l0 x15_1).f1))).trans hx712_0; (try have hy712_0 := fun (n_ : Nat) => (show ((((w12.drewN n_).setCell ⟨gb711, 0, none⟩ (.int .i64 ((rd_T71 l0 x15_1).f0))).setCell ⟨gb711, 1, none⟩ (.int .i64 ((rd_T71 l0 x15_1).f1)))).cell? _ = some _ from hx712_0)); clear hn712_0; clear hn712_1; replace p712 := eq_true p712; replace q712 := eq_true q712)); try go_wp2_with (first | ((with_reducible refine gate_dst (N := 8) rfl ?_); refine box_event ?hg (N := 8) ?hd (cs := #[.int .i64 0, .int .i64 0]) (t := 71) ?hr ?_; (case hd => rfl); (case hg => rfl); (case hr => first | (go_simp; done) | (go_simp; rfl)); intro gb711 hg w12 hbox hb; have n0_ := Aside0.mk (blk_below (g := gb709) (o := .cells #[.slice A1_0 l1_0.length c1_0, .slice A1_1 l1_1.length c1_1] 107 (0, 0)) (zqB BK709.out) hb); have n1_ := Aside0.mk (below_step (zqG HB.out GE709.out) hb); have n2_ := Aside0.mk (hbox); have n3_ := Aside0.mk ((by rw [hg]; exact (below_size (zqG HB.out GE709.out)) : w.heap.size ≤ gb711)); have n4_ := Aside0.mk ((by rw [hg]; exact (below_size (zqG HB.out GE709.out)) : w.heap.size ≤ gb711)); have n5_ := Aside0.mk ((by rw [hg]; exact Nat.ne_of_lt (blk_lt (g := gb709) (o := .cells #[.slice A1_0 l1_0.length c1_0, .slice A1_1 l1_1.length c1_1] 107 (0, 0)) (zqB BK709.out)) : gb709 ≠ gb711)); have n6_ := Aside0.mk ((by rw [hg]; exact Nat.ne_of_gt (blk_lt (g := gb709) (o := .cells #[.slice A1_0 l1_0.length c1_0, .slice A1_1 l1_1.length c1_1] 107 (0, 0)) (zqB BK709.out)) : gb711 ≠ gb709)); clear BK709; clear HB; have BK709 := n0_; have HB := n1_; have BK711 := n2_; have GW711 := n3_; have GE711 := n4_; have NB709_711 := n5_; have NB711_709 := n6_; clear n0_ n1_ n2_ n3_ n4_ n5_ n6_; clear hb hbox hg; have hnb13 := NB711_709.out; have hnc13 := NB709_711.out; have hcz14_0 : w12.cell? ⟨gb711, 0, none⟩ = some (.int .i64 0) := (blk_cell BK711.out 0).trans rfl; have hcz14_1 : w12.cell? ⟨gb711, 1, none⟩ = some (.int .i64 0) := (blk_cell BK711.out 1).trans rfl; have hfz14_0 := blk_frozen BK711.out 0; have hfz14_1 := blk_frozen BK711.out 1; have hcz15_0 : w12.cell? ⟨gb709, 0, none⟩ = some (.slice A1_0 l1_0.length c1_0) := (blk_cell BK709.out 0).trans rfl; have hcz15_1 : w12.cell? ⟨gb709, 1, none⟩ = some (.slice A1_1 l1_1.length c1_1) := (blk_cell BK709.out 1).trans rfl; have hfz15_0 := blk_frozen BK709.out 0; have hfz15_1 := blk_frozen BK709.out 1; have p712 : 0 ≤ ((ji8) : Int) := of_decide_eq_true (zqD); have q712 : (ji8) < (l1_0.length : Int) := of_decide_eq_true (zqD); obtain ⟨ad712, e712, hx712_0⟩ := Kd.at_int HR1_0.out (ji8) p712 q712; cases e712; have hn712_0 : ad712.block ≠ gb711 := Nat.ne_of_lt (Nat.lt_of_lt_of_le (by have := World.block_lt_of_cell? _ _ hx712_0; first | rwa [add_block] at this | exact this) GW711.out); have hn712_1 : ad712.block ≠ gb711 := Nat.ne_of_lt (Nat.lt_of_lt_of_le (by have := World.block_lt_of_cell? _ _ hx712_0; first | rwa [add_block] at this | exact this) GW711.out); replace hx712_0 := (HB.out.cell (World.block_lt_of_cell? w _ hx712_0)).trans hx712_0; replace hx712_0 := (cell_far (p := ⟨gb711, 0, none⟩) (by first | (rw [add_block]; exact hn712_0) | (show (Addr.add _ _).block ≠ _; rw [add_block]; exact hn712_0) | exact hn712_0) (.int .i64 ((rd_T71 l0 x15_1).f0))).trans hx712_0; replace hx712_0 := (cell_far (p := ⟨gb711, 1, none⟩) (by first | (rw [add_block]; exact hn712_1) | (show (Addr.add _ _).block ≠ _; rw [add_block]; exact hn712_1) | exact hn712_1) (.int .i64 ((rd_T71 l0 x15_1).f1))).trans hx712_0; (try have hy712_0 := fun (n_ : Nat) => (show ((((w12.drewN n_).setCell ⟨gb711, 0, none⟩ (.int .i64 ((rd_T71 l0 x15_1).f0))).setCell ⟨gb711, 1, none⟩ (.int .i64 ((rd_T71 l0 x15_1).f1)))).cell? _ = some _ from hx712_0)); clear hn712_0; clear hn712_1; replace p712 := eq_true p712; replace q712 := eq_true q712)))
         go_roundg k1
         case measure => have := HK1.out; omega
         case rel => exact ⟨(wrap64 ((rd l1_0 (ji8)) + ((rd_T71 l0 x15_1).f1))), (x15_1), (wrap64 (x15_1 + 1)), (by first | rfl | (simp; done) | (simp only [← hji8] <;> (first | rfl | simp)) | (simp [*]; done)), (by first | rfl | (simp; done) | (simp [*]; done)), (by first | rfl | (simp; done) | (simp [*]; done)), H', ⟨by have := HK1.out; omega⟩, ⟨by (with_reducible repeat (first | refine blk_drewN ?_ _ | refine blk_drew ?_ | refine blk_alloc ?_ _)); refine blk_far ?_ NB709_711.out _; (with_reducible repeat (first | refine blk_drewN ?_ _ | refine blk_drew ?_ | refine blk_alloc ?_ _)); refine blk_far ?_ NB709_711.out _; (with_reducible repeat (first | refine blk_drewN ?_ _ | refine blk_drew ?_ | refine blk_alloc ?_ _)); exact BK709.out⟩, ⟨zqH HB.out GE709.out GE711.out⟩⟩
        ·
         rw [if_neg c11] at H
         have c11b0 : (x15_1 == 0) = false := beq_eq_false_iff_ne.mpr c11
         have c11b1 : (x15_1 != 0) = true := bne_iff_ne.mpr c11
         by_cases c16 : (wrap64 ((rd l1_0 (ji8)) + ((rd_T71 l0 x15_1).f1))) < x4_1
         ·
          rw [if_pos c16] at H
          have c16b0 : decide ((wrap64 ((rd l1_0 (ji8)) + ((rd_T71 l0 x15_1).f1))) < x4_1) = true := decide_eq_true c16
          clear c16
          have H' := Aside0.mk H
          clear H
          have p710 : 0 ≤ (x15_1 : Int) := of_decide_eq_true (zqD)
          have q710 : x15_1 < (l0.length : Int) := of_decide_eq_true (zqD)
          obtain ⟨ad710, e710, hx710_0, hx710_1⟩ := at_T71 HR0.out x15_1 p710 q710
          cases e710
          replace hx710_0 := (HB.out.cell (World.block_lt_of_cell? w _ hx710_0)).trans hx710_0
          replace hx710_1 := (HB.out.cell (World.block_lt_of_cell? w _ hx710_1)).trans hx710_1
          replace p710 := eq_true p710
          replace q710 := eq_true q710
          go_wp2_with (first | ((with_reducible refine gate_dst (N := 8) rfl ?_); refine box_event ?hg (N := 8) ?hd (cs := #[.int .i64 0, .int .i64 0]) (t := 71) ?hr ?_; (case hd => rfl); (case hg => rfl); (case hr => first | (go_simp; done) | (go_simp; rfl)); intro gb711 hg w17 hbox hb; have n0_ := Aside0.mk (blk_below (g := gb709) (o := .cells #[.slice A1_0 l1_0.length c1_0, .slice A1_1 l1_1.length c1_1] 107 (0, 0)) (zqB BK709.out) hb); have n1_ := Aside0.mk (below_step (zqG HB.out GE709.out) hb); have n2_ := Aside0.mk (hbox); have n3_ := Aside0.mk ((by rw [hg]; exact (below_size (zqG HB.out GE709.out)) : w.heap.size ≤ gb711)); have n4_ := Aside0.mk ((by rw [hg]; exact (below_size (zqG HB.out GE709.out)) : w.heap.size ≤ gb711)); have n5_ := Aside0.mk ((by rw [hg]; exact Nat.ne_of_lt (blk_lt (g := gb709) (o := .cells #[.slice A1_0 l1_0.length c1_0, .slice A1_1 l1_1.length c1_1] 107 (0, 0)) (zqB BK709.out)) : gb709 ≠ gb711)); have n6_ := Aside0.mk ((by rw [hg]; exact Nat.ne_of_gt (blk_lt (g := gb709) (o := .cells #[.slice A1_0 l1_0.length c1_0, .slice A1_1 l1_1.length c1_1] 107 (0, 0)) (zqB BK709.out)) : gb711 ≠ gb709)); clear BK709; clear HB; have BK709 := n0_; have HB := n1_; have BK711 := n2_; have GW711 := n3_; have GE711 := n4_; have NB709_711 := n5_; have NB711_709 := n6_; clear n0_ n1_ n2_ n3_ n4_ n5_ n6_; clear hb hbox hg; have hnb18 := NB711_709.out; have hnc18 := NB709_711.out; have hcz19_0 : w17.cell? ⟨gb711, 0, none⟩ = some (.int .i64 0) := (blk_cell BK711.out 0).trans rfl; have hcz19_1 : w17.cell? ⟨gb711, 1, none⟩ = some (.int .i64 0) := (blk_cell BK711.out 1).trans rfl; have hfz19_0 := blk_frozen BK711.out 0; have hfz19_1 := blk_frozen BK711.out 1; have hcz20_0 : w17.cell? ⟨gb709, 0, none⟩ = some (.slice A1_0 l1_0.length c1_0) := (blk_cell BK709.out 0).trans rfl; have hcz20_1 : w17.cell? ⟨gb709, 1, none⟩ = some (.slice A1_1 l1_1.length c1_1) := (blk_cell BK709.out 1).trans rfl; have hfz20_0 := blk_frozen BK709.out 0; have hfz20_1 := blk_frozen BK709.out 1; have p712 : 0 ≤ ((ji8) : Int) := of_decide_eq_true (zqD); have q712 : (ji8) < (l1_0.length : Int) := of_decide_eq_true (zqD); obtain ⟨ad712, e712, hx712_0⟩ := Kd.at_int HR1_0.out (ji8) p712 q712; cases e712; have hn712_0 : ad712.block ≠ gb711 := Nat.ne_of_lt (Nat.lt_of_lt_of_le (by have := World.block_lt_of_cell? _ _ hx712_0; first | rwa [add_block] at this | exact this) GW711.out); have hn712_1 : ad712.block ≠ gb711 := Nat.ne_of_lt (Nat.lt_of_lt_of_le (by have := World.block_lt_of_cell? _ _ hx712_0; first | rwa [add_block] at this | exact this) GW711.out); replace hx712_0 := (HB.out.cell (World.block_lt_of_cell? w _ hx712_0)).trans hx712_0; replace hx712_0 := (cell_far (p := ⟨gb711, 0, none⟩) (by first | (rw [add_block]; exact hn712_0) | (show (Addr.add _ _).block ≠ _; rw [add_block]; exact hn712_0) | exact hn712_0) (.int .i64 ((rd_T71 l0 x15_1).f0))).trans hx712_0; replace hx712_0 := (cell_far (p := ⟨gb711, 1, none⟩) (by first | (rw [add_block]; exact hn712_1) | (show (Addr.add _ _).block ≠ _; rw [add_block]; exact hn712_1) | exact hn712_1) (.int .i64 ((rd_T71 l0 x15_1).f1))).trans hx712_0; (try have hy712_0 := fun (n_ : Nat) => (show ((((w17.drewN n_).setCell ⟨gb711, 0, none⟩ (.int .i64 ((rd_T71 l0 x15_1).f0))).setCell ⟨gb711, 1, none⟩ (.int .i64 ((rd_T71 l0 x15_1).f1)))).cell? _ = some _ from hx712_0)); clear hn712_0; clear hn712_1; replace p712 := eq_true p712; replace q712 := eq_true q712))
          repeat (go_quiet (first | ((with_reducible refine gate_dst (N := 8) rfl ?_); refine box_event ?hg (N := 8) ?hd (cs := #[.int .i64 0, .int .i64 0]) (t := 71) ?hr ?_; (case hd => rfl); (case hg => rfl); (case hr => first | (go_simp; done) | (go_simp; rfl)); intro gb711 hg w17 hbox hb; have n0_ := Aside0.mk (blk_below (g := gb709) (o := .cells #[.slice A1_0 l1_0.length c1_0, .slice A1_1 l1_1.length c1_1] 107 (0, 0)) (zqB BK709.out) hb); have n1_ := Aside0.mk (below_step (zqG HB.out GE709.out) hb); have n2_ := Aside0.mk (hbox); have n3_ := Aside0.mk ((by rw [hg]; exact (below_size (zqG HB.out GE709.out)) : w.heap.size ≤ gb711)); have n4_ := Aside0.mk ((by rw [hg]; exact (below_size (zqG HB.out GE709.out)) : w.heap.size ≤ gb711)); have n5_ := Aside0.mk ((by rw [hg]; exact Nat.ne_of_lt (blk_lt (g := gb709) (o := .cells #[.slice A1_0 l1_0.length c1_0, .slice A1_1 l1_1.length c1_1] 107 (0, 0)) (zqB BK709.out)) : gb709 ≠ gb711)); have n6_ := Aside0.mk ((by rw [hg]; exact Nat.ne_of_gt (blk_lt (g := gb709) (o := .cells #[.slice A1_0 l1_0.length c1_0, .slice A1_1 l1_1.length c1_1] 107 (0, 0)) (zqB BK709.out)) : gb711 ≠ gb709)); clear BK709; clear HB; have BK709 := n0_; have HB := n1_; have BK711 := n2_; have GW711 := n3_; have GE711 := n4_; have NB709_711 := n5_; have NB711_709 := n6_; clear n0_ n1_ n2_ n3_ n4_ n5_ n6_; clear hb hbox hg; have hnb18 := NB711_709.out; have hnc18 := NB709_711.out; have hcz19_0 : w17.cell? ⟨gb711, 0, none⟩ = some (.int .i64 0) := (blk_cell BK711.out 0).trans rfl; have hcz19_1 : w17.cell? ⟨gb711, 1, none⟩ = some (.int .i64 0) := (blk_cell BK711.out 1).trans rfl; have hfz19_0 := blk_frozen BK711.out 0; have hfz19_1 := blk_frozen BK711.out 1; have hcz20_0 : w17.cell? ⟨gb709, 0, none⟩ = some (.slice A1_0 l1_0.length c1_0) := (blk_cell BK709.out 0).trans rfl; have hcz20_1 : w17.cell? ⟨gb709, 1, none⟩ = some (.slice A1_1 l1_1.length c1_1) := (blk_cell BK709.out 1).trans rfl; have hfz20_0 := blk_frozen BK709.out 0; have hfz20_1 := blk_frozen BK709.out 1; have p712 : 0 ≤ ((ji8) : Int) := of_decide_eq_true (zqD); have q712 : (ji8) < (l1_0.length : Int) := of_decide_eq_true (zqD); obtain ⟨ad712, e712, hx712_0⟩ := Kd.at_int HR1_0.out (ji8) p712 q712; cases e712; have hn712_0 : ad712.block ≠ gb711 := Nat.ne_of_lt (Nat.lt_of_lt_of_le (by have := World.block_lt_of_cell? _ _ hx712_0; first | rwa [add_block] at this | exact this) GW711.out); have hn712_1 : ad712.block ≠ gb711 := Nat.ne_of_lt (Nat.lt_of_lt_of_le (by have := World.block_lt_of_cell? _ _ hx712_0; first | rwa [add_block] at this | exact this) GW711.out); replace hx712_0 := (HB.out.cell (World.block_lt_of_cell? w _ hx712_0)).trans hx712_0; replace hx712_0 := (cell_far (p := ⟨gb711, 0, none⟩) (by first | (rw [add_block]; exact hn712_0) | (show (Addr.add _ _).block ≠ _; rw [add_block]; exact hn712_0) | exact hn712_0) (.int .i64 ((rd_T71 l0 x15_1).f0))).trans hx712_0; replace hx712_0 := (cell_far (p := ⟨gb711, 1, none⟩) (by first | (rw [add_block]; exact hn712_1) | (show (Addr.add _ _).block ≠ _; rw [add_block]; exact hn712_1) | exact hn712_1) (.int .i64 ((rd_T71 l0 x15_1).f1))).trans hx712_0; (try have hy712_0 := fun (n_ : Nat) => (show ((((w17.drewN n_).setCell ⟨gb711, 0, none⟩ (.int .i64 ((rd_T71 l0 x15_1).f0))).setCell ⟨gb711, 1, none⟩ (.int .i64 ((rd_T71 l0 x15_1).f1)))).cell? _ = some _ from hx712_0)); clear hn712_0; clear hn712_1; replace p712 := eq_true p712; replace q712 := eq_true q712)); try go_wp2_with (first | ((with_reducible refine gate_dst (N := 8) rfl ?_); refine box_event ?hg (N := 8) ?hd (cs := #[.int .i64 0, .int .i64 0]) (t := 71) ?hr ?_; (case hd => rfl); (case hg => rfl); (case hr => first | (go_simp; done) | (go_simp; rfl)); intro gb711 hg w17 hbox hb; have n0_ := Aside0.mk (blk_below (g := gb709) (o := .cells #[.slice A1_0 l1_0.length c1_0, .slice A1_1 l1_1.length c1_1] 107 (0, 0)) (zqB BK709.out) hb); have n1_ := Aside0.mk (below_step (zqG HB.out GE709.out) hb); have n2_ := Aside0.mk (hbox); have n3_ := Aside0.mk ((by rw [hg]; exact (below_size (zqG HB.out GE709.out)) : w.heap.size ≤ gb711)); have n4_ := Aside0.mk ((by rw [hg]; exact (below_size (zqG HB.out GE709.out)) : w.heap.size ≤ gb711)); have n5_ := Aside0.mk ((by rw [hg]; exact Nat.ne_of_lt (blk_lt (g := gb709) (o := .cells #[.slice A1_0 l1_0.length c1_0, .slice A1_1 l1_1.length c1_1] 107 (0, 0)) (zqB BK709.out)) : gb709 ≠ gb711)); have n6_ := Aside0.mk ((by rw [hg]; exact Nat.ne_of_gt (blk_lt (g := gb709) (o := .cells #[.slice A1_0 l1_0.length c1_0, .slice A1_1 l1_1.length c1_1] 107 (0, 0)) (zqB BK709.out)) : gb711 ≠ gb709)); clear BK709; clear HB; have BK709 := n0_; have HB := n1_; have BK711 := n2_; have GW711 := n3_; have GE711 := n4_; have NB709_711 := n5_; have NB711_709 := n6_; clear n0_ n1_ n2_ n3_ n4_ n5_ n6_; clear hb hbox hg; have hnb18 := NB711_709.out; have hnc18 := NB709_711.out; have hcz19_0 : w17.cell? ⟨gb711, 0, none⟩ = some (.int .i64 0) := (blk_cell BK711.out 0).trans rfl; have hcz19_1 : w17.cell? ⟨gb711, 1, none⟩ = some (.int .i64 0) := (blk_cell BK711.out 1).trans rfl; have hfz19_0 := blk_frozen BK711.out 0; have hfz19_1 := blk_frozen BK711.out 1; have hcz20_0 : w17.cell? ⟨gb709, 0, none⟩ = some (.slice A1_0 l1_0.length c1_0) := (blk_cell BK709.out 0).trans rfl; have hcz20_1 : w17.cell? ⟨gb709, 1, none⟩ = some (.slice A1_1 l1_1.length c1_1) := (blk_cell BK709.out 1).trans rfl; have hfz20_0 := blk_frozen BK709.out 0; have hfz20_1 := blk_frozen BK709.out 1; have p712 : 0 ≤ ((ji8) : Int) := of_decide_eq_true (zqD); have q712 : (ji8) < (l1_0.length : Int) := of_decide_eq_true (zqD); obtain ⟨ad712, e712, hx712_0⟩ := Kd.at_int HR1_0.out (ji8) p712 q712; cases e712; have hn712_0 : ad712.block ≠ gb711 := Nat.ne_of_lt (Nat.lt_of_lt_of_le (by have := World.block_lt_of_cell? _ _ hx712_0; first | rwa [add_block] at this | exact this) GW711.out); have hn712_1 : ad712.block ≠ gb711 := Nat.ne_of_lt (Nat.lt_of_lt_of_le (by have := World.block_lt_of_cell? _ _ hx712_0; first | rwa [add_block] at this | exact this) GW711.out); replace hx712_0 := (HB.out.cell (World.block_lt_of_cell? w _ hx712_0)).trans hx712_0; replace hx712_0 := (cell_far (p := ⟨gb711, 0, none⟩) (by first | (rw [add_block]; exact hn712_0) | (show (Addr.add _ _).block ≠ _; rw [add_block]; exact hn712_0) | exact hn712_0) (.int .i64 ((rd_T71 l0 x15_1).f0))).trans hx712_0; replace hx712_0 := (cell_far (p := ⟨gb711, 1, none⟩) (by first | (rw [add_block]; exact hn712_1) | (show (Addr.add _ _).block ≠ _; rw [add_block]; exact hn712_1) | exact hn712_1) (.int .i64 ((rd_T71 l0 x15_1).f1))).trans hx712_0; (try have hy712_0 := fun (n_ : Nat) => (show ((((w17.drewN n_).setCell ⟨gb711, 0, none⟩ (.int .i64 ((rd_T71 l0 x15_1).f0))).setCell ⟨gb711, 1, none⟩ (.int .i64 ((rd_T71 l0 x15_1).f1)))).cell? _ = some _ from hx712_0)); clear hn712_0; clear hn712_1; replace p712 := eq_true p712; replace q712 := eq_true q712)))
          go_roundg k1
          case measure => have := HK1.out; omega
          case rel => exact ⟨(wrap64 ((rd l1_0 (ji8)) + ((rd_T71 l0 x15_1).f1))), (x15_1), (wrap64 (x15_1 + 1)), (by first | rfl | (simp; done) | (simp only [← hji8] <;> (first | rfl | simp)) | (simp [*]; done)), (by first | rfl | (simp; done) | (simp [*]; done)), (by first | rfl | (simp; done) | (simp [*]; done)), H', ⟨by have := HK1.out; omega⟩, ⟨by (with_reducible repeat (first | refine blk_drewN ?_ _ | refine blk_drew ?_ | refine blk_alloc ?_ _)); refine blk_far ?_ NB709_711.out _; (with_reducible repeat (first | refine blk_drewN ?_ _ | refine blk_drew ?_ | refine blk_alloc ?_ _)); refine blk_far ?_ NB709_711.out _; (with_reducible repeat (first | refine blk_drewN ?_ _ | refine blk_drew ?_ | refine blk_alloc ?_ _)); exact BK709.out⟩, ⟨zqH HB.out GE709.out GE711.out⟩⟩
         ·
          rw [if_neg c16] at H
          have c16b0 : decide ((wrap64 ((rd l1_0 (ji8)) + ((rd_T71 l0 x15_1).f1))) < x4_1) = false := decide_eq_false c16
          clear c16
          have H' := Aside0.mk H
          clear H
          have p710 : 0 ≤ (x15_1 : Int) := of_decide_eq_true (zqD)
          have q710 : x15_1 < (l0.length : Int) := of_decide_eq_true (zqD)
          obtain ⟨ad710, e710, hx710_0, hx710_1⟩ := at_T71 HR0.out x15_1 p710 q710
          cases e710
          replace hx710_0 := (HB.out.cell (World.block_lt_of_cell? w _ hx710_0)).trans hx710_0
          replace hx710_1 := (HB.out.cell (World.block_lt_of_cell? w _ hx710_1)).trans hx710_1
          replace p710 := eq_true p710
          replace q710 := eq_true q710
          go_wp2_with (first | ((with_reducible refine gate_dst (N := 8) rfl ?_); refine box_event ?hg (N := 8) ?hd (cs := #[.int .i64 0, .int .i64 0]) (t := 71) ?hr ?_; (case hd => rfl); (case hg => rfl); (case hr => first | (go_simp; done) | (go_simp; rfl)); intro gb711 hg w21 hbox hb; have n0_ := Aside0.mk (blk_below (g := gb709) (o := .cells #[.slice A1_0 l1_0.length c1_0, .slice A1_1 l1_1.length c1_1] 107 (0, 0)) (zqB BK709.out) hb); have n1_ := Aside0.mk (below_step (zqG HB.out GE709.out) hb); have n2_ := Aside0.mk (hbox); have n3_ := Aside0.mk ((by rw [hg]; exact (below_size (zqG HB.out GE709.out)) : w.heap.size ≤ gb711)); have n4_ := Aside0.mk ((by rw [hg]; exact (below_size (zqG HB.out GE709.out)) : w.heap.size ≤ gb711)); have n5_ := Aside0.mk ((by rw [hg]; exact Nat.ne_of_lt (blk_lt (g := gb709) (o := .cells #[.slice A1_0 l1_0.length c1_0, .slice A1_1 l1_1.length c1_1] 107 (0, 0)) (zqB BK709.out)) : gb709 ≠ gb711)); have n6_ := Aside0.mk ((by rw [hg]; exact Nat.ne_of_gt (blk_lt (g := gb709) (o := .cells #[.slice A1_0 l1_0.length c1_0, .slice A1_1 l1_1.length c1_1] 107 (0, 0)) (zqB BK709.out)) : gb711 ≠ gb709)); clear BK709; clear HB; have BK709 := n0_; have HB := n1_; have BK711 := n2_; have GW711 := n3_; have GE711 := n4_; have NB709_711 := n5_; have NB711_709 := n6_; clear n0_ n1_ n2_ n3_ n4_ n5_ n6_; clear hb hbox hg; have hnb22 := NB711_709.out; have hnc22 := NB709_711.out; have hcz23_0 : w21.cell? ⟨gb711, 0, none⟩ = some (.int .i64 0) := (blk_cell BK711.out 0).trans rfl; have hcz23_1 : w21.cell? ⟨gb711, 1, none⟩ = some (.int .i64 0) := (blk_cell BK711.out 1).trans rfl; have hfz23_0 := blk_frozen BK711.out 0; have hfz23_1 := blk_frozen BK711.out 1; have hcz24_0 : w21.cell? ⟨gb709, 0, none⟩ = some (.slice A1_0 l1_0.length c1_0) := (blk_cell BK709.out 0).trans rfl; have hcz24_1 : w21.cell? ⟨gb709, 1, none⟩ = some (.slice A1_1 l1_1.length c1_1) := (blk_cell BK709.out 1).trans rfl; have hfz24_0 := blk_frozen BK709.out 0; have hfz24_1 := blk_frozen BK709.out 1; have p712 : 0 ≤ ((ji8) : Int) := of_decide_eq_true (zqD); have q712 : (ji8) < (l1_0.length : Int) := of_decide_eq_true (zqD); obtain ⟨ad712, e712, hx712_0⟩ := Kd.at_int HR1_0.out (ji8) p712 q712; cases e712; have hn712_0 : ad712.block ≠ gb711 := Nat.ne_of_lt (Nat.lt_of_lt_of_le (by have := World.block_lt_of_cell? _ _ hx712_0; first | rwa [add_block] at this | exact this) GW711.out); have hn712_1 : ad712.block ≠ gb711 := Nat.ne_of_lt (Nat.lt_of_lt_of_le (by have := World.block_lt_of_cell? _ _ hx712_0; first | rwa [add_block] at this | exact this) GW711.out); replace hx712_0 := (HB.out.cell (World.block_lt_of_cell? w _ hx712_0)).trans hx712_0; replace hx712_0 := (cell_far (p := ⟨gb711, 0, none⟩) (by first | (rw [add_block]; exact hn712_0) | (show (Addr.add _ _).block ≠ _; rw [add_block]; exact hn712_0) | exact hn712_0) (.int .i64 ((rd_T71 l0 x15_1).f0))).trans hx712_0; replace hx712_0 := (cell_far (p := ⟨gb711, 1, none⟩) (by first | (rw [add_block]; exact hn712_1) | (show (Addr.add _ _).block ≠ _; rw [add_block]; exact hn712_1) | exact hn712_1) (.int .i64 ((rd_T71 l0 x15_1).f1))).trans hx712_0; (try have hy712_0 := fun (n_ : Nat) => (show ((((w21.drewN n_).setCell ⟨gb711, 0, none⟩ (.int .i64 ((rd_T71 l0 x15_1).f0))).setCell ⟨gb711, 1, none⟩ (.int .i64 ((rd_T71 l0 x15_1).f1)))).cell? _ = some _ from hx712_0)); clear hn712_0; clear hn712_1; replace p712 := eq_true p712; replace q712 := eq_true q712))
          repeat (go_quiet (first | ((with_reducible refine gate_dst (N := 8) rfl ?_); refine box_event ?hg (N := 8) ?hd (cs := #[.int .i64 0, .int .i64 0]) (t := 71) ?hr ?_; (case hd => rfl); (case hg => rfl); (case hr => first | (go_simp; done) | (go_simp; rfl)); intro gb711 hg w21 hbox hb; have n0_ := Aside0.mk (blk_below (g := gb709) (o := .cells #[.slice A1_0 l1_0.length c1_0, .slice A1_1 l1_1.length c1_1] 107 (0, 0)) (zqB BK709.out) hb); have n1_ := Aside0.mk (below_step (zqG HB.out GE709.out) hb); have n2_ := Aside0.mk (hbox); have n3_ := Aside0.mk ((by rw [hg]; exact (below_size (zqG HB.out GE709.out)) : w.heap.size ≤ gb711)); have n4_ := Aside0.mk ((by rw [hg]; exact (below_size (zqG HB.out GE709.out)) : w.heap.size ≤ gb711)); have n5_ := Aside0.mk ((by rw [hg]; exact Nat.ne_of_lt (blk_lt (g := gb709) (o := .cells #[.slice A1_0 l1_0.length c1_0, .slice A1_1 l1_1.length c1_1] 107 (0, 0)) (zqB BK709.out)) : gb709 ≠ gb711)); have n6_ := Aside0.mk ((by rw [hg]; exact Nat.ne_of_gt (blk_lt (g := gb709) (o := .cells #[.slice A1_0 l1_0.length c1_0, .slice A1_1 l1_1.length c1_1] 107 (0, 0)) (zqB BK709.out)) : gb711 ≠ gb709)); clear BK709; clear HB; have BK709 := n0_; have HB := n1_; have BK711 := n2_; have GW711 := n3_; have GE711 := n4_; have NB709_711 := n5_; have NB711_709 := n6_; clear n0_ n1_ n2_ n3_ n4_ n5_ n6_; clear hb hbox hg; have hnb22 := NB711_709.out; have hnc22 := NB709_711.out; have hcz23_0 : w21.cell? ⟨gb711, 0, none⟩ = some (.int .i64 0) := (blk_cell BK711.out 0).trans rfl; have hcz23_1 : w21.cell? ⟨gb711, 1, none⟩ = some (.int .i64 0) := (blk_cell BK711.out 1).trans rfl; have hfz23_0 := blk_frozen BK711.out 0; have hfz23_1 := blk_frozen BK711.out 1; have hcz24_0 : w21.cell? ⟨gb709, 0, none⟩ = some (.slice A1_0 l1_0.length c1_0) := (blk_cell BK709.out 0).trans rfl; have hcz24_1 : w21.cell? ⟨gb709, 1, none⟩ = some (.slice A1_1 l1_1.length c1_1) := (blk_cell BK709.out 1).trans rfl; have hfz24_0 := blk_frozen BK709.out 0; have hfz24_1 := blk_frozen BK709.out 1; have p712 : 0 ≤ ((ji8) : Int) := of_decide_eq_true (zqD); have q712 : (ji8) < (l1_0.length : Int) := of_decide_eq_true (zqD); obtain ⟨ad712, e712, hx712_0⟩ := Kd.at_int HR1_0.out (ji8) p712 q712; cases e712; have hn712_0 : ad712.block ≠ gb711 := Nat.ne_of_lt (Nat.lt_of_lt_of_le (by have := World.block_lt_of_cell? _ _ hx712_0; first | rwa [add_block] at this | exact this) GW711.out); have hn712_1 : ad712.block ≠ gb711 := Nat.ne_of_lt (Nat.lt_of_lt_of_le (by have := World.block_lt_of_cell? _ _ hx712_0; first | rwa [add_block] at this | exact this) GW711.out); replace hx712_0 := (HB.out.cell (World.block_lt_of_cell? w _ hx712_0)).trans hx712_0; replace hx712_0 := (cell_far (p := ⟨gb711, 0, none⟩) (by first | (rw [add_block]; exact hn712_0) | (show (Addr.add _ _).block ≠ _; rw [add_block]; exact hn712_0) | exact hn712_0) (.int .i64 ((rd_T71 l0 x15_1).f0))).trans hx712_0; replace hx712_0 := (cell_far (p := ⟨gb711, 1, none⟩) (by first | (rw [add_block]; exact hn712_1) | (show (Addr.add _ _).block ≠ _; rw [add_block]; exact hn712_1) | exact hn712_1) (.int .i64 ((rd_T71 l0 x15_1).f1))).trans hx712_0; (try have hy712_0 := fun (n_ : Nat) => (show ((((w21.drewN n_).setCell ⟨gb711, 0, none⟩ (.int .i64 ((rd_T71 l0 x15_1).f0))).setCell ⟨gb711, 1, none⟩ (.int .i64 ((rd_T71 l0 x15_1).f1)))).cell? _ = some _ from hx712_0)); clear hn712_0; clear hn712_1; replace p712 := eq_true p712; replace q712 := eq_true q712)); try go_wp2_with (first | ((with_reducible refine gate_dst (N := 8) rfl ?_); refine box_event ?hg (N := 8) ?hd (cs := #[.int .i64 0, .int .i64 0]) (t := 71) ?hr ?_; (case hd => rfl); (case hg => rfl); (case hr => first | (go_simp; done) | (go_simp; rfl)); intro gb711 hg w21 hbox hb; have n0_ := Aside0.mk (blk_below (g := gb709) (o := .cells #[.slice A1_0 l1_0.length c1_0, .slice A1_1 l1_1.length c1_1] 107 (0, 0)) (zqB BK709.out) hb); have n1_ := Aside0.mk (below_step (zqG HB.out GE709.out) hb); have n2_ := Aside0.mk (hbox); have n3_ := Aside0.mk ((by rw [hg]; exact (below_size (zqG HB.out GE709.out)) : w.heap.size ≤ gb711)); have n4_ := Aside0.mk ((by rw [hg]; exact (below_size (zqG HB.out GE709.out)) : w.heap.size ≤ gb711)); have n5_ := Aside0.mk ((by rw [hg]; exact Nat.ne_of_lt (blk_lt (g := gb709) (o := .cells #[.slice A1_0 l1_0.length c1_0, .slice A1_1 l1_1.length c1_1] 107 (0, 0)) (zqB BK709.out)) : gb709 ≠ gb711)); have n6_ := Aside0.mk ((by rw [hg]; exact Nat.ne_of_gt (blk_lt (g := gb709) (o := .cells #[.slice A1_0 l1_0.length c1_0, .slice A1_1 l1_1.length c1_1] 107 (0, 0)) (zqB BK709.out)) : gb711 ≠ gb709)); clear BK709; clear HB; have BK709 := n0_; have HB := n1_; have BK711 := n2_; have GW711 := n3_; have GE711 := n4_; have NB709_711 := n5_; have NB711_709 := n6_; clear n0_ n1_ n2_ n3_ n4_ n5_ n6_; clear hb hbox hg; have hnb22 := NB711_709.out; have hnc22 := NB709_711.out; have hcz23_0 : w21.cell? ⟨gb711, 0, none⟩ = some (.int .i64 0) := (blk_cell BK711.out 0).trans rfl; have hcz23_1 : w21.cell? ⟨gb711, 1, none⟩ = some (.int .i64 0) := (blk_cell BK711.out 1).trans rfl; have hfz23_0 := blk_frozen BK711.out 0; have hfz23_1 := blk_frozen BK711.out 1; have hcz24_0 : w21.cell? ⟨gb709, 0, none⟩ = some (.slice A1_0 l1_0.length c1_0) := (blk_cell BK709.out 0).trans rfl; have hcz24_1 : w21.cell? ⟨gb709, 1, none⟩ = some (.slice A1_1 l1_1.length c1_1) := (blk_cell BK709.out 1).trans rfl; have hfz24_0 := blk_frozen BK709.out 0; have hfz24_1 := blk_frozen BK709.out 1; have p712 : 0 ≤ ((ji8) : Int) := of_decide_eq_true (zqD); have q712 : (ji8) < (l1_0.length : Int) := of_decide_eq_true (zqD); obtain ⟨ad712, e712, hx712_0⟩ := Kd.at_int HR1_0.out (ji8) p712 q712; cases e712; have hn712_0 : ad712.block ≠ gb711 := Nat.ne_of_lt (Nat.lt_of_lt_of_le (by have := World.block_lt_of_cell? _ _ hx712_0; first | rwa [add_block] at this | exact this) GW711.out); have hn712_1 : ad712.block ≠ gb711 := Nat.ne_of_lt (Nat.lt_of_lt_of_le (by have := World.block_lt_of_cell? _ _ hx712_0; first | rwa [add_block] at this | exact this) GW711.out); replace hx712_0 := (HB.out.cell (World.block_lt_of_cell? w _ hx712_0)).trans hx712_0; replace hx712_0 := (cell_far (p := ⟨gb711, 0, none⟩) (by first | (rw [add_block]; exact hn712_0) | (show (Addr.add _ _).block ≠ _; rw [add_block]; exact hn712_0) | exact hn712_0) (.int .i64 ((rd_T71 l0 x15_1).f0))).trans hx712_0; replace hx712_0 := (cell_far (p := ⟨gb711, 1, none⟩) (by first | (rw [add_block]; exact hn712_1) | (show (Addr.add _ _).block ≠ _; rw [add_block]; exact hn712_1) | exact hn712_1) (.int .i64 ((rd_T71 l0 x15_1).f1))).trans hx712_0; (try have hy712_0 := fun (n_ : Nat) => (show ((((w21.drewN n_).setCell ⟨gb711, 0, none⟩ (.int .i64 ((rd_T71 l0 x15_1).f0))).setCell ⟨gb711, 1, none⟩ (.int .i64 ((rd_T71 l0 x15_1).f1)))).cell? _ = some _ from hx712_0)); clear hn712_0; clear hn712_1; replace p712 := eq_true p712; replace q712 := eq_true q712)))
          go_roundg k1
          case measure => have := HK1.out; omega
          case rel => exact ⟨(x4_1), (x5_1), (wrap64 (x15_1 + 1)), (by first | rfl | (simp; done) | (simp [*]; done)), (by first | rfl | (simp; done) | (simp [*]; done)), (by first | rfl | (simp; done) | (simp [*]; done)), H', ⟨by have := HK1.out; omega⟩, ⟨by (with_reducible repeat (first | refine blk_drewN ?_ _ | refine blk_drew ?_ | refine blk_alloc ?_ _)); refine blk_far ?_ NB709_711.out _; (with_reducible repeat (first | refine blk_drewN ?_ _ | refine blk_drew ?_ | refine blk_alloc ?_ _)); refine blk_far ?_ NB709_711.out _; (with_reducible repeat (first | refine blk_drewN ?_ _ | refine blk_drew ?_ | refine blk_alloc ?_ _)); exact BK709.out⟩, ⟨zqH HB.out GE709.out GE711.out⟩⟩
       ·
        rw [if_neg c10] at H
        exact absurd H (by simp)
      ·
       rw [if_neg c9] at H
       exact absurd H (by simp)
     ·
      rw [if_neg c7] at H
      exact absurd H (by simp)
    ·
     rw [if_neg c6] at H
     exact absurd H (by simp)
   ·
    rw [if_neg c5] at H
    have c5b0 : decide (x15_1 < (l0.length : Int)) = false := decide_eq_false c5
    clear c5
    simp only [Option.some.injEq, Prod.mk.injEq] at H
    obtain ⟨rfl, rfl⟩ := H
    go_wp2
    repeat (go_quiet (fail); try go_wp2)
    go_ret2
    exact ⟨by first | rfl | (simp [errW_none, errW_some] <;> rfl) | (simp [*, errW_none, errW_some] <;> rfl), zqG HB.out GE709.out⟩
def pump_bounds_least.l0 : Nat → Int → Int → Int → List (S71) → Int → Int → List Int → List Int → Option (Int × Int)
  | 0, _, _, _, _, _, _, _, _ => none
  | k + 1, x4, x5, x6, x18, x19, x20, x714000, x714001 => if x20 < x19 then (if 0 ≤ x20 then (if x20 < (x18.length : Int) then (if ((rd_T71 x18 x20).f0) ≤ x6 then (if 0 ≤ (wrap64 (x6 - ((rd_T71 x18 x20).f0))) then (if (wrap64 (x6 - ((rd_T71 x18 x20).f0))) < (x714000.length : Int) then (if (wrap64 ((rd x714000 (wrap64 (x6 - ((rd_T71 x18 x20).f0)))) + ((rd_T71 x18 x20).f1))) > x4 then (pump_bounds_least.l0 k (wrap64 ((rd x714000 (wrap64 (x6 - ((rd_T71 x18 x20).f0)))) + ((rd_T71 x18 x20).f1))) x20 x6 x18 x19 (wrap64 (x20 + 1)) x714000 x714001) else (pump_bounds_least.l0 k x4 x5 x6 x18 x19 (wrap64 (x20 + 1)) x714000 x714001)) else (none)) else (none)) else (pump_bounds_least.l0 k x4 x5 x6 x18 x19 (wrap64 (x20 + 1)) x714000 x714001)) else (none)) else (none)) else (some (x4, x5))
def pump_bounds_least.f (k : Nat) (l0 : List (S71)) (l1_0 : List Int) (l1_1 : List Int) : Option (Int × Int) := if 0 ≤ (wrap64 ((l1_0.length : Int) - 1)) then (if (wrap64 ((l1_0.length : Int) - 1)) < (l1_0.length : Int) then (pump_bounds_least.l0 k (rd l1_0 (wrap64 ((l1_0.length : Int) - 1))) (-1) (l1_0.length : Int) l0 (l0.length : Int) 0 l1_0 l1_1) else (none)) else (none)
set_option maxHeartbeats 8000000 in
set_option maxRecDepth 100000 in
theorem pump_bounds_least.calls (k : Nat) (A0 : Option Addr) (c0 : Nat) (l0 : List (S71)) (A1_0 : Option Addr) (c1_0 : Nat) (l1_0 : List Int) (A1_1 : Option Addr) (c1_1 : Nat) (l1_1 : List Int) (r1 : Int) (r2 : Int) (w : World) (hr0 : Kd.C k71 w A0 l0.length l0) (hc0 : l0.length ≤ c0) (hr1_0 : Kd.C (Kd.int .i64) w A1_0 l1_0.length l1_0) (hc1_0 : l1_0.length ≤ c1_0) (hr1_1 : Kd.C (Kd.int .i64) w A1_1 l1_1.length l1_1) (hc1_1 : l1_1.length ≤ c1_1) (h : pump_bounds_least.f k l0 l1_0 l1_1 = some (r1, r2)) :
  Calls Try.prog 56 #[.slice A0 l0.length c0, .agg #[.slice A1_0 l1_0.length c1_0, .slice A1_1 l1_1.length c1_1]] w fun e w' => e = .returned (.tuple #[.int .i64 r1, .int .i64 r2]) ∧ Below w.heap.size w w' := by
 have hu107 := Try.underlying107
 have hu71 := Try.underlying71
 have HR0 := Aside0.mk hr0
 have HC0 := Aside0.mk hc0
 clear hr0 hc0
 have HR1_0 := Aside0.mk hr1_0
 have HC1_0 := Aside0.mk hc1_0
 clear hr1_0 hc1_0
 have HR1_1 := Aside0.mk hr1_1
 have HC1_1 := Aside0.mk hc1_1
 clear hr1_1 hc1_1
 have HB := Aside0.mk (Below.refl w.heap.size w)
 have H : (if 0 ≤ (wrap64 ((l1_0.length : Int) - 1)) then (if (wrap64 ((l1_0.length : Int) - 1)) < (l1_0.length : Int) then (pump_bounds_least.l0 k (rd l1_0 (wrap64 ((l1_0.length : Int) - 1))) (-1) (l1_0.length : Int) l0 (l0.length : Int) 0 l1_0 l1_1) else (none)) else (none)) = some (r1, r2) := h
 clear h
 obtain ⟨ji3, hji3⟩ : ∃ j_ : Int, (wrap64 ((l1_0.length : Int) - 1)) = j_ := ⟨_, rfl⟩
 replace H : (if 0 ≤ (ji3) then (if (ji3) < (l1_0.length : Int) then (pump_bounds_least.l0 k (rd l1_0 (ji3)) (-1) (l1_0.length : Int) l0 (l0.length : Int) 0 l1_0 l1_1) else (none)) else (none)) = some (r1, r2) := by first | (rw [hji3] at H; exact H) | (simp only [hji3] at H ⊢; exact H)
 have hji3w : (IntKind.i64.wrap ((l1_0.length : Int) - 1)) = ji3 := (i64_w _).trans hji3
 by_cases c4 : 0 ≤ (ji3)
 ·
  rw [if_pos c4] at H
  have c4b0 : decide (0 ≤ (ji3)) = true := decide_eq_true c4
  clear c4
  by_cases c5 : (ji3) < (l1_0.length : Int)
  ·
   rw [if_pos c5] at H
   have c5b0 : decide ((ji3) < (l1_0.length : Int)) = true := decide_eq_true c5
   clear c5
   have H' := Aside0.mk H
   clear H
   go_enter Try.func56, Try.ntmps56
   go_wp2_with (first | ((with_reducible refine gate_dst (N := 3) rfl ?_); refine box_event ?hg (N := 3) ?hd (cs := #[.slice A1_0 l1_0.length c1_0, .slice A1_1 l1_1.length c1_1]) (t := 107) ?hr ?_; (case hd => rfl); (case hg => rfl); (case hr => first | (go_simp; done) | (go_simp; rfl)); intro gb713 hg w6 hbox hb; have n0_ := Aside0.mk (below_step (zqA HB.out) hb); have n1_ := Aside0.mk (hbox); have n2_ := Aside0.mk ((by rw [hg]; exact (below_size (zqA HB.out)) : w.heap.size ≤ gb713)); have n3_ := Aside0.mk ((by rw [hg]; exact (below_size (zqA HB.out)) : w.heap.size ≤ gb713)); clear HB; have HB := n0_; have BK713 := n1_; have GW713 := n2_; have GE713 := n3_; clear n0_ n1_ n2_ n3_; clear hb hbox hg; have hcz7_0 : w6.cell? ⟨gb713, 0, none⟩ = some (.slice A1_0 l1_0.length c1_0) := (blk_cell BK713.out 0).trans rfl; have hcz7_1 : w6.cell? ⟨gb713, 1, none⟩ = some (.slice A1_1 l1_1.length c1_1) := (blk_cell BK713.out 1).trans rfl; have hfz7_0 := blk_frozen BK713.out 0; have hfz7_1 := blk_frozen BK713.out 1; have p714 : 0 ≤ ((ji3) : Int) := of_decide_eq_true (zqD); have q714 : (ji3) < (l1_0.length : Int) := of_decide_eq_true (zqD); obtain ⟨ad714, e714, hx714_0⟩ := Kd.at_int HR1_0.out (ji3) p714 q714; cases e714; replace hx714_0 := (HB.out.cell (World.block_lt_of_cell? w _ hx714_0)).trans hx714_0; replace p714 := eq_true p714; replace q714 := eq_true q714))
   repeat (go_quiet (first | ((with_reducible refine gate_dst (N := 3) rfl ?_); refine box_event ?hg (N := 3) ?hd (cs := #[.slice A1_0 l1_0.length c1_0, .slice A1_1 l1_1.length c1_1]) (t := 107) ?hr ?_; (case hd => rfl); (case hg => rfl); (case hr => first | (go_simp; done) | (go_simp; rfl)); intro gb713 hg w6 hbox hb; have n0_ := Aside0.mk (below_step (zqA HB.out) hb); have n1_ := Aside0.mk (hbox); have n2_ := Aside0.mk ((by rw [hg]; exact (below_size (zqA HB.out)) : w.heap.size ≤ gb713)); have n3_ := Aside0.mk ((by rw [hg]; exact (below_size (zqA HB.out)) : w.heap.size ≤ gb713)); clear HB; have HB := n0_; have BK713 := n1_; have GW713 := n2_; have GE713 := n3_; clear n0_ n1_ n2_ n3_; clear hb hbox hg; have hcz7_0 : w6.cell? ⟨gb713, 0, none⟩ = some (.slice A1_0 l1_0.length c1_0) := (blk_cell BK713.out 0).trans rfl; have hcz7_1 : w6.cell? ⟨gb713, 1, none⟩ = some (.slice A1_1 l1_1.length c1_1) := (blk_cell BK713.out 1).trans rfl; have hfz7_0 := blk_frozen BK713.out 0; have hfz7_1 := blk_frozen BK713.out 1; have p714 : 0 ≤ ((ji3) : Int) := of_decide_eq_true (zqD); have q714 : (ji3) < (l1_0.length : Int) := of_decide_eq_true (zqD); obtain ⟨ad714, e714, hx714_0⟩ := Kd.at_int HR1_0.out (ji3) p714 q714; cases e714; replace hx714_0 := (HB.out.cell (World.block_lt_of_cell? w _ hx714_0)).trans hx714_0; replace p714 := eq_true p714; replace q714 := eq_true q714)); try go_wp2_with (first | ((with_reducible refine gate_dst (N := 3) rfl ?_); refine box_event ?hg (N := 3) ?hd (cs := #[.slice A1_0 l1_0.length c1_0, .slice A1_1 l1_1.length c1_1]) (t := 107) ?hr ?_; (case hd => rfl); (case hg => rfl); (case hr => first | (go_simp; done) | (go_simp; rfl)); intro gb713 hg w6 hbox hb; have n0_ := Aside0.mk (below_step (zqA HB.out) hb); have n1_ := Aside0.mk (hbox); have n2_ := Aside0.mk ((by rw [hg]; exact (below_size (zqA HB.out)) : w.heap.size ≤ gb713)); have n3_ := Aside0.mk ((by rw [hg]; exact (below_size (zqA HB.out)) : w.heap.size ≤ gb713)); clear HB; have HB := n0_; have BK713 := n1_; have GW713 := n2_; have GE713 := n3_; clear n0_ n1_ n2_ n3_; clear hb hbox hg; have hcz7_0 : w6.cell? ⟨gb713, 0, none⟩ = some (.slice A1_0 l1_0.length c1_0) := (blk_cell BK713.out 0).trans rfl; have hcz7_1 : w6.cell? ⟨gb713, 1, none⟩ = some (.slice A1_1 l1_1.length c1_1) := (blk_cell BK713.out 1).trans rfl; have hfz7_0 := blk_frozen BK713.out 0; have hfz7_1 := blk_frozen BK713.out 1; have p714 : 0 ≤ ((ji3) : Int) := of_decide_eq_true (zqD); have q714 : (ji3) < (l1_0.length : Int) := of_decide_eq_true (zqD); obtain ⟨ad714, e714, hx714_0⟩ := Kd.at_int HR1_0.out (ji3) p714 q714; cases e714; replace hx714_0 := (HB.out.cell (World.block_lt_of_cell? w _ hx714_0)).trans hx714_0; replace p714 := eq_true p714; replace q714 := eq_true q714)))
   go_loopg [4, 5, 20] k (fun kq v4 v5 v20 w' => ∃ (x4_1 : Int) (x5_1 : Int) (x20_1 : Int), v4 = .int .i64 x4_1 ∧ v5 = .int .i64 x5_1 ∧ v20 = .int .i64 x20_1 ∧ Aside0 (pump_bounds_least.l0 kq x4_1 x5_1 (l1_0.length : Int) l0 (l0.length : Int) x20_1 l1_0 l1_1 = some (r1, r2)) ∧ Aside0 (kq ≤ k) ∧ Aside0 (w'.heap[gb713]? = some (.cells #[(.slice (some ad714) l1_0.length c1_0), (.slice A1_1 l1_1.length c1_1)] 107 (0, 0))) ∧ Aside0 (Below w.heap.size w w'))
   case atStart => exact ⟨(rd l1_0 (ji3)), ((-1)), (0), (by first | rfl | (simp; done) | (simp only [← hji3] <;> (first | rfl | simp)) | (simp [*]; done)), (by first | rfl | (simp; done) | (simp [*]; done)), (by first | rfl | (simp; done) | (simp [*]; done)), H', ⟨Nat.le_refl _⟩, ⟨zqB BK713.out⟩, ⟨zqG HB.out GE713.out⟩⟩
   case round =>
    clear H'
    try clear c1
    try clear p2
    try clear c4
    try clear c4b0
    try clear c5
    try clear c5b0
    try clear p6
    try clear p7
    try clear q7
    try clear hx7
    try clear hcz7_0
    try clear hcz7_1
    try clear hfz7_0
    try clear hfz7_1
    try clear hx714_0
    try clear p714
    try clear q714
    obtain ⟨x4_1, x5_1, x20_1, rfl, rfl, rfl, HA, HK1, BK713, HB⟩ := hrel
    cases gk with
    | zero => exact absurd HA.out (by simp [pump_bounds_least.l0])
    | succ k1 =>
     have H := HA.out
     clear HA
     simp only [pump_bounds_least.l0] at H
     by_cases c8 : x20_1 < (l0.length : Int)
     ·
      rw [if_pos c8] at H
      have c8b0 : decide (x20_1 < (l0.length : Int)) = true := decide_eq_true c8
      clear c8
      by_cases c9 : 0 ≤ x20_1
      ·
       rw [if_pos c9] at H
       have c9b0 : decide (0 ≤ x20_1) = true := decide_eq_true c9
       clear c9
       by_cases c10 : x20_1 < (l0.length : Int)
       ·
        rw [if_pos c10] at H
        have c10b0 : decide (x20_1 < (l0.length : Int)) = true := decide_eq_true c10
        clear c10
        by_cases c11 : ((rd_T71 l0 x20_1).f0) ≤ (l1_0.length : Int)
        ·
         rw [if_pos c11] at H
         have c11b0 : decide (((rd_T71 l0 x20_1).f0) ≤ (l1_0.length : Int)) = true := decide_eq_true c11
         clear c11
         obtain ⟨ji12, hji12⟩ : ∃ j_ : Int, (wrap64 ((l1_0.length : Int) - ((rd_T71 l0 x20_1).f0))) = j_ := ⟨_, rfl⟩
         replace H : (if 0 ≤ (ji12) then (if (ji12) < (l1_0.length : Int) then (if (wrap64 ((rd l1_0 (ji12)) + ((rd_T71 l0 x20_1).f1))) > x4_1 then (pump_bounds_least.l0 k1 (wrap64 ((rd l1_0 (ji12)) + ((rd_T71 l0 x20_1).f1))) x20_1 (l1_0.length : Int) l0 (l0.length : Int) (wrap64 (x20_1 + 1)) l1_0 l1_1) else (pump_bounds_least.l0 k1 x4_1 x5_1 (l1_0.length : Int) l0 (l0.length : Int) (wrap64 (x20_1 + 1)) l1_0 l1_1)) else (none)) else (none)) = some (r1, r2) := by first | (rw [hji12] at H; exact H) | (simp only [hji12] at H ⊢; exact H)
         have hji12w : (IntKind.i64.wrap ((l1_0.length : Int) - ((rd_T71 l0 x20_1).f0))) = ji12 := (i64_w _).trans hji12
         by_cases c13 : 0 ≤ (ji12)
         ·
          rw [if_pos c13] at H
          have c13b0 : decide (0 ≤ (ji12)) = true := decide_eq_true c13
          clear c13
          by_cases c14 : (ji12) < (l1_0.length : Int)
          ·
           rw [if_pos c14] at H
           have c14b0 : decide ((ji12) < (l1_0.length : Int)) = true := decide_eq_true c14
           clear c14
           by_cases c15 : (wrap64 ((rd l1_0 (ji12)) + ((rd_T71 l0 x20_1).f1))) > x4_1
           ·
            rw [if_pos c15] at H
            have c15b0 : decide (x4_1 < (wrap64 ((rd l1_0 (ji12)) + ((rd_T71 l0 x20_1).f1)))) = true := decide_eq_true c15
            clear c15
            have H' := Aside0.mk H
            clear H
            have p715 : 0 ≤ (x20_1 : Int) := of_decide_eq_true (zqD)
            have q715 : x20_1 < (l0.length : Int) := of_decide_eq_true (zqD)
            obtain ⟨ad715, e715, hx715_0, hx715_1⟩ := at_T71 HR0.out x20_1 p715 q715
            cases e715
            replace hx715_0 := (HB.out.cell (World.block_lt_of_cell? w _ hx715_0)).trans hx715_0
            replace hx715_1 := (HB.out.cell (World.block_lt_of_cell? w _ hx715_1)).trans hx715_1
            replace p715 := eq_true p715
            replace q715 := eq_true q715
            go_wp2_with (first | ((with_reducible refine gate_dst (N := 8) rfl ?_); refine box_event ?hg (N := 8) ?hd (cs := #[.int .i64 0, .int .i64 0]) (t := 71) ?hr ?_; (case hd => rfl); (case hg => rfl); (case hr => first | (go_simp; done) | (go_simp; rfl)); intro gb716 hg w16 hbox hb; have n0_ := Aside0.mk (blk_below (g := gb713) (o := .cells #[.slice (some ad714) l1_0.length c1_0, .slice A1_1 l1_1.length c1_1] 107 (0, 0)) (zqB BK713.out) hb); have n1_ := Aside0.mk (below_step (zqG HB.out GE713.out) hb); have n2_ := Aside0.mk (hbox); have n3_ := Aside0.mk ((by rw [hg]; exact (below_size (zqG HB.out GE713.out)) : w.heap.size ≤ gb716)); have n4_ := Aside0.mk ((by rw [hg]; exact (below_size (zqG HB.out GE713.out)) : w.heap.size ≤ gb716)); have n5_ := Aside0.mk ((by rw [hg]; exact Nat.ne_of_lt (blk_lt (g := gb713) (o := .cells #[.slice (some ad714) l1_0.length c1_0, .slice A1_1 l1_1.length c1_1] 107 (0, 0)) (zqB BK713.out)) : gb713 ≠ gb716)); have n6_ := Aside0.mk ((by rw [hg]; exact Nat.ne_of_gt (blk_lt (g := gb713) (o := .cells #[.slice (some ad714) l1_0.length c1_0, .slice A1_1 l1_1.length c1_1] 107 (0, 0)) (zqB BK713.out)) : gb716 ≠ gb713)); clear BK713; clear HB; have BK713 := n0_; have HB := n1_; have BK716 := n2_; have GW716 := n3_; have GE716 := n4_; have NB713_716 := n5_; have NB716_713 := n6_; clear n0_ n1_ n2_ n3_ n4_ n5_ n6_; clear hb hbox hg; have hnb17 := NB716_713.out; have hnc17 := NB713_716.out; have hcz18_0 : w16.cell? ⟨gb716, 0, none⟩ = some (.int .i64 0) := (blk_cell BK716.out 0).trans rfl; have hcz18_1 : w16.cell? ⟨gb716, 1, none⟩ = some (.int .i64 0) := (blk_cell BK716.out 1).trans rfl; have hfz18_0 := blk_frozen BK716.out 0; have hfz18_1 := blk_frozen BK716.out 1; have hcz19_0 : w16.cell? ⟨gb713, 0, none⟩ = some (.slice (some ad714) l1_0.length c1_0) := (blk_cell BK713.out 0).trans rfl; have hcz19_1 : w16.cell? ⟨gb713, 1, none⟩ = some (.slice A1_1 l1_1.length c1_1) := (blk_cell BK713.out 1).trans rfl; have hfz19_0 := blk_frozen BK713.out 0; have hfz19_1 := blk_frozen BK713.out 1; have p717 : 0 ≤ ((ji12) : Int) := of_decide_eq_true (zqD); have q717 : (ji12) < (l1_0.length : Int) := of_decide_eq_true (zqD); obtain ⟨ad717, e717, hx717_0⟩ := Kd.at_int HR1_0.out (ji12) p717 q717; obtain rfl : ad714 = ad717 := (by injection e717); have hn717_0 : ad714.block ≠ gb716 := Nat.ne_of_lt (Nat.lt_of_lt_of_le (by have := World.block_lt_of_cell? _ _ hx717_0; first | rwa [add_block] at this | exact this) GW716.out); have hn717_1 : ad714.block ≠ gb716 := Nat.ne_of_lt (Nat.lt_of_lt_of_le (by have := World.block_lt_of_cell? _ _ hx717_0; first | rwa [add_block] at this | exact this) GW716.out); replace hx717_0 := (HB.out.cell (World.block_lt_of_cell? w _ hx717_0)).trans hx717_0; replace hx717_0 := (cell_far (p := ⟨gb716, 0, none⟩) (by first | (rw [add_block]; exact hn717_0) | (show (Addr.add _ _).block ≠ _; rw [add_block]; exact hn717_0) | exact hn717_0) (.int .i64 ((rd_T71 l0 x20_1).f0))).trans hx717_0; replace hx717_0 := (cell_far (p := ⟨gb716, 1, none⟩) (by first | (rw [add_block]; exact hn717_1) | (show (Addr.add _ _).block ≠ _; rw [add_block]; exact hn717_1) | exact hn717_1) (.int .i64 ((rd_T71 l0 x20_1).f1))).trans hx717_0; (try have hy717_0 := fun (n_ : Nat) => (show ((((w16.drewN n_).setCell ⟨gb716, 0, none⟩ (.int .i64 ((rd_T71 l0 x20_1).f0))).setCell ⟨gb716, 1, none⟩ (.int .i64 ((rd_T71 l0 x20_1).f1)))).cell? _ = some _ from hx717_0)); clear hn717_0; clear hn717_1; replace p717 := eq_true p717; replace q717 := eq_true q717; have p718 : 0 ≤ ((ji12) : Int) := of_decide_eq_true (zqD); have q718 : (ji12) < (l1_0.length : Int) := of_decide_eq_true (zqD); obtain ⟨ad718, e718, hx718_0⟩ := Kd.at_int HR1_0.out (ji12) p718 q718; obtain rfl : ad714 = ad718 := (by injection e718); have hn718_0 : ad714.block ≠ gb716 := Nat.ne_of_lt (Nat.lt_of_lt_of_le (by have := World.block_lt_of_cell? _ _ hx718_0; first | rwa [add_block] at this | exact this) GW716.out); have hn718_1 : ad714.block ≠ gb716 := Nat.ne_of_lt (Nat.lt_of_lt_of_le (by have := World.block_lt_of_cell? _ _ hx718_0; first | rwa [add_block] at this | exact this) GW716.out); replace hx718_0 := (HB.out.cell (World.block_lt_of_cell? w _ hx718_0)).trans hx718_0; replace hx718_0 := (cell_far (p := ⟨gb716, 0, none⟩) (by first | (rw [add_block]; exact hn718_0) | (show (Addr.add _ _).block ≠ _; rw [add_block]; exact hn718_0) | exact hn718_0) (.int .i64 ((rd_T71 l0 x20_1).f0))).trans hx718_0; replace hx718_0 := (cell_far (p := ⟨gb716, 1, none⟩) (by first | (rw [add_block]; exact hn718_1) | (show (Addr.add _ _).block ≠ _; rw [add_block]; exact hn718_1) | exact hn718_1) (.int .i64 ((rd_T71 l0 x20_1).f1))).trans hx718_0; (try have hy718_0 := fun (n_ : Nat) => (show ((((w16.drewN n_).setCell ⟨gb716, 0, none⟩ (.int .i64 ((rd_T71 l0 x20_1).f0))).setCell ⟨gb716, 1, none⟩ (.int .i64 ((rd_T71 l0 x20_1).f1)))).cell? _ = some _ from hx718_0)); clear hn718_0; clear hn718_1; replace p718 := eq_true p718; replace q718 := eq_true q718))
            repeat (go_quiet (first | ((with_reducible refine gate_dst (N := 8) rfl ?_); refine box_event ?hg (N := 8) ?hd (cs := #[.int .i64 0, .int .i64 0]) (t := 71) ?hr ?_; (case hd => rfl); (case hg => rfl); (case hr => first | (go_simp; done) | (go_simp; rfl)); intro gb716 hg w16 hbox hb; have n0_ := Aside0.mk (blk_below (g := gb713) (o := .cells #[.slice (some ad714) l1_0.length c1_0, .slice A1_1 l1_1.length c1_1] 107 (0, 0)) (zqB BK713.out) hb); have n1_ := Aside0.mk (below_step (zqG HB.out GE713.out) hb); have n2_ := Aside0.mk (hbox); have n3_ := Aside0.mk ((by rw [hg]; exact (below_size (zqG HB.out GE713.out)) : w.heap.size ≤ gb716)); have n4_ := Aside0.mk ((by rw [hg]; exact (below_size (zqG HB.out GE713.out)) : w.heap.size ≤ gb716)); have n5_ := Aside0.mk ((by rw [hg]; exact Nat.ne_of_lt (blk_lt (g := gb713) (o := .cells #[.slice (some ad714) l1_0.length c1_0, .slice A1_1 l1_1.length c1_1] 107 (0, 0)) (zqB BK713.out)) : gb713 ≠ gb716)); have n6_ := Aside0.mk ((by rw [hg]; exact Nat.ne_of_gt (blk_lt (g := gb713) (o := .cells #[.slice (some ad714) l1_0.length c1_0, .slice A1_1 l1_1.length c1_1] 107 (0, 0)) (zqB BK713.out)) : gb716 ≠ gb713)); clear BK713; clear HB; have BK713 := n0_; have HB := n1_; have BK716 := n2_; have GW716 := n3_; have GE716 := n4_; have NB713_716 := n5_; have NB716_713 := n6_; clear n0_ n1_ n2_ n3_ n4_ n5_ n6_; clear hb hbox hg; have hnb17 := NB716_713.out; have hnc17 := NB713_716.out; have hcz18_0 : w16.cell? ⟨gb716, 0, none⟩ = some (.int .i64 0) := (blk_cell BK716.out 0).trans rfl; have hcz18_1 : w16.cell? ⟨gb716, 1, none⟩ = some (.int .i64 0) := (blk_cell BK716.out 1).trans rfl; have hfz18_0 := blk_frozen BK716.out 0; have hfz18_1 := blk_frozen BK716.out 1; have hcz19_0 : w16.cell? ⟨gb713, 0, none⟩ = some (.slice (some ad714) l1_0.length c1_0) := (blk_cell BK713.out 0).trans rfl; have hcz19_1 : w16.cell? ⟨gb713, 1, none⟩ = some (.slice A1_1 l1_1.length c1_1) := (blk_cell BK713.out 1).trans rfl; have hfz19_0 := blk_frozen BK713.out 0; have hfz19_1 := blk_frozen BK713.out 1; have p717 : 0 ≤ ((ji12) : Int) := of_decide_eq_true (zqD); have q717 : (ji12) < (l1_0.length : Int) := of_decide_eq_true (zqD); obtain ⟨ad717, e717, hx717_0⟩ := Kd.at_int HR1_0.out (ji12) p717 q717; obtain rfl : ad714 = ad717 := (by injection e717); have hn717_0 : ad714.block ≠ gb716 := Nat.ne_of_lt (Nat.lt_of_lt_of_le (by have := World.block_lt_of_cell? _ _ hx717_0; first | rwa [add_block] at this | exact this) GW716.out); have hn717_1 : ad714.block ≠ gb716 := Nat.ne_of_lt (Nat.lt_of_lt_of_le (by have := World.block_lt_of_cell? _ _ hx717_0; first | rwa [add_block] at this | exact this) GW716.out); replace hx717_0 := (HB.out.cell (World.block_lt_of_cell? w _ hx717_0)).trans hx717_0; replace hx717_0 := (cell_far (p := ⟨gb716, 0, none⟩) (by first | (rw [add_block]; exact hn717_0) | (show (Addr.add _ _).block ≠ _; rw [add_block]; exact hn717_0) | exact hn717_0) (.int .i64 ((rd_T71 l0 x20_1).f0))).trans hx717_0; replace hx717_0 := (cell_far (p := ⟨gb716, 1, none⟩) (by first | (rw [add_block]; exact hn717_1) | (show (Addr.add _ _).block ≠ _; rw [add_block]; exact hn717_1) | exact hn717_1) (.int .i64 ((rd_T71 l0 x20_1).f1))).trans hx717_0; (try have hy717_0 := fun (n_ : Nat) => (show ((((w16.drewN n_).setCell ⟨gb716, 0, none⟩ (.int .i64 ((rd_T71 l0 x20_1).f0))).setCell ⟨gb716, 1, none⟩ (.int .i64 ((rd_T71 l0 x20_1).f1)))).cell? _ = some _ from hx717_0)); clear hn717_0; clear hn717_1; replace p717 := eq_true p717; replace q717 := eq_true q717; have p718 : 0 ≤ ((ji12) : Int) := of_decide_eq_true (zqD); have q718 : (ji12) < (l1_0.length : Int) := of_decide_eq_true (zqD); obtain ⟨ad718, e718, hx718_0⟩ := Kd.at_int HR1_0.out (ji12) p718 q718; obtain rfl : ad714 = ad718 := (by injection e718); have hn718_0 : ad714.block ≠ gb716 := Nat.ne_of_lt (Nat.lt_of_lt_of_le (by have := World.block_lt_of_cell? _ _ hx718_0; first | rwa [add_block] at this | exact this) GW716.out); have hn718_1 : ad714.block ≠ gb716 := Nat.ne_of_lt (Nat.lt_of_lt_of_le (by have := World.block_lt_of_cell? _ _ hx718_0; first | rwa [add_block] at this | exact this) GW716.out); replace hx718_0 := (HB.out.cell (World.block_lt_of_cell? w _ hx718_0)).trans hx718_0; replace hx718_0 := (cell_far (p := ⟨gb716, 0, none⟩) (by first | (rw [add_block]; exact hn718_0) | (show (Addr.add _ _).block ≠ _; rw [add_block]; exact hn718_0) | exact hn718_0) (.int .i64 ((rd_T71 l0 x20_1).f0))).trans hx718_0; replace hx718_0 := (cell_far (p := ⟨gb716, 1, none⟩) (by first | (rw [add_block]; exact hn718_1) | (show (Addr.add _ _).block ≠ _; rw [add_block]; exact hn718_1) | exact hn718_1) (.int .i64 ((rd_T71 l0 x20_1).f1))).trans hx718_0; (try have hy718_0 := fun (n_ : Nat) => (show ((((w16.drewN n_).setCell ⟨gb716, 0, none⟩ (.int .i64 ((rd_T71 l0 x20_1).f0))).setCell ⟨gb716, 1, none⟩ (.int .i64 ((rd_T71 l0 x20_1).f1)))).cell? _ = some _ from hx718_0)); clear hn718_0; clear hn718_1; replace p718 := eq_true p718; replace q718 := eq_true q718)); try go_wp2_with (first | ((with_reducible refine gate_dst (N := 8) rfl ?_); refine box_event ?hg (N := 8) ?hd (cs := #[.int .i64 0, .int .i64 0]) (t := 71) ?hr ?_; (case hd => rfl); (case hg => rfl); (case hr => first | (go_simp; done) | (go_simp; rfl)); intro gb716 hg w16 hbox hb; have n0_ := Aside0.mk (blk_below (g := gb713) (o := .cells #[.slice (some ad714) l1_0.length c1_0, .slice A1_1 l1_1.length c1_1] 107 (0, 0)) (zqB BK713.out) hb); have n1_ := Aside0.mk (below_step (zqG HB.out GE713.out) hb); have n2_ := Aside0.mk (hbox); have n3_ := Aside0.mk ((by rw [hg]; exact (below_size (zqG HB.out GE713.out)) : w.heap.size ≤ gb716)); have n4_ := Aside0.mk ((by rw [hg]; exact (below_size (zqG HB.out GE713.out)) : w.heap.size ≤ gb716)); have n5_ := Aside0.mk ((by rw [hg]; exact Nat.ne_of_lt (blk_lt (g := gb713) (o := .cells #[.slice (some ad714) l1_0.length c1_0, .slice A1_1 l1_1.length c1_1] 107 (0, 0)) (zqB BK713.out)) : gb713 ≠ gb716)); have n6_ := Aside0.mk ((by rw [hg]; exact Nat.ne_of_gt (blk_lt (g := gb713) (o := .cells #[.slice (some ad714) l1_0.length c1_0, .slice A1_1 l1_1.length c1_1] 107 (0, 0)) (zqB BK713.out)) : gb716 ≠ gb713)); clear BK713; clear HB; have BK713 := n0_; have HB := n1_; have BK716 := n2_; have GW716 := n3_; have GE716 := n4_; have NB713_716 := n5_; have NB716_713 := n6_; clear n0_ n1_ n2_ n3_ n4_ n5_ n6_; clear hb hbox hg; have hnb17 := NB716_713.out; have hnc17 := NB713_716.out; have hcz18_0 : w16.cell? ⟨gb716, 0, none⟩ = some (.int .i64 0) := (blk_cell BK716.out 0).trans rfl; have hcz18_1 : w16.cell? ⟨gb716, 1, none⟩ = some (.int .i64 0) := (blk_cell BK716.out 1).trans rfl; have hfz18_0 := blk_frozen BK716.out 0; have hfz18_1 := blk_frozen BK716.out 1; have hcz19_0 : w16.cell? ⟨gb713, 0, none⟩ = some (.slice (some ad714) l1_0.length c1_0) := (blk_cell BK713.out 0).trans rfl; have hcz19_1 : w16.cell? ⟨gb713, 1, none⟩ = some (.slice A1_1 l1_1.length c1_1) := (blk_cell BK713.out 1).trans rfl; have hfz19_0 := blk_frozen BK713.out 0; have hfz19_1 := blk_frozen BK713.out 1; have p717 : 0 ≤ ((ji12) : Int) := of_decide_eq_true (zqD); have q717 : (ji12) < (l1_0.length : Int) := of_decide_eq_true (zqD); obtain ⟨ad717, e717, hx717_0⟩ := Kd.at_int HR1_0.out (ji12) p717 q717; obtain rfl : ad714 = ad717 := (by injection e717); have hn717_0 : ad714.block ≠ gb716 := Nat.ne_of_lt (Nat.lt_of_lt_of_le (by have := World.block_lt_of_cell? _ _ hx717_0; first | rwa [add_block] at this | exact this) GW716.out); have hn717_1 : ad714.block ≠ gb716 := Nat.ne_of_lt (Nat.lt_of_lt_of_le (by have := World.block_lt_of_cell? _ _ hx717_0; first | rwa [add_block] at this | exact this) GW716.out); replace hx717_0 := (HB.out.cell (World.block_lt_of_cell? w _ hx717_0)).trans hx717_0; replace hx717_0 := (cell_far (p := ⟨gb716, 0, none⟩) (by first | (rw [add_block]; exact hn717_0) | (show (Addr.add _ _).block ≠ _; rw [add_block]; exact hn717_0) | exact hn717_0) (.int .i64 ((rd_T71 l0 x20_1).f0))).trans hx717_0; replace hx717_0 := (cell_far (p := ⟨gb716, 1, none⟩) (by first | (rw [add_block]; exact hn717_1) | (show (Addr.add _ _).block ≠ _; rw [add_block]; exact hn717_1) | exact hn717_1) (.int .i64 ((rd_T71 l0 x20_1).f1))).trans hx717_0; (try have hy717_0 := fun (n_ : Nat) => (show ((((w16.drewN n_).setCell ⟨gb716, 0, none⟩ (.int .i64 ((rd_T71 l0 x20_1).f0))).setCell ⟨gb716, 1, none⟩ (.int .i64 ((rd_T71 l0 x20_1).f1)))).cell? _ = some _ from hx717_0)); clear hn717_0; clear hn717_1; replace p717 := eq_true p717; replace q717 := eq_true q717; have p718 : 0 ≤ ((ji12) : Int) := of_decide_eq_true (zqD); have q718 : (ji12) < (l1_0.length : Int) := of_decide_eq_true (zqD); obtain ⟨ad718, e718, hx718_0⟩ := Kd.at_int HR1_0.out (ji12) p718 q718; obtain rfl : ad714 = ad718 := (by injection e718); have hn718_0 : ad714.block ≠ gb716 := Nat.ne_of_lt (Nat.lt_of_lt_of_le (by have := World.block_lt_of_cell? _ _ hx718_0; first | rwa [add_block] at this | exact this) GW716.out); have hn718_1 : ad714.block ≠ gb716 := Nat.ne_of_lt (Nat.lt_of_lt_of_le (by have := World.block_lt_of_cell? _ _ hx718_0; first | rwa [add_block] at this | exact this) GW716.out); replace hx718_0 := (HB.out.cell (World.block_lt_of_cell? w _ hx718_0)).trans hx718_0; replace hx718_0 := (cell_far (p := ⟨gb716, 0, none⟩) (by first | (rw [add_block]; exact hn718_0) | (show (Addr.add _ _).block ≠ _; rw [add_block]; exact hn718_0) | exact hn718_0) (.int .i64 ((rd_T71 l0 x20_1).f0))).trans hx718_0; replace hx718_0 := (cell_far (p := ⟨gb716, 1, none⟩) (by first | (rw [add_block]; exact hn718_1) | (show (Addr.add _ _).block ≠ _; rw [add_block]; exact hn718_1) | exact hn718_1) (.int .i64 ((rd_T71 l0 x20_1).f1))).trans hx718_0; (try have hy718_0 := fun (n_ : Nat) => (show ((((w16.drewN n_).setCell ⟨gb716, 0, none⟩ (.int .i64 ((rd_T71 l0 x20_1).f0))).setCell ⟨gb716, 1, none⟩ (.int .i64 ((rd_T71 l0 x20_1).f1)))).cell? _ = some _ from hx718_0)); clear hn718_0; clear hn718_1; replace p718 := eq_true p718; replace q718 := eq_true q718)))
            go_roundg k1
            case measure => have := HK1.out; omega
            case rel => exact ⟨(wrap64 ((rd l1_0 (ji12)) + ((rd_T71 l0 x20_1).f1))), (x20_1), (wrap64 (x20_1 + 1)), (by first | rfl | (simp; done) | (simp only [← hji12] <;> (first | rfl | simp)) | (simp [*]; done)), (by first | rfl | (simp; done) | (simp [*]; done)), (by first | rfl | (simp; done) | (simp [*]; done)), H', ⟨by have := HK1.out; omega⟩, ⟨by (with_reducible repeat (first | refine blk_drewN ?_ _ | refine blk_drew ?_ | refine blk_alloc ?_ _)); refine blk_far ?_ NB713_716.out _; (with_reducible repeat (first | refine blk_drewN ?_ _ | refine blk_drew ?_ | refine blk_alloc ?_ _)); refine blk_far ?_ NB713_716.out _; (with_reducible repeat (first | refine blk_drewN ?_ _ | refine blk_drew ?_ | refine blk_alloc ?_ _)); exact BK713.out⟩, ⟨zqH HB.out GE713.out GE716.out⟩⟩
           ·
            rw [if_neg c15] at H
            have c15b0 : decide (x4_1 < (wrap64 ((rd l1_0 (ji12)) + ((rd_T71 l0 x20_1).f1)))) = false := decide_eq_false c15
            clear c15
            have H' := Aside0.mk H
            clear H
            have p715 : 0 ≤ (x20_1 : Int) := of_decide_eq_true (zqD)
            have q715 : x20_1 < (l0.length : Int) := of_decide_eq_true (zqD)
            obtain ⟨ad715, e715, hx715_0, hx715_1⟩ := at_T71 HR0.out x20_1 p715 q715
            cases e715
            replace hx715_0 := (HB.out.cell (World.block_lt_of_cell? w _ hx715_0)).trans hx715_0
            replace hx715_1 := (HB.out.cell (World.block_lt_of_cell? w _ hx715_1)).trans hx715_1
            replace p715 := eq_true p715
            replace q715 := eq_true q715
            go_wp2_with (first | ((with_reducible refine gate_dst (N := 8) rfl ?_); refine box_event ?hg (N := 8) ?hd (cs := #[.int .i64 0, .int .i64 0]) (t := 71) ?hr ?_; (case hd => rfl); (case hg => rfl); (case hr => first | (go_simp; done) | (go_simp; rfl)); intro gb716 hg w20 hbox hb; have n0_ := Aside0.mk (blk_below (g := gb713) (o := .cells #[.slice (some ad714) l1_0.length c1_0, .slice A1_1 l1_1.length c1_1] 107 (0, 0)) (zqB BK713.out) hb); have n1_ := Aside0.mk (below_step (zqG HB.out GE713.out) hb); have n2_ := Aside0.mk (hbox); have n3_ := Aside0.mk ((by rw [hg]; exact (below_size (zqG HB.out GE713.out)) : w.heap.size ≤ gb716)); have n4_ := Aside0.mk ((by rw [hg]; exact (below_size (zqG HB.out GE713.out)) : w.heap.size ≤ gb716)); have n5_ := Aside0.mk ((by rw [hg]; exact Nat.ne_of_lt (blk_lt (g := gb713) (o := .cells #[.slice (some ad714) l1_0.length c1_0, .slice A1_1 l1_1.length c1_1] 107 (0, 0)) (zqB BK713.out)) : gb713 ≠ gb716)); have n6_ := Aside0.mk ((by rw [hg]; exact Nat.ne_of_gt (blk_lt (g := gb713) (o := .cells #[.slice (some ad714) l1_0.length c1_0, .slice A1_1 l1_1.length c1_1] 107 (0, 0)) (zqB BK713.out)) : gb716 ≠ gb713)); clear BK713; clear HB; have BK713 := n0_; have HB := n1_; have BK716 := n2_; have GW716 := n3_; have GE716 := n4_; have NB713_716 := n5_; have NB716_713 := n6_; clear n0_ n1_ n2_ n3_ n4_ n5_ n6_; clear hb hbox hg; have hnb21 := NB716_713.out; have hnc21 := NB713_716.out; have hcz22_0 : w20.cell? ⟨gb716, 0, none⟩ = some (.int .i64 0) := (blk_cell BK716.out 0).trans rfl; have hcz22_1 : w20.cell? ⟨gb716, 1, none⟩ = some (.int .i64 0) := (blk_cell BK716.out 1).trans rfl; have hfz22_0 := blk_frozen BK716.out 0; have hfz22_1 := blk_frozen BK716.out 1; have hcz23_0 : w20.cell? ⟨gb713, 0, none⟩ = some (.slice (some ad714) l1_0.length c1_0) := (blk_cell BK713.out 0).trans rfl; have hcz23_1 : w20.cell? ⟨gb713, 1, none⟩ = some (.slice A1_1 l1_1.length c1_1) := (blk_cell BK713.out 1).trans rfl; have hfz23_0 := blk_frozen BK713.out 0; have hfz23_1 := blk_frozen BK713.out 1; have p717 : 0 ≤ ((ji12) : Int) := of_decide_eq_true (zqD); have q717 : (ji12) < (l1_0.length : Int) := of_decide_eq_true (zqD); obtain ⟨ad717, e717, hx717_0⟩ := Kd.at_int HR1_0.out (ji12) p717 q717; obtain rfl : ad714 = ad717 := (by injection e717); have hn717_0 : ad714.block ≠ gb716 := Nat.ne_of_lt (Nat.lt_of_lt_of_le (by have := World.block_lt_of_cell? _ _ hx717_0; first | rwa [add_block] at this | exact this) GW716.out); have hn717_1 : ad714.block ≠ gb716 := Nat.ne_of_lt (Nat.lt_of_lt_of_le (by have := World.block_lt_of_cell? _ _ hx717_0; first | rwa [add_block] at this | exact this) GW716.out); replace hx717_0 := (HB.out.cell (World.block_lt_of_cell? w _ hx717_0)).trans hx717_0; replace hx717_0 := (cell_far (p := ⟨gb716, 0, none⟩) (by first | (rw [add_block]; exact hn717_0) | (show (Addr.add _ _).block ≠ _; rw [add_block]; exact hn717_0) | exact hn717_0) (.int .i64 ((rd_T71 l0 x20_1).f0))).trans hx717_0; replace hx717_0 := (cell_far (p := ⟨gb716, 1, none⟩) (by first | (rw [add_block]; exact hn717_1) | (show (Addr.add _ _).block ≠ _; rw [add_block]; exact hn717_1) | exact hn717_1) (.int .i64 ((rd_T71 l0 x20_1).f1))).trans hx717_0; (try have hy717_0 := fun (n_ : Nat) => (show ((((w20.drewN n_).setCell ⟨gb716, 0, none⟩ (.int .i64 ((rd_T71 l0 x20_1).f0))).setCell ⟨gb716, 1, none⟩ (.int .i64 ((rd_T71 l0 x20_1).f1)))).cell? _ = some _ from hx717_0)); clear hn717_0; clear hn717_1; replace p717 := eq_true p717; replace q717 := eq_true q717))
            repeat (go_quiet (first | ((with_reducible refine gate_dst (N := 8) rfl ?_); refine box_event ?hg (N := 8) ?hd (cs := #[.int .i64 0, .int .i64 0]) (t := 71) ?hr ?_; (case hd => rfl); (case hg => rfl); (case hr => first | (go_simp; done) | (go_simp; rfl)); intro gb716 hg w20 hbox hb; have n0_ := Aside0.mk (blk_below (g := gb713) (o := .cells #[.slice (some ad714) l1_0.length c1_0, .slice A1_1 l1_1.length c1_1] 107 (0, 0)) (zqB BK713.out) hb); have n1_ := Aside0.mk (below_step (zqG HB.out GE713.out) hb); have n2_ := Aside0.mk (hbox); have n3_ := Aside0.mk ((by rw [hg]; exact (below_size (zqG HB.out GE713.out)) : w.heap.size ≤ gb716)); have n4_ := Aside0.mk ((by rw [hg]; exact (below_size (zqG HB.out GE713.out)) : w.heap.size ≤ gb716)); have n5_ := Aside0.mk ((by rw [hg]; exact Nat.ne_of_lt (blk_lt (g := gb713) (o := .cells #[.slice (some ad714) l1_0.length c1_0, .slice A1_1 l1_1.length c1_1] 107 (0, 0)) (zqB BK713.out)) : gb713 ≠ gb716)); have n6_ := Aside0.mk ((by rw [hg]; exact Nat.ne_of_gt (blk_lt (g := gb713) (o := .cells #[.slice (some ad714) l1_0.length c1_0, .slice A1_1 l1_1.length c1_1] 107 (0, 0)) (zqB BK713.out)) : gb716 ≠ gb713)); clear BK713; clear HB; have BK713 := n0_; have HB := n1_; have BK716 := n2_; have GW716 := n3_; have GE716 := n4_; have NB713_716 := n5_; have NB716_713 := n6_; clear n0_ n1_ n2_ n3_ n4_ n5_ n6_; clear hb hbox hg; have hnb21 := NB716_713.out; have hnc21 := NB713_716.out; have hcz22_0 : w20.cell? ⟨gb716, 0, none⟩ = some (.int .i64 0) := (blk_cell BK716.out 0).trans rfl; have hcz22_1 : w20.cell? ⟨gb716, 1, none⟩ = some (.int .i64 0) := (blk_cell BK716.out 1).trans rfl; have hfz22_0 := blk_frozen BK716.out 0; have hfz22_1 := blk_frozen BK716.out 1; have hcz23_0 : w20.cell? ⟨gb713, 0, none⟩ = some (.slice (some ad714) l1_0.length c1_0) := (blk_cell BK713.out 0).trans rfl; have hcz23_1 : w20.cell? ⟨gb713, 1, none⟩ = some (.slice A1_1 l1_1.length c1_1) := (blk_cell BK713.out 1).trans rfl; have hfz23_0 := blk_frozen BK713.out 0; have hfz23_1 := blk_frozen BK713.out 1; have p717 : 0 ≤ ((ji12) : Int) := of_decide_eq_true (zqD); have q717 : (ji12) < (l1_0.length : Int) := of_decide_eq_true (zqD); obtain ⟨ad717, e717, hx717_0⟩ := Kd.at_int HR1_0.out (ji12) p717 q717; obtain rfl : ad714 = ad717 := (by injection e717); have hn717_0 : ad714.block ≠ gb716 := Nat.ne_of_lt (Nat.lt_of_lt_of_le (by have := World.block_lt_of_cell? _ _ hx717_0; first | rwa [add_block] at this | exact this) GW716.out); have hn717_1 : ad714.block ≠ gb716 := Nat.ne_of_lt (Nat.lt_of_lt_of_le (by have := World.block_lt_of_cell? _ _ hx717_0; first | rwa [add_block] at this | exact this) GW716.out); replace hx717_0 := (HB.out.cell (World.block_lt_of_cell? w _ hx717_0)).trans hx717_0; replace hx717_0 := (cell_far (p := ⟨gb716, 0, none⟩) (by first | (rw [add_block]; exact hn717_0) | (show (Addr.add _ _).block ≠ _; rw [add_block]; exact hn717_0) | exact hn717_0) (.int .i64 ((rd_T71 l0 x20_1).f0))).trans hx717_0; replace hx717_0 := (cell_far (p := ⟨gb716, 1, none⟩) (by first | (rw [add_block]; exact hn717_1) | (show (Addr.add _ _).block ≠ _; rw [add_block]; exact hn717_1) | exact hn717_1) (.int .i64 ((rd_T71 l0 x20_1).f1))).trans hx717_0; (try have hy717_0 := fun (n_ : Nat) => (show ((((w20.drewN n_).setCell ⟨gb716, 0, none⟩ (.int .i64 ((rd_T71 l0 x20_1).f0))).setCell ⟨gb716, 1, none⟩ (.int .i64 ((rd_T71 l0 x20_1).f1)))).cell? _ = some _ from hx717_0)); clear hn717_0; clear hn717_1; replace p717 := eq_true p717; replace q717 := eq_true q717)); try go_wp2_with (first | ((with_reducible refine gate_dst (N := 8) rfl ?_); refine box_event ?hg (N := 8) ?hd (cs := #[.int .i64 0, .int .i64 0]) (t := 71) ?hr ?_; (case hd => rfl); (case hg => rfl); (case hr => first | (go_simp; done) | (go_simp; rfl)); intro gb716 hg w20 hbox hb; have n0_ := Aside0.mk (blk_below (g := gb713) (o := .cells #[.slice (some ad714) l1_0.length c1_0, .slice A1_1 l1_1.length c1_1] 107 (0, 0)) (zqB BK713.out) hb); have n1_ := Aside0.mk (below_step (zqG HB.out GE713.out) hb); have n2_ := Aside0.mk (hbox); have n3_ := Aside0.mk ((by rw [hg]; exact (below_size (zqG HB.out GE713.out)) : w.heap.size ≤ gb716)); have n4_ := Aside0.mk ((by rw [hg]; exact (below_size (zqG HB.out GE713.out)) : w.heap.size ≤ gb716)); have n5_ := Aside0.mk ((by rw [hg]; exact Nat.ne_of_lt (blk_lt (g := gb713) (o := .cells #[.slice (some ad714) l1_0.length c1_0, .slice A1_1 l1_1.length c1_1] 107 (0, 0)) (zqB BK713.out)) : gb713 ≠ gb716)); have n6_ := Aside0.mk ((by rw [hg]; exact Nat.ne_of_gt (blk_lt (g := gb713) (o := .cells #[.slice (some ad714) l1_0.length c1_0, .slice A1_1 l1_1.length c1_1] 107 (0, 0)) (zqB BK713.out)) : gb716 ≠ gb713)); clear BK713; clear HB; have BK713 := n0_; have HB := n1_; have BK716 := n2_; have GW716 := n3_; have GE716 := n4_; have NB713_716 := n5_; have NB716_713 := n6_; clear n0_ n1_ n2_ n3_ n4_ n5_ n6_; clear hb hbox hg; have hnb21 := NB716_713.out; have hnc21 := NB713_716.out; have hcz22_0 : w20.cell? ⟨gb716, 0, none⟩ = some (.int .i64 0) := (blk_cell BK716.out 0).trans rfl; have hcz22_1 : w20.cell? ⟨gb716, 1, none⟩ = some (.int .i64 0) := (blk_cell BK716.out 1).trans rfl; have hfz22_0 := blk_frozen BK716.out 0; have hfz22_1 := blk_frozen BK716.out 1; have hcz23_0 : w20.cell? ⟨gb713, 0, none⟩ = some (.slice (some ad714) l1_0.length c1_0) := (blk_cell BK713.out 0).trans rfl; have hcz23_1 : w20.cell? ⟨gb713, 1, none⟩ = some (.slice A1_1 l1_1.length c1_1) := (blk_cell BK713.out 1).trans rfl; have hfz23_0 := blk_frozen BK713.out 0; have hfz23_1 := blk_frozen BK713.out 1; have p717 : 0 ≤ ((ji12) : Int) := of_decide_eq_true (zqD); have q717 : (ji12) < (l1_0.length : Int) := of_decide_eq_true (zqD); obtain ⟨ad717, e717, hx717_0⟩ := Kd.at_int HR1_0.out (ji12) p717 q717; obtain rfl : ad714 = ad717 := (by injection e717); have hn717_0 : ad714.block ≠ gb716 := Nat.ne_of_lt (Nat.lt_of_lt_of_le (by have := World.block_lt_of_cell? _ _ hx717_0; first | rwa [add_block] at this | exact this) GW716.out); have hn717_1 : ad714.block ≠ gb716 := Nat.ne_of_lt (Nat.lt_of_lt_of_le (by have := World.block_lt_of_cell? _ _ hx717_0; first | rwa [add_block] at this | exact this) GW716.out); replace hx717_0 := (HB.out.cell (World.block_lt_of_cell? w _ hx717_0)).trans hx717_0; replace hx717_0 := (cell_far (p := ⟨gb716, 0, none⟩) (by first | (rw [add_block]; exact hn717_0) | (show (Addr.add _ _).block ≠ _; rw [add_block]; exact hn717_0) | exact hn717_0) (.int .i64 ((rd_T71 l0 x20_1).f0))).trans hx717_0; replace hx717_0 := (cell_far (p := ⟨gb716, 1, none⟩) (by first | (rw [add_block]; exact hn717_1) | (show (Addr.add _ _).block ≠ _; rw [add_block]; exact hn717_1) | exact hn717_1) (.int .i64 ((rd_T71 l0 x20_1).f1))).trans hx717_0; (try have hy717_0 := fun (n_ : Nat) => (show ((((w20.drewN n_).setCell ⟨gb716, 0, none⟩ (.int .i64 ((rd_T71 l0 x20_1).f0))).setCell ⟨gb716, 1, none⟩ (.int .i64 ((rd_T71 l0 x20_1).f1)))).cell? _ = some _ from hx717_0)); clear hn717_0; clear hn717_1; replace p717 := eq_true p717; replace q717 := eq_true q717)))
            go_roundg k1
            case measure => have := HK1.out; omega
            case rel => exact ⟨(x4_1), (x5_1), (wrap64 (x20_1 + 1)), (by first | rfl | (simp; done) | (simp [*]; done)), (by first | rfl | (simp; done) | (simp [*]; done)), (by first | rfl | (simp; done) | (simp [*]; done)), H', ⟨by have := HK1.out; omega⟩, ⟨by (with_reducible repeat (first | refine blk_drewN ?_ _ | refine blk_drew ?_ | refine blk_alloc ?_ _)); refine blk_far ?_ NB713_716.out _; (with_reducible repeat (first | refine blk_drewN ?_ _ | refine blk_drew ?_ | refine blk_alloc ?_ _)); refine blk_far ?_ NB713_716.out _; (with_reducible repeat (first | refine blk_drewN ?_ _ | refine blk_drew ?_ | refine blk_alloc ?_ _)); exact BK713.out⟩, ⟨zqH HB.out GE713.out GE716.out⟩⟩
          ·
           rw [if_neg c14] at H
           exact absurd H (by simp)
         ·
          rw [if_neg c13] at H
          exact absurd H (by simp)
        ·
         rw [if_neg c11] at H
         have c11b0 : decide (((rd_T71 l0 x20_1).f0) ≤ (l1_0.length : Int)) = false := decide_eq_false c11
         clear c11
         have H' := Aside0.mk H
         clear H
         have p715 : 0 ≤ (x20_1 : Int) := of_decide_eq_true (zqD)
         have q715 : x20_1 < (l0.length : Int) := of_decide_eq_true (zqD)
         obtain ⟨ad715, e715, hx715_0, hx715_1⟩ := at_T71 HR0.out x20_1 p715 q715
         cases e715
         replace hx715_0 := (HB.out.cell (World.block_lt_of_cell? w _ hx715_0)).trans hx715_0
         replace hx715_1 := (HB.out.cell (World.block_lt_of_cell? w _ hx715_1)).trans hx715_1
         replace p715 := eq_true p715
         replace q715 := eq_true q715
         go_wp2_with (first | ((with_reducible refine gate_dst (N := 8) rfl ?_); refine box_event ?hg (N := 8) ?hd (cs := #[.int .i64 0, .int .i64 0]) (t := 71) ?hr ?_; (case hd => rfl); (case hg => rfl); (case hr => first | (go_simp; done) | (go_simp; rfl)); intro gb716 hg w24 hbox hb; have n0_ := Aside0.mk (blk_below (g := gb713) (o := .cells #[.slice (some ad714) l1_0.length c1_0, .slice A1_1 l1_1.length c1_1] 107 (0, 0)) (zqB BK713.out) hb); have n1_ := Aside0.mk (below_step (zqG HB.out GE713.out) hb); have n2_ := Aside0.mk (hbox); have n3_ := Aside0.mk ((by rw [hg]; exact (below_size (zqG HB.out GE713.out)) : w.heap.size ≤ gb716)); have n4_ := Aside0.mk ((by rw [hg]; exact (below_size (zqG HB.out GE713.out)) : w.heap.size ≤ gb716)); have n5_ := Aside0.mk ((by rw [hg]; exact Nat.ne_of_lt (blk_lt (g := gb713) (o := .cells #[.slice (some ad714) l1_0.length c1_0, .slice A1_1 l1_1.length c1_1] 107 (0, 0)) (zqB BK713.out)) : gb713 ≠ gb716)); have n6_ := Aside0.mk ((by rw [hg]; exact Nat.ne_of_gt (blk_lt (g := gb713) (o := .cells #[.slice (some ad714) l1_0.length c1_0, .slice A1_1 l1_1.length c1_1] 107 (0, 0)) (zqB BK713.out)) : gb716 ≠ gb713)); clear BK713; clear HB; have BK713 := n0_; have HB := n1_; have BK716 := n2_; have GW716 := n3_; have GE716 := n4_; have NB713_716 := n5_; have NB716_713 := n6_; clear n0_ n1_ n2_ n3_ n4_ n5_ n6_; clear hb hbox hg; have hnb25 := NB716_713.out; have hnc25 := NB713_716.out; have hcz26_0 : w24.cell? ⟨gb716, 0, none⟩ = some (.int .i64 0) := (blk_cell BK716.out 0).trans rfl; have hcz26_1 : w24.cell? ⟨gb716, 1, none⟩ = some (.int .i64 0) := (blk_cell BK716.out 1).trans rfl; have hfz26_0 := blk_frozen BK716.out 0; have hfz26_1 := blk_frozen BK716.out 1))
         repeat (go_quiet (first | ((with_reducible refine gate_dst (N := 8) rfl ?_); refine box_event ?hg (N := 8) ?hd (cs := #[.int .i64 0, .int .i64 0]) (t := 71) ?hr ?_; (case hd => rfl); (case hg => rfl); (case hr => first | (go_simp; done) | (go_simp; rfl)); intro gb716 hg w24 hbox hb; have n0_ := Aside0.mk (blk_below (g := gb713) (o := .cells #[.slice (some ad714) l1_0.length c1_0, .slice A1_1 l1_1.length c1_1] 107 (0, 0)) (zqB BK713.out) hb); have n1_ := Aside0.mk (below_step (zqG HB.out GE713.out) hb); have n2_ := Aside0.mk (hbox); have n3_ := Aside0.mk ((by rw [hg]; exact (below_size (zqG HB.out GE713.out)) : w.heap.size ≤ gb716)); have n4_ := Aside0.mk ((by rw [hg]; exact (below_size (zqG HB.out GE713.out)) : w.heap.size ≤ gb716)); have n5_ := Aside0.mk ((by rw [hg]; exact Nat.ne_of_lt (blk_lt (g := gb713) (o := .cells #[.slice (some ad714) l1_0.length c1_0, .slice A1_1 l1_1.length c1_1] 107 (0, 0)) (zqB BK713.out)) : gb713 ≠ gb716)); have n6_ := Aside0.mk ((by rw [hg]; exact Nat.ne_of_gt (blk_lt (g := gb713) (o := .cells #[.slice (some ad714) l1_0.length c1_0, .slice A1_1 l1_1.length c1_1] 107 (0, 0)) (zqB BK713.out)) : gb716 ≠ gb713)); clear BK713; clear HB; have BK713 := n0_; have HB := n1_; have BK716 := n2_; have GW716 := n3_; have GE716 := n4_; have NB713_716 := n5_; have NB716_713 := n6_; clear n0_ n1_ n2_ n3_ n4_ n5_ n6_; clear hb hbox hg; have hnb25 := NB716_713.out; have hnc25 := NB713_716.out; have hcz26_0 : w24.cell? ⟨gb716, 0, none⟩ = some (.int .i64 0) := (blk_cell BK716.out 0).trans rfl; have hcz26_1 : w24.cell? ⟨gb716, 1, none⟩ = some (.int .i64 0) := (blk_cell BK716.out 1).trans rfl; have hfz26_0 := blk_frozen BK716.out 0; have hfz26_1 := blk_frozen BK716.out 1)); try go_wp2_with (first | ((with_reducible refine gate_dst (N := 8) rfl ?_); refine box_event ?hg (N := 8) ?hd (cs := #[.int .i64 0, .int .i64 0]) (t := 71) ?hr ?_; (case hd => rfl); (case hg => rfl); (case hr => first | (go_simp; done) | (go_simp; rfl)); intro gb716 hg w24 hbox hb; have n0_ := Aside0.mk (blk_below (g := gb713) (o := .cells #[.slice (some ad714) l1_0.length c1_0, .slice A1_1 l1_1.length c1_1] 107 (0, 0)) (zqB BK713.out) hb); have n1_ := Aside0.mk (below_step (zqG HB.out GE713.out) hb); have n2_ := Aside0.mk (hbox); have n3_ := Aside0.mk ((by rw [hg]; exact (below_size (zqG HB.out GE713.out)) : w.heap.size ≤ gb716)); have n4_ := Aside0.mk ((by rw [hg]; exact (below_size (zqG HB.out GE713.out)) : w.heap.size ≤ gb716)); have n5_ := Aside0.mk ((by rw [hg]; exact Nat.ne_of_lt (blk_lt (g := gb713) (o := .cells #[.slice (some ad714) l1_0.length c1_0, .slice A1_1 l1_1.length c1_1] 107 (0, 0)) (zqB BK713.out)) : gb713 ≠ gb716)); have n6_ := Aside0.mk ((by rw [hg]; exact Nat.ne_of_gt (blk_lt (g := gb713) (o := .cells #[.slice (some ad714) l1_0.length c1_0, .slice A1_1 l1_1.length c1_1] 107 (0, 0)) (zqB BK713.out)) : gb716 ≠ gb713)); clear BK713; clear HB; have BK713 := n0_; have HB := n1_; have BK716 := n2_; have GW716 := n3_; have GE716 := n4_; have NB713_716 := n5_; have NB716_713 := n6_; clear n0_ n1_ n2_ n3_ n4_ n5_ n6_; clear hb hbox hg; have hnb25 := NB716_713.out; have hnc25 := NB713_716.out; have hcz26_0 : w24.cell? ⟨gb716, 0, none⟩ = some (.int .i64 0) := (blk_cell BK716.out 0).trans rfl; have hcz26_1 : w24.cell? ⟨gb716, 1, none⟩ = some (.int .i64 0) := (blk_cell BK716.out 1).trans rfl; have hfz26_0 := blk_frozen BK716.out 0; have hfz26_1 := blk_frozen BK716.out 1)))
         go_roundg k1
         case measure => have := HK1.out; omega
         case rel => exact ⟨(x4_1), (x5_1), (wrap64 (x20_1 + 1)), (by first | rfl | (simp; done) | (simp [*]; done)), (by first | rfl | (simp; done) | (simp [*]; done)), (by first | rfl | (simp; done) | (simp [*]; done)), H', ⟨by have := HK1.out; omega⟩, ⟨by (with_reducible repeat (first | refine blk_drewN ?_ _ | refine blk_drew ?_ | refine blk_alloc ?_ _)); refine blk_far ?_ NB713_716.out _; (with_reducible repeat (first | refine blk_drewN ?_ _ | refine blk_drew ?_ | refine blk_alloc ?_ _)); refine blk_far ?_ NB713_716.out _; (with_reducible repeat (first | refine blk_drewN ?_ _ | refine blk_drew ?_ | refine blk_alloc ?_ _)); exact BK713.out⟩, ⟨zqH HB.out GE713.out GE716.out⟩⟩
       ·
        rw [if_neg c10] at H
        exact absurd H (by simp)
      ·
       rw [if_neg c9] at H
       exact absurd H (by simp)
     ·
      rw [if_neg c8] at H
      have c8b0 : decide (x20_1 < (l0.length : Int)) = false := decide_eq_false c8
      clear c8
      simp only [Option.some.injEq, Prod.mk.injEq] at H
      obtain ⟨rfl, rfl⟩ := H
      go_wp2
      repeat (go_quiet (fail); try go_wp2)
      go_ret2
      exact ⟨by first | rfl | (simp [errW_none, errW_some] <;> rfl) | (simp only [← hji3]; first | rfl | (simp [errW_none, errW_some] <;> rfl)) | (simp [*, errW_none, errW_some] <;> rfl), zqG HB.out GE713.out⟩
  ·
   rw [if_neg c5] at H
   exact absurd H (by simp)
 ·
  rw [if_neg c4] at H
  exact absurd H (by simp)
end Go.Proofs.Ythoeindopljmkaa.P
end
section
namespace Go.Proofs.Ythoeindopljmkaa.P
open Go.RowKit Go.Proofs.YthoeindopljmkaaW.PrintWords Go.Proofs.YthoeindopljmkaaW.PrintLast Go.Proofs.YthoeindopljmkaaW.PrintMore
attribute [local go_sem] max2_int min2_int max_two min_two max_three min_three max_four min_four
set_option linter.unusedVariables false
set_option linter.unusedSimpArgs false
def pianolalaw04_numbers.l0 : Nat → List Int → List Int → Int → Option (Bool)
  | 0, _, _, _ => none
  | k + 1, x0, x1, x5 => if x5 < (x0.length : Int) then (if 0 ≤ x5 then (if x5 < (x1.length : Int) then (if (rd x0 x5) = (rd x1 x5) then (pianolalaw04_numbers.l0 k x0 x1 (wrap64 (x5 + 1))) else (some false)) else (none)) else (none)) else (some true)
def pianolalaw04_numbers.f (k : Nat) (l0 : List Int) (l1 : List Int) : Option (Bool) := if (l0.length : Int) = (l1.length : Int) then (pianolalaw04_numbers.l0 k l0 l1 0) else (some false)
set_option maxHeartbeats 8000000 in
set_option maxRecDepth 100000 in
theorem pianolalaw04_numbers.calls (k : Nat) (A0 : Option Addr) (c0 : Nat) (l0 : List Int) (A1 : Option Addr) (c1 : Nat) (l1 : List Int) (r : Bool) (w : World) (hr0 : Kd.C (Kd.int .i64) w A0 l0.length l0) (hc0 : l0.length ≤ c0) (hr1 : Kd.C (Kd.int .i64) w A1 l1.length l1) (hc1 : l1.length ≤ c1) (h : pianolalaw04_numbers.f k l0 l1 = some r) :
  Calls Try.prog 39 #[.slice A0 l0.length c0, .slice A1 l1.length c1] w fun e w' => e = .returned (.bool r) ∧ Drawn0 w w' := by
 have HR0 := Aside0.mk hr0
 have HC0 := Aside0.mk hc0
 clear hr0 hc0
 have HR1 := Aside0.mk hr1
 have HC1 := Aside0.mk hc1
 clear hr1 hc1
 have H : (if (l0.length : Int) = (l1.length : Int) then (pianolalaw04_numbers.l0 k l0 l1 0) else (some false)) = some r := h
 clear h
 by_cases c3 : (l0.length : Int) = (l1.length : Int)
 ·
  rw [if_pos c3] at H
  have c3b0 : ((l0.length : Int) == (l1.length : Int)) = true := beq_iff_eq.mpr c3
  have c3b1 : ((l0.length : Int) != (l1.length : Int)) = false := bne_eq_false_iff_eq.mpr c3
  have c3b2 : (l0.length == l1.length) = true := by first | simpa using c3 | (simp at c3 ⊢; omega)
  clear c3
  have H' := Aside0.mk H
  clear H
  go_enter Try.func39, Try.ntmps39
  go_wp2
  repeat (go_quiet (fail); try go_wp2)
  go_loopg [5] k (fun kq v5 w' => ∃ (x5_1 : Int), v5 = .int .i64 x5_1 ∧ Aside0 (pianolalaw04_numbers.l0 kq l0 l1 x5_1 = some r) ∧ Aside0 (kq ≤ k) ∧ Drawn0 w w')
  case atStart => exact ⟨(0), (by first | rfl | (simp; done) | (simp [*]; done)), H', ⟨Nat.le_refl _⟩, by repeat (first | exact Drawn0.refl _ | apply Drawn0.step)⟩
  case round =>
   clear H'
   try clear c1
   try clear p2
   try clear c3
   try clear c3b0
   try clear c3b1
   try clear c3b2
   obtain ⟨x5_1, rfl, HA, HK1, ⟨m1, rfl⟩⟩ := hrel
   cases gk with
   | zero => exact absurd HA.out (by simp [pianolalaw04_numbers.l0])
   | succ k1 =>
    have H := HA.out
    clear HA
    simp only [pianolalaw04_numbers.l0] at H
    by_cases c4 : x5_1 < (l0.length : Int)
    ·
     rw [if_pos c4] at H
     have c4b0 : decide (x5_1 < (l0.length : Int)) = true := decide_eq_true c4
     clear c4
     by_cases c5 : 0 ≤ x5_1
     ·
      rw [if_pos c5] at H
      have c5b0 : decide (0 ≤ x5_1) = true := decide_eq_true c5
      clear c5
      by_cases c6 : x5_1 < (l1.length : Int)
      ·
       rw [if_pos c6] at H
       have c6b0 : decide (x5_1 < (l1.length : Int)) = true := decide_eq_true c6
       clear c6
       by_cases c7 : (rd l0 x5_1) = (rd l1 x5_1)
       ·
        rw [if_pos c7] at H
        have c7b0 : ((rd l0 x5_1) == (rd l1 x5_1)) = true := beq_iff_eq.mpr c7
        have c7b1 : ((rd l0 x5_1) != (rd l1 x5_1)) = false := bne_eq_false_iff_eq.mpr c7
        clear c7
        have H' := Aside0.mk H
        clear H
        have p440 : 0 ≤ (x5_1 : Int) := of_decide_eq_true (zqD)
        have q440 : x5_1 < (l0.length : Int) := of_decide_eq_true (zqD)
        obtain ⟨ad440, e440, hx440_0⟩ := Kd.at_int HR0.out x5_1 p440 q440
        cases e440
        replace p440 := eq_true p440
        replace q440 := eq_true q440
        have p441 : 0 ≤ (x5_1 : Int) := of_decide_eq_true (zqD)
        have q441 : x5_1 < (l1.length : Int) := of_decide_eq_true (zqD)
        obtain ⟨ad441, e441, hx441_0⟩ := Kd.at_int HR1.out x5_1 p441 q441
        cases e441
        replace p441 := eq_true p441
        replace q441 := eq_true q441
        go_wp2
        repeat (go_quiet (fail); try go_wp2)
        go_roundg k1
        case measure => have := HK1.out; omega
        case rel => exact ⟨(wrap64 (x5_1 + 1)), (by first | rfl | (simp; done) | (simp [*]; done)), H', ⟨by have := HK1.out; omega⟩, by repeat (first | exact Drawn0.refl _ | apply Drawn0.step)⟩
       ·
        rw [if_neg c7] at H
        have c7b0 : ((rd l0 x5_1) == (rd l1 x5_1)) = false := beq_eq_false_iff_ne.mpr c7
        have c7b1 : ((rd l0 x5_1) != (rd l1 x5_1)) = true := bne_iff_ne.mpr c7
        obtain rfl := Option.some.inj H
        have p440 : 0 ≤ (x5_1 : Int) := of_decide_eq_true (zqD)
        have q440 : x5_1 < (l0.length : Int) := of_decide_eq_true (zqD)
        obtain ⟨ad440, e440, hx440_0⟩ := Kd.at_int HR0.out x5_1 p440 q440
        cases e440
        replace p440 := eq_true p440
        replace q440 := eq_true q440
        have p441 : 0 ≤ (x5_1 : Int) := of_decide_eq_true (zqD)
        have q441 : x5_1 < (l1.length : Int) := of_decide_eq_true (zqD)
        obtain ⟨ad441, e441, hx441_0⟩ := Kd.at_int HR1.out x5_1 p441 q441
        cases e441
        replace p441 := eq_true p441
        replace q441 := eq_true q441
        go_wp2
        repeat (go_quiet (fail); try go_wp2)
        go_ret
        exact ⟨by first | rfl | (simp; done) | (simp [*]; done), by repeat (first | exact Drawn0.refl _ | apply Drawn0.step)⟩
      ·
       rw [if_neg c6] at H
       exact absurd H (by simp)
     ·
      rw [if_neg c5] at H
      exact absurd H (by simp)
    ·
     rw [if_neg c4] at H
     have c4b0 : decide (x5_1 < (l0.length : Int)) = false := decide_eq_false c4
     clear c4
     obtain rfl := Option.some.inj H
     go_wp2
     repeat (go_quiet (fail); try go_wp2)
     go_ret
     exact ⟨by first | rfl | (simp; done) | (simp [*]; done), by repeat (first | exact Drawn0.refl _ | apply Drawn0.step)⟩
 ·
  rw [if_neg c3] at H
  have c3b0 : ((l0.length : Int) == (l1.length : Int)) = false := beq_eq_false_iff_ne.mpr c3
  have c3b1 : ((l0.length : Int) != (l1.length : Int)) = true := bne_iff_ne.mpr c3
  have c3b2 : (l0.length == l1.length) = false := by first | simpa using c3 | (simp at c3 ⊢; omega)
  obtain rfl := Option.some.inj H
  go_enter Try.func39, Try.ntmps39
  go_wp2
  repeat (go_quiet (fail); try go_wp2)
  go_ret
  exact ⟨by first | rfl | (simp; done) | (simp [*]; done), by repeat (first | exact Drawn0.refl _ | apply Drawn0.step)⟩
mutual
def pianolalaw04_Set_made.l0 : Nat → List (S86) → List (S71) → Int → Option ((List (S71)))
  | 0, _, _, _ => none
  | k + 1, x0, x3, x4 => if x4 < (x0.length : Int) then (pianolalaw04_Set_made.j1 k x0 x3 x4 (decide (x4 < 3))) else (pianolalaw04_Set_made.j1 k x0 x3 x4 false)
def pianolalaw04_Set_made.j1 : Nat → List (S86) → List (S71) → Int → Bool → Option ((List (S71)))
  | 0, _, _, _, _ => none
  | k + 1, x0, x3, x4, x15 => if x15 = true then (if 0 ≤ x4 then (if x4 < (x0.length : Int) then (if x4 = 0 then (if 0 < (x3.length : Int) then (pianolalaw04_Set_made.l0 k x0 (x3.set (0 : Int).toNat (⟨wrap64 (1 + (Int.tmod (wrap64 ((rd_T86 x0 x4).f0)) 4)), Int.tmod (wrap64 ((rd_T86 x0 x4).f1)) 6⟩ : S71)) (wrap64 (x4 + 1))) else (none)) else (if x3.length < 8796093022208 then (pianolalaw04_Set_made.l0 k x0 (x3 ++ [(⟨wrap64 (1 + (Int.tmod (wrap64 ((rd_T86 x0 x4).f0)) 4)), Int.tmod (wrap64 ((rd_T86 x0 x4).f1)) 6⟩ : S71)]) (wrap64 (x4 + 1))) else (none))) else (none)) else (none)) else (some x3)
end
def pianolalaw04_Set_made.f (k : Nat) (l0 : List (S86)) : Option ((List (S71))) := pianolalaw04_Set_made.l0 k l0 (([(⟨2, 3⟩ : S71)] : List (S71))) 0
def pianolalaw04_Set_made.T5 : Bool × List (List Nat × List Nat) := (true, [([], []), ([], []), ([0, 1], [0, 1]), ([2], [2]), ([3], [3]), ([4], [4]), ([5], [5]), ([6], [6]), ([], []), ([], []), ([8, 9], [8, 9]), ([10], [10]), ([11], [11]), ([12], [12]), ([13], [13]), ([7, 14], [7, 14]), ([], []), ([16, 15, 0, 1, 2, 3, 4, 5, 6, 7, 8, 9, 10, 11, 12, 13, 14, 15, 16], [15, 16])])
def pianolalaw04_Set_made.B5 : List Nat := [0, 0, 3, 7, 15, 31, 63, 127, 0, 0, 768, 1792, 3840, 7936, 16128, 32767, 0, 131071]
theorem pianolalaw04_Set_made.tab5 : rtab .any (opsOf Try.f40 5) = pianolalaw04_Set_made.T5 := by kernel_rfl
theorem pianolalaw04_Set_made.bits5 : waitsOk pianolalaw04_Set_made.T5.2 pianolalaw04_Set_made.B5 = true := by kernel_rfl
set_option maxHeartbeats 8000000 in
set_option maxRecDepth 100000 in
theorem pianolalaw04_Set_made.calls (k : Nat) (A0 : Option Addr) (c0 : Nat) (l0 : List (S86)) (r : List (S71)) (w : World) (hr0 : Kd.C k86 w A0 l0.length l0) (hc0 : l0.length ≤ c0) (h : pianolalaw04_Set_made.f k l0 = some r) :
  Calls Try.prog 40 #[.slice A0 l0.length c0] w fun e w' => ∃ v0_ : Value, e = .returned (v0_) ∧ Kd.R k71 71 w' w.heap.size (fun _ => True) v0_ r ∧ Below w.heap.size w w' := by
 have hu71 := Try.underlying71
 have HR0 := Aside0.mk hr0
 have HC0 := Aside0.mk hc0
 clear hr0 hc0
 have HB := Aside0.mk (Below.refl w.heap.size w)
 have H : (pianolalaw04_Set_made.l0 k l0 (([(⟨2, 3⟩ : S71)] : List (S71))) 0) = some r := h
 clear h
 obtain ⟨y453, hy453⟩ : ∃ y_ : List (S71), y_ = (([(⟨2, 3⟩ : S71)] : List (S71))) := ⟨_, rfl⟩
 replace H : (pianolalaw04_Set_made.l0 k l0 y453 0) = some r := by first | (rw [hy453]; with_reducible exact H) | (have H2_ := (Option.bind_some _ _).symm.trans H; rw [hy453]; with_reducible exact H2_) | (have H2_ := (Option.bind_some _ _).symm.trans H; with_reducible exact H2_) | with_reducible exact H | (rw [hy453]; exact H) | exact H
 have Ny453 := Aside0.mk hy453
 clear hy453
 have H' := Aside0.mk H
 clear H
 go_enter Try.func40, Try.ntmps40
 go_wp2_with (first | ((with_reducible refine gate_dst (N := 7) rfl ?_); refine Kd.R_lit k71 _ 71 ?hg (N := 7) ?hd (xs := ([(⟨2, 3⟩ : S71)] : List (S71))) (inner := [.int .i64 2, .int .i64 3]) (ok := fun _ => True) (okp := fun _ => True) ?hr ?hp (fun _ hk => hk) trivial (Below.refl _ _) (Nat.le_refl _) (by simp) ?_; (case hd => rfl); (case hg => rfl); (case hr => first | (go_simp; done) | (go_simp; rfl)); (case hp => exact (Reps.c2 (show Kd.M k71 _ _ _ (⟨2, 3⟩ : S71) [.int .i64 2, .int .i64 3] from (k71_mkM _ _ _ (⟨2, 3⟩ : S71) )) (Reps.none _ _))); intro v454 w2 ho3 hb hg_ hnew_; clear hg_ hnew_; (first | rw [← Ny453.out] at ho3 | (simp only [Int.reduceToNat] at ho3; rw [← Ny453.out] at ho3)); have n0_ := Aside0.mk (Kd.R_lower ho3 (below_size (zqA HB.out))); have n1_ := Aside0.mk (below_step (zqA HB.out) hb); clear HB; have HO455 := n0_; have HB := n1_; clear n0_ n1_; clear hb ho3))
 go_loopg [3, 4] k (fun kq v3 v4 w' => ∃ (x3_1 : List (S71)) (x4_1 : Int), v4 = .int .i64 x4_1 ∧ Aside0 (pianolalaw04_Set_made.l0 kq l0 x3_1 x4_1 = some r) ∧ Aside0 (kq ≤ k) ∧ Aside0 (Kd.R k71 71 w' w.heap.size (fun _ => True) v3 x3_1) ∧ Aside0 (Below w.heap.size w w'))
 case atStart => exact ⟨(y453), (0), (by first | rfl | (simp; done) | (simp [*]; done)), H', ⟨Nat.le_refl _⟩, ⟨zqC HO455.out⟩, ⟨zqA HB.out⟩⟩
 case round =>
  clear H'
  try clear c2
  try clear p2
  obtain ⟨x3_1, x4_1, rfl, HA, HK1, HO_3, HB⟩ := hrel
  cases gk with
  | zero => exact absurd HA.out (by simp [pianolalaw04_Set_made.l0])
  | succ k1 =>
   have H := HA.out
   clear HA
   simp only [pianolalaw04_Set_made.l0] at H
   have HC4 := Aside0.mk H
   clear H
   go_upto_region 3 with (fail)
   go_cut [15] (fun v15 wc => ∃ (kq : Nat) (x15_3 : Bool), v15 = .bool x15_3 ∧ Aside0 (pianolalaw04_Set_made.j1 kq l0 x3_1 x4_1 x15_3 = some r) ∧ Aside0 (kq ≤ k1) ∧ Aside0 (Kd.R k71 71 wc w.heap.size (fun _ => True) u3 x3_1) ∧ Aside0 (Below w.heap.size w wc))
   case first =>
    have H := HC4.out
    clear HC4
    by_cases c5 : x4_1 < (l0.length : Int)
    ·
     rw [if_pos c5] at H
     have c5b0 : decide (x4_1 < (l0.length : Int)) = true := decide_eq_true c5
     clear c5
     (first | rw [c5b0] | (simp only [i64_w, i32_w]; rw [c5b0]) | skip)
     have H' := Aside0.mk H
     clear H
     go_wp2
     go_meet
     case rel => exact ⟨_, (decide (x4_1 < 3)), (by first | rfl | (simp; done) | (simp [*]; done)), H', ⟨by have := HK1.out; first | omega | exact Nat.le_refl _⟩, ⟨zqC HO_3.out⟩, ⟨zqA HB.out⟩⟩
    ·
     rw [if_neg c5] at H
     have c5b0 : decide (x4_1 < (l0.length : Int)) = false := decide_eq_false c5
     clear c5
     (first | rw [c5b0] | (simp only [i64_w, i32_w]; rw [c5b0]) | skip)
     have H' := Aside0.mk H
     clear H
     go_wp2
     go_meet
     case rel => exact ⟨_, (false), (by first | rfl | (simp; done) | (simp [*]; done)), H', ⟨by have := HK1.out; first | omega | exact Nat.le_refl _⟩, ⟨zqC HO_3.out⟩, ⟨zqA HB.out⟩⟩
   case rest =>
    clear HC4
    try clear c2
    try clear p2
    try clear c4
    try clear c5
    try clear c5b0
    try clear p2
    obtain ⟨kq, x15_3, rfl, HA, HJ3, HO_3, HB⟩ := hcut
    cases kq with
    | zero => exact absurd HA.out (by simp [pianolalaw04_Set_made.j1])
    | succ kj3 =>
     have H := HA.out
     clear HA
     simp only [pianolalaw04_Set_made.j1] at H
     by_cases c6 : x15_3 = true
     ·
      subst c6
      have H1 : (if 0 ≤ x4_1 then (if x4_1 < (l0.length : Int) then (if x4_1 = 0 then (if 0 < (x3_1.length : Int) then (pianolalaw04_Set_made.l0 kj3 l0 (x3_1.set (0 : Int).toNat (⟨wrap64 (1 + (Int.tmod (wrap64 ((rd_T86 l0 x4_1).f0)) 4)), Int.tmod (wrap64 ((rd_T86 l0 x4_1).f1)) 6⟩ : S71)) (wrap64 (x4_1 + 1))) else (none)) else (if x3_1.length < 8796093022208 then (pianolalaw04_Set_made.l0 kj3 l0 (x3_1 ++ [(⟨wrap64 (1 + (Int.tmod (wrap64 ((rd_T86 l0 x4_1).f0)) 4)), Int.tmod (wrap64 ((rd_T86 l0 x4_1).f1)) 6⟩ : S71)]) (wrap64 (x4_1 + 1))) else (none))) else (none)) else (none)) = some r := by rw [if_pos rfl] at H; exact H
      clear H
      have H := H1
      clear H1
      by_cases c7 : 0 ≤ x4_1
      ·
       rw [if_pos c7] at H
       have c7b0 : decide (0 ≤ x4_1) = true := decide_eq_true c7
       clear c7
       by_cases c8 : x4_1 < (l0.length : Int)
       ·
        rw [if_pos c8] at H
        have c8b0 : decide (x4_1 < (l0.length : Int)) = true := decide_eq_true c8
        clear c8
        by_cases c9 : x4_1 = 0
        ·
         rw [if_pos c9] at H
         have c9b0 : (x4_1 == 0) = true := beq_iff_eq.mpr c9
         have c9b1 : (x4_1 != 0) = false := bne_eq_false_iff_eq.mpr c9
         clear c9
         by_cases c10 : 0 < (x3_1.length : Int)
         ·
          rw [if_pos c10] at H
          have c10b0 : decide (0 < (x3_1.length : Int)) = true := decide_eq_true c10
          have c10b1 : decide (0 < x3_1.length) = true := decide_eq_true (by omega)
          clear c10
          obtain ⟨y459, hy459⟩ : ∃ y_ : List (S71), y_ = (x3_1.set (0 : Int).toNat (⟨wrap64 (1 + (Int.tmod (wrap64 ((rd_T86 l0 x4_1).f0)) 4)), Int.tmod (wrap64 ((rd_T86 l0 x4_1).f1)) 6⟩ : S71)) := ⟨_, rfl⟩
          replace H : (pianolalaw04_Set_made.l0 kj3 l0 y459 (wrap64 (x4_1 + 1))) = some r := by first | (rw [hy459]; with_reducible exact H) | (have H2_ := (Option.bind_some _ _).symm.trans H; rw [hy459]; with_reducible exact H2_) | (have H2_ := (Option.bind_some _ _).symm.trans H; with_reducible exact H2_) | with_reducible exact H | (rw [hy459]; exact H) | exact H
          have Ny459 := Aside0.mk hy459
          clear hy459
          have H' := Aside0.mk H
          clear H
          try go_wp2
          have n0_ := Aside0.mk (Kd.R_drew HO_3.out)
          have n1_ := Aside0.mk (below_drew1 HB.out)
          clear HO_3
          clear HB
          have HO_3 := n0_
          have HB := n1_
          clear n0_ n1_
          have p456 : 0 ≤ (x4_1 : Int) := of_decide_eq_true (zqD)
          have q456 : x4_1 < (l0.length : Int) := of_decide_eq_true (zqD)
          obtain ⟨ad456, e456, hx456_0, hx456_1⟩ := at_T86 HR0.out x4_1 p456 q456
          have hw456_1 := hx456_1
          have hw456_0 := hx456_0
          cases e456
          replace hx456_0 := (HB.out.cell (World.block_lt_of_cell? w _ hx456_0)).trans hx456_0
          replace hx456_1 := (HB.out.cell (World.block_lt_of_cell? w _ hx456_1)).trans hx456_1
          replace p456 := eq_true p456
          replace q456 := eq_true q456
          have p457 : 0 ≤ (x4_1 : Int) := of_decide_eq_true (zqD)
          have q457 : x4_1 < (l0.length : Int) := of_decide_eq_true (zqD)
          obtain ⟨ad457, e457, hx457_0, hx457_1⟩ := at_T86 HR0.out x4_1 p457 q457
          have hw457_1 := hx457_1
          have hw457_0 := hx457_0
          obtain rfl : ad456 = ad457 := (by injection e457)
          replace hx457_0 := (HB.out.cell (World.block_lt_of_cell? w _ hx457_0)).trans hx457_0
          replace hx457_1 := (HB.out.cell (World.block_lt_of_cell? w _ hx457_1)).trans hx457_1
          replace p457 := eq_true p457
          replace q457 := eq_true q457
          refine start_ (n := 18) (S := fun w' => w'.cell? (ad456.add ((x4_1).toNat * 2)) = some (.int .u8 ((rd_T86 l0 x4_1).f0)) ∧ w'.cell? ⟨(ad456.add ((x4_1).toNat * 2)).block, (ad456.add ((x4_1).toNat * 2)).off + 1, none⟩ = some (.int .u8 ((rd_T86 l0 x4_1).f1)) ∧ w'.cell? (ad456.add ((x4_1).toNat * 2)) = some (.int .u8 ((rd_T86 l0 x4_1).f0)) ∧ w'.cell? ⟨(ad456.add ((x4_1).toNat * 2)).block, (ad456.add ((x4_1).toNat * 2)).off + 1, none⟩ = some (.int .u8 ((rd_T86 l0 x4_1).f1))) (ds := []) #[false, false, false, false, false, false, false, false, false, false, false, false, false, false, false, false, false, false] (by kernel_rfl) rfl rfl ⟨((HB.out.cell (World.block_lt_of_cell? w _ hw456_0)).trans hw456_0), ((HB.out.cell (World.block_lt_of_cell? w _ hw456_1)).trans hw456_1), ((HB.out.cell (World.block_lt_of_cell? w _ hw457_0)).trans hw457_0), ((HB.out.cell (World.block_lt_of_cell? w _ hw457_1)).trans hw457_1)⟩ (fun hHeld => ?_); refine with_tabW pianolalaw04_Set_made.tab5 pianolalaw04_Set_made.bits5 (fun HT_ HW_ => ?_)
          generalize wc.drew = w12 at HO_3 HB hx456_0 hx456_1 hx457_0 hx457_1 hHeld ⊢
          refine pure_ (i := 0) (N := some 18) (v := ?_) (a' := ?_) #[true, false, false, false, false, false, false, false, false, false, false, false, false, false, false, false, false, false] rfl rfl (any_of HT_.out (by kernel_rfl)) (fun _ _ _ h => h) (Or.inl ⟨by rfl, ?_⟩) ?_ ?_
          rotate_left
          ·
           intro w'
           go_simp
           with_reducible rfl
          rotate_left
          ·
           simp only [Act.put, List.setIfInBounds_toArray, List.set_cons_zero, List.set_cons_succ, i64_w, i32_w]
           rfl
          refine pure_ (i := 1) (N := some 19) (v := ?_) (a' := ?_) #[true, true, false, false, false, false, false, false, false, false, false, false, false, false, false, false, false, false] rfl rfl (any_of HT_.out (by kernel_rfl)) (fun _ _ _ h => h) (Or.inl ⟨by rfl, ?_⟩) ?_ ?_
          rotate_left
          ·
           intro w'
           go_simp
           with_reducible rfl
          rotate_left
          ·
           simp only [Act.put, List.setIfInBounds_toArray, List.set_cons_zero, List.set_cons_succ, i64_w, i32_w]
           rfl
          refine pure_ (i := 2) (N := some 20) (v := ?_) (a' := ?_) #[true, true, true, false, false, false, false, false, false, false, false, false, false, false, false, false, false, false] rfl rfl (any_of HT_.out (by kernel_rfl)) (fun _ _ _ h => h) (Or.inl ⟨by rfl, ?_⟩) ?_ ?_
          rotate_left
          ·
           intro w'
           go_simp
           with_reducible rfl
          rotate_left
          ·
           simp only [Act.put, List.setIfInBounds_toArray, List.set_cons_zero, List.set_cons_succ, i64_w, i32_w]
           rfl
          refine pure_ (i := 3) (N := some 21) (v := ?_) (a' := ?_) #[true, true, true, true, false, false, false, false, false, false, false, false, false, false, false, false, false, false] rfl rfl (any_of HT_.out (by kernel_rfl)) (fun _ _ _ h => h) (Or.inl ⟨by rfl, ?_⟩) ?_ ?_
          rotate_left
          ·
           intro w'
           go_simp
           with_reducible rfl
          rotate_left
          ·
           simp only [Act.put, List.setIfInBounds_toArray, List.set_cons_zero, List.set_cons_succ, i64_w, i32_w]
           rfl
          refine pure_ (i := 8) (N := some 26) (v := ?_) (a' := ?_) #[true, true, true, true, false, false, false, false, true, false, false, false, false, false, false, false, false, false] rfl rfl (any_of HT_.out (by kernel_rfl)) (fun _ _ _ h => h) (Or.inl ⟨by rfl, ?_⟩) ?_ ?_
          rotate_left
          ·
           intro w'
           go_simp
           with_reducible rfl
          rotate_left
          ·
           simp only [Act.put, List.setIfInBounds_toArray, List.set_cons_zero, List.set_cons_succ, i64_w, i32_w]
           rfl
          refine pure_ (i := 9) (N := some 27) (v := ?_) (a' := ?_) #[true, true, true, true, false, false, false, false, true, true, false, false, false, false, false, false, false, false] rfl rfl (any_of HT_.out (by kernel_rfl)) (fun _ _ _ h => h) (Or.inl ⟨by rfl, ?_⟩) ?_ ?_
          rotate_left
          ·
           intro w'
           go_simp
           with_reducible rfl
          rotate_left
          ·
           simp only [Act.put, List.setIfInBounds_toArray, List.set_cons_zero, List.set_cons_succ, i64_w, i32_w]
           rfl
          refine pure_ (i := 10) (N := some 28) (v := ?_) (a' := ?_) #[true, true, true, true, false, false, false, false, true, true, true, false, false, false, false, false, false, false] rfl rfl (any_of HT_.out (by kernel_rfl)) (fun _ _ _ h => h) (Or.inl ⟨by rfl, ?_⟩) ?_ ?_
          rotate_left
          ·
           intro w'
           go_simp
           with_reducible rfl
          rotate_left
          ·
           simp only [Act.put, List.setIfInBounds_toArray, List.set_cons_zero, List.set_cons_succ, i64_w, i32_w]
           rfl
          refine pure_ (i := 11) (N := some 29) (v := ?_) (a' := ?_) #[true, true, true, true, false, false, false, false, true, true, true, true, false, false, false, false, false, false] rfl rfl (any_of HT_.out (by kernel_rfl)) (fun _ _ _ h => h) (Or.inl ⟨by rfl, ?_⟩) ?_ ?_
          rotate_left
          ·
           intro w'
           go_simp
           with_reducible rfl
          rotate_left
          ·
           simp only [Act.put, List.setIfInBounds_toArray, List.set_cons_zero, List.set_cons_succ, i64_w, i32_w]
           rfl
          refine take_ (i := 4) (N := some 22) (v := ?_) (a' := ?_) #[true, true, true, true, true, false, false, false, true, true, true, true, false, false, false, false, false, false] rfl rfl (take_ofW HT_.out HW_.out (by kernel_rfl)) (fun _ _ _ h => h) (Or.inl ⟨by rfl, ?_⟩) hHeld ?_ ?_
          rotate_left
          ·
           rintro w' ⟨s0, s1, s2, s3⟩
           go_simp
           with_reducible rfl
          rotate_left
          ·
           simp only [Act.put, List.setIfInBounds_toArray, List.set_cons_zero, List.set_cons_succ, i64_w, i32_w]
           rfl
          refine pure_ (i := 5) (N := some 23) (v := ?_) (a' := ?_) #[true, true, true, true, true, true, false, false, true, true, true, true, false, false, false, false, false, false] rfl rfl (any_of HT_.out (by kernel_rfl)) (fun _ _ _ h => h) (Or.inl ⟨by rfl, ?_⟩) ?_ ?_
          rotate_left
          ·
           intro w'
           go_simp
           with_reducible rfl
          rotate_left
          ·
           simp only [Act.put, List.setIfInBounds_toArray, List.set_cons_zero, List.set_cons_succ, i64_w, i32_w]
           rfl
          refine pure_ (i := 6) (N := some 24) (v := ?_) (a' := ?_) #[true, true, true, true, true, true, true, false, true, true, true, true, false, false, false, false, false, false] rfl rfl (any_of HT_.out (by kernel_rfl)) (fun _ _ _ h => h) (Or.inl ⟨by rfl, ?_⟩) ?_ ?_
          rotate_left
          ·
           intro w'
           go_simp
           with_reducible rfl
          rotate_left
          ·
           simp only [Act.put, List.setIfInBounds_toArray, List.set_cons_zero, List.set_cons_succ, i64_w, i32_w]
           rfl
          refine pure_ (i := 7) (N := some 25) (v := ?_) (a' := ?_) #[true, true, true, true, true, true, true, true, true, true, true, true, false, false, false, false, false, false] rfl rfl (any_of HT_.out (by kernel_rfl)) (fun _ _ _ h => h) (Or.inl ⟨by rfl, ?_⟩) ?_ ?_
          rotate_left
          ·
           intro w'
           go_simp
           with_reducible rfl
          rotate_left
          ·
           simp only [Act.put, List.setIfInBounds_toArray, List.set_cons_zero, List.set_cons_succ, i64_w, i32_w]
           rfl
          refine take_ (i := 12) (N := some 30) (v := ?_) (a' := ?_) #[true, true, true, true, true, true, true, true, true, true, true, true, true, false, false, false, false, false] rfl rfl (take_ofW HT_.out HW_.out (by kernel_rfl)) (fun _ _ _ h => h) (Or.inl ⟨by rfl, ?_⟩) hHeld ?_ ?_
          rotate_left
          ·
           rintro w' ⟨s0, s1, s2, s3⟩
           go_simp
           with_reducible rfl
          rotate_left
          ·
           simp only [Act.put, List.setIfInBounds_toArray, List.set_cons_zero, List.set_cons_succ, i64_w, i32_w]
           rfl
          refine pure_ (i := 13) (N := some 31) (v := ?_) (a' := ?_) #[true, true, true, true, true, true, true, true, true, true, true, true, true, true, false, false, false, false] rfl rfl (any_of HT_.out (by kernel_rfl)) (fun _ _ _ h => h) (Or.inl ⟨by rfl, ?_⟩) ?_ ?_
          rotate_left
          ·
           intro w'
           go_simp
           with_reducible rfl
          rotate_left
          ·
           simp only [Act.put, List.setIfInBounds_toArray, List.set_cons_zero, List.set_cons_succ, i64_w, i32_w]
           rfl
          refine pure_ (i := 14) (N := some 32) (v := ?_) (a' := ?_) #[true, true, true, true, true, true, true, true, true, true, true, true, true, true, true, false, false, false] rfl rfl (any_of HT_.out (by kernel_rfl)) (fun _ _ _ h => h) (Or.inl ⟨by rfl, ?_⟩) ?_ ?_
          rotate_left
          ·
           intro w'
           go_simp
           with_reducible rfl
          rotate_left
          ·
           simp only [Act.put, List.setIfInBounds_toArray, List.set_cons_zero, List.set_cons_succ, i64_w, i32_w]
           rfl
          refine pure_ (i := 15) (N := some 33) (v := ?_) (a' := ?_) #[true, true, true, true, true, true, true, true, true, true, true, true, true, true, true, true, false, false] rfl rfl (any_of HT_.out (by kernel_rfl)) (fun _ _ _ h => h) (Or.inl ⟨by rfl, ?_⟩) ?_ ?_
          rotate_left
          ·
           intro w'
           go_simp
           with_reducible rfl
          rotate_left
          ·
           simp only [Act.put, List.setIfInBounds_toArray, List.set_cons_zero, List.set_cons_succ, i64_w, i32_w]
           rfl
          refine one_ (i := 16) (N := some 5) #[true, true, true, true, true, true, true, true, true, true, true, true, true, true, true, true, true, false] rfl rfl (one_of HT_.out (by kernel_rfl)) (by decide) (fun K hK => ?_)
          refine box_step ?hg (N := 5) ?hd (cs := #[.int .i64 0, .int .i64 0]) (t := 71) ?hr ?_; (case hd => rfl); (case hg => rfl); (case hr => first | (go_simp; done) | (go_simp; rfl))
          intro gb458 hg w13 hbox hb
          have n0_ := Aside0.mk (Kd.R_below (Kd.R_elderB (zqC HO_3.out) gb458 (Nat.le_of_eq hg.symm)) hb)
          have n1_ := Aside0.mk (below_step (zqA HB.out) hb)
          have n2_ := Aside0.mk (hbox)
          have n3_ := Aside0.mk ((by rw [hg]; exact (below_size (zqA HB.out)) : w.heap.size ≤ gb458))
          have n4_ := Aside0.mk ((by rw [hg]; exact (below_size (zqA HB.out)) : w.heap.size ≤ gb458))
          clear HO_3
          clear HB
          have HO_3 := n0_
          have HB := n1_
          have BK458 := n2_
          have GW458 := n3_
          have GE458 := n4_
          clear n0_ n1_ n2_ n3_ n4_
          clear hb hbox hg
          refine hK.out _ _ ⟨((HB.out.cell (World.block_lt_of_cell? w _ hw456_0)).trans hw456_0), ((HB.out.cell (World.block_lt_of_cell? w _ hw456_1)).trans hw456_1), ((HB.out.cell (World.block_lt_of_cell? w _ hw457_0)).trans hw457_0), ((HB.out.cell (World.block_lt_of_cell? w _ hw457_1)).trans hw457_1)⟩ (fun hHeld => ?_)
          clear hK K
          refine norm_ (a' := ?_) ?_ ?_
          rotate_left
          ·
           show Act.put _ (some 5) _ = _
           simp only [Act.put, List.setIfInBounds_toArray, List.set_cons_zero, List.set_cons_succ, i64_w, i32_w]
           rfl
          refine one_ (i := 17) (N := none) #[true, true, true, true, true, true, true, true, true, true, true, true, true, true, true, true, true, true] rfl rfl (one_of HT_.out (by kernel_rfl)) (by decide) (fun K hK => ?_)
          have hs14 : w13.cell? ⟨gb458, 0, none⟩ = some (.int .i64 0) := (blk_cell BK458.out 0).trans rfl
          have hfs14 := blk_frozen BK458.out 0
          have hs15 : w13.cell? ⟨gb458, 1, none⟩ = some (.int .i64 0) := (blk_cell BK458.out 1).trans rfl
          have hfs15 := blk_frozen BK458.out 1
          refine skip_ (w1 := ?_) (by rfl) rfl ?_ ?_
          rotate_left
          ·
           go_simp
           rfl
          refine hK.out _ _ ⟨((cell_far (p := ⟨gb458, _, none⟩) (by first | exact Nat.ne_of_lt (Nat.lt_of_lt_of_le (by have := World.block_lt_of_cell? _ _ hw456_0; first | rwa [add_block] at this | exact this) GW458.out) | (rw [add_block]; exact Nat.ne_of_lt (Nat.lt_of_lt_of_le (by have := World.block_lt_of_cell? _ _ hw456_0; first | rwa [add_block] at this | exact this) GW458.out)) | (show (Addr.add _ _).block ≠ _; rw [add_block]; exact Nat.ne_of_lt (Nat.lt_of_lt_of_le (by have := World.block_lt_of_cell? _ _ hw456_0; first | rwa [add_block] at this | exact this) GW458.out)) | (dsimp only; exact Nat.ne_of_lt (Nat.lt_of_lt_of_le (by have := World.block_lt_of_cell? _ _ hw456_0; first | rwa [add_block] at this | exact this) GW458.out))) _).trans (((cell_far (p := ⟨gb458, _, none⟩) (by first | exact Nat.ne_of_lt (Nat.lt_of_lt_of_le (by have := World.block_lt_of_cell? _ _ hw456_0; first | rwa [add_block] at this | exact this) GW458.out) | (rw [add_block]; exact Nat.ne_of_lt (Nat.lt_of_lt_of_le (by have := World.block_lt_of_cell? _ _ hw456_0; first | rwa [add_block] at this | exact this) GW458.out)) | (show (Addr.add _ _).block ≠ _; rw [add_block]; exact Nat.ne_of_lt (Nat.lt_of_lt_of_le (by have := World.block_lt_of_cell? _ _ hw456_0; first | rwa [add_block] at this | exact this) GW458.out)) | (dsimp only; exact Nat.ne_of_lt (Nat.lt_of_lt_of_le (by have := World.block_lt_of_cell? _ _ hw456_0; first | rwa [add_block] at this | exact this) GW458.out))) _).trans (hHeld.1)))), ((cell_far (p := ⟨gb458, _, none⟩) (by first | exact Nat.ne_of_lt (Nat.lt_of_lt_of_le (by have := World.block_lt_of_cell? _ _ hw456_1; first | rwa [add_block] at this | exact this) GW458.out) | (rw [add_block]; exact Nat.ne_of_lt (Nat.lt_of_lt_of_le (by have := World.block_lt_of_cell? _ _ hw456_1; first | rwa [add_block] at this | exact this) GW458.out)) | (show (Addr.add _ _).block ≠ _; rw [add_block]; exact Nat.ne_of_lt (Nat.lt_of_lt_of_le (by have := World.block_lt_of_cell? _ _ hw456_1; first | rwa [add_block] at this | exact this) GW458.out)) | (dsimp only; exact Nat.ne_of_lt (Nat.lt_of_lt_of_le (by have := World.block_lt_of_cell? _ _ hw456_1; first | rwa [add_block] at this | exact this) GW458.out))) _).trans (((cell_far (p := ⟨gb458, _, none⟩) (by first | exact Nat.ne_of_lt (Nat.lt_of_lt_of_le (by have := World.block_lt_of_cell? _ _ hw456_1; first | rwa [add_block] at this | exact this) GW458.out) | (rw [add_block]; exact Nat.ne_of_lt (Nat.lt_of_lt_of_le (by have := World.block_lt_of_cell? _ _ hw456_1; first | rwa [add_block] at this | exact this) GW458.out)) | (show (Addr.add _ _).block ≠ _; rw [add_block]; exact Nat.ne_of_lt (Nat.lt_of_lt_of_le (by have := World.block_lt_of_cell? _ _ hw456_1; first | rwa [add_block] at this | exact this) GW458.out)) | (dsimp only; exact Nat.ne_of_lt (Nat.lt_of_lt_of_le (by have := World.block_lt_of_cell? _ _ hw456_1; first | rwa [add_block] at this | exact this) GW458.out))) _).trans (hHeld.2.1)))), ((cell_far (p := ⟨gb458, _, none⟩) (by first | exact Nat.ne_of_lt (Nat.lt_of_lt_of_le (by have := World.block_lt_of_cell? _ _ hw457_0; first | rwa [add_block] at this | exact this) GW458.out) | (rw [add_block]; exact Nat.ne_of_lt (Nat.lt_of_lt_of_le (by have := World.block_lt_of_cell? _ _ hw457_0; first | rwa [add_block] at this | exact this) GW458.out)) | (show (Addr.add _ _).block ≠ _; rw [add_block]; exact Nat.ne_of_lt (Nat.lt_of_lt_of_le (by have := World.block_lt_of_cell? _ _ hw457_0; first | rwa [add_block] at this | exact this) GW458.out)) | (dsimp only; exact Nat.ne_of_lt (Nat.lt_of_lt_of_le (by have := World.block_lt_of_cell? _ _ hw457_0; first | rwa [add_block] at this | exact this) GW458.out))) _).trans (((cell_far (p := ⟨gb458, _, none⟩) (by first | exact Nat.ne_of_lt (Nat.lt_of_lt_of_le (by have := World.block_lt_of_cell? _ _ hw457_0; first | rwa [add_block] at this | exact this) GW458.out) | (rw [add_block]; exact Nat.ne_of_lt (Nat.lt_of_lt_of_le (by have := World.block_lt_of_cell? _ _ hw457_0; first | rwa [add_block] at this | exact this) GW458.out)) | (show (Addr.add _ _).block ≠ _; rw [add_block]; exact Nat.ne_of_lt (Nat.lt_of_lt_of_le (by have := World.block_lt_of_cell? _ _ hw457_0; first | rwa [add_block] at this | exact this) GW458.out)) | (dsimp only; exact Nat.ne_of_lt (Nat.lt_of_lt_of_le (by have := World.block_lt_of_cell? _ _ hw457_0; first | rwa [add_block] at this | exact this) GW458.out))) _).trans (hHeld.2.2.1)))), ((cell_far (p := ⟨gb458, _, none⟩) (by first | exact Nat.ne_of_lt (Nat.lt_of_lt_of_le (by have := World.block_lt_of_cell? _ _ hw457_1; first | rwa [add_block] at this | exact this) GW458.out) | (rw [add_block]; exact Nat.ne_of_lt (Nat.lt_of_lt_of_le (by have := World.block_lt_of_cell? _ _ hw457_1; first | rwa [add_block] at this | exact this) GW458.out)) | (show (Addr.add _ _).block ≠ _; rw [add_block]; exact Nat.ne_of_lt (Nat.lt_of_lt_of_le (by have := World.block_lt_of_cell? _ _ hw457_1; first | rwa [add_block] at this | exact this) GW458.out)) | (dsimp only; exact Nat.ne_of_lt (Nat.lt_of_lt_of_le (by have := World.block_lt_of_cell? _ _ hw457_1; first | rwa [add_block] at this | exact this) GW458.out))) _).trans (((cell_far (p := ⟨gb458, _, none⟩) (by first | exact Nat.ne_of_lt (Nat.lt_of_lt_of_le (by have := World.block_lt_of_cell? _ _ hw457_1; first | rwa [add_block] at this | exact this) GW458.out) | (rw [add_block]; exact Nat.ne_of_lt (Nat.lt_of_lt_of_le (by have := World.block_lt_of_cell? _ _ hw457_1; first | rwa [add_block] at this | exact this) GW458.out)) | (show (Addr.add _ _).block ≠ _; rw [add_block]; exact Nat.ne_of_lt (Nat.lt_of_lt_of_le (by have := World.block_lt_of_cell? _ _ hw457_1; first | rwa [add_block] at this | exact this) GW458.out)) | (dsimp only; exact Nat.ne_of_lt (Nat.lt_of_lt_of_le (by have := World.block_lt_of_cell? _ _ hw457_1; first | rwa [add_block] at this | exact this) GW458.out))) _).trans (hHeld.2.2.2))))⟩ (fun hHeld => ?_)
          clear hK K
          refine done_ (done_of HT_.out (by kernel_rfl)) ?_
          have n0_ : Aside0 (Kd.R k71 71 ((w13.setCell ⟨gb458, 0, none⟩ (.int .i64 (wrap64 (1 + (Int.tmod (wrap64 ((rd_T86 l0 x4_1).f0)) 4))))).setCell ⟨gb458, 1, none⟩ (.int .i64 (Int.tmod (wrap64 ((rd_T86 l0 x4_1).f1)) 6))) w.heap.size (fun k_ => k_ ≠ gb458) u3 x3_1) := ⟨by (with_reducible repeat (first | apply Kd.R_alloc | apply Kd.R_drewN | apply Kd.R_drew)); exact Kd.R_mono (Kd.R_far (p := ⟨gb458, 1, none⟩) (Kd.R_far (p := ⟨gb458, 0, none⟩) (Kd.R_mono HO_3.out (fun k_ hk => (⟨hk, hk.2⟩ : _ ∧ k_ ≠ gb458))) (fun _ hk => hk.2) (.int .i64 (wrap64 (1 + (Int.tmod (wrap64 ((rd_T86 l0 x4_1).f0)) 4))))) (fun _ hk => hk.2) (.int .i64 (Int.tmod (wrap64 ((rd_T86 l0 x4_1).f1)) 6))) (fun _ hk => hk.1.2)⟩
          have n1_ : Aside0 (((w13.setCell ⟨gb458, 0, none⟩ (.int .i64 (wrap64 (1 + (Int.tmod (wrap64 ((rd_T86 l0 x4_1).f0)) 4))))).setCell ⟨gb458, 1, none⟩ (.int .i64 (Int.tmod (wrap64 ((rd_T86 l0 x4_1).f1)) 6))).heap[gb458]? = some (.cells #[.int .i64 (wrap64 (1 + (Int.tmod (wrap64 ((rd_T86 l0 x4_1).f0)) 4))), .int .i64 (Int.tmod (wrap64 ((rd_T86 l0 x4_1).f1)) 6)] 71 (0, 0))) := ⟨by (with_reducible repeat (first | refine blk_drewN ?_ _ | refine blk_drew ?_ | refine blk_alloc ?_ _)); refine blk_put (cs := #[.int .i64 (wrap64 (1 + (Int.tmod (wrap64 ((rd_T86 l0 x4_1).f0)) 4))), .int .i64 0]) ?_ 1 _ rfl; (with_reducible repeat (first | refine blk_drewN ?_ _ | refine blk_drew ?_ | refine blk_alloc ?_ _)); refine blk_put (cs := #[.int .i64 0, .int .i64 0]) ?_ 0 _ rfl; (with_reducible repeat (first | refine blk_drewN ?_ _ | refine blk_drew ?_ | refine blk_alloc ?_ _)); exact BK458.out⟩
          have n2_ : Aside0 (Below w.heap.size w ((w13.setCell ⟨gb458, 0, none⟩ (.int .i64 (wrap64 (1 + (Int.tmod (wrap64 ((rd_T86 l0 x4_1).f0)) 4))))).setCell ⟨gb458, 1, none⟩ (.int .i64 (Int.tmod (wrap64 ((rd_T86 l0 x4_1).f1)) 6)))) := ⟨zqG HB.out GE458.out⟩
          (try clear HO_3)
          (try clear BK458)
          (try clear HB)
          generalize ((w13.setCell ⟨gb458, 0, none⟩ (.int .i64 (wrap64 (1 + (Int.tmod (wrap64 ((rd_T86 l0 x4_1).f0)) 4))))).setCell ⟨gb458, 1, none⟩ (.int .i64 (Int.tmod (wrap64 ((rd_T86 l0 x4_1).f1)) 6))) = w16 at n0_ n1_ n2_ ⊢
          have HO_3 := n0_
          have BK458 := n1_
          have HB := n2_
          clear n0_ n1_ n2_
          have hcz17_0 : w16.cell? ⟨gb458, 0, none⟩ = some (.int .i64 (wrap64 (1 + (Int.tmod (wrap64 ((rd_T86 l0 x4_1).f0)) 4)))) := (blk_cell BK458.out 0).trans rfl
          have hcz17_1 : w16.cell? ⟨gb458, 1, none⟩ = some (.int .i64 (Int.tmod (wrap64 ((rd_T86 l0 x4_1).f1)) 6)) := (blk_cell BK458.out 1).trans rfl
          have hfz17_0 := blk_frozen BK458.out 0
          have hfz17_1 := blk_frozen BK458.out 1
          have p11 : 0 ≤ (0 : Int) := (by omega)
          have q11 : (0 : Int) < ((x3_1.length : Int) : Int) := of_decide_eq_true (zqD)
          have qi11 : (0 < x3_1.length) = True := eq_true (by omega)
          obtain ⟨go11, co11, eo11, gb11, gl11, cl11, HG11⟩ := Kd.R_form HO_3.out (by omega)
          (first | cases eo11 | (injection eo11 with ea_ en_ ec_; (first | subst ea_ | (injection ea_ with ea_; subst ea_)); subst ec_; clear en_))
          have GB11 := Aside0.mk gb11
          have GG11 := Aside0.mk HG11
          clear gb11 gl11 HG11
          obtain ⟨ce11, hcl11, hM11, hcc11, hfr11⟩ := Kd.R_elem HO_3.out z71 (0 : Int) p11 q11
          obtain rfl := k71_openM hM11
          have hx11_0 : w16.cell? ⟨go11, (0 : Int).toNat * 2, none⟩ = some (.int .i64 ((rd_T71 x3_1 0).f0)) := hcc11 0 _ rfl
          have hx11_1 : w16.cell? ⟨go11, (0 : Int).toNat * 2 + 1, none⟩ = some (.int .i64 ((rd_T71 x3_1 0).f1)) := hcc11 1 _ rfl
          have hf11_0 : w16.frozen? ⟨go11, (0 : Int).toNat * 2, none⟩ = false := hfr11 0
          have hf11_1 : w16.frozen? ⟨go11, (0 : Int).toNat * 2 + 1, none⟩ = false := hfr11 1
          clear hcl11 hcc11 hfr11 hM11
          (try rw [show ((0 : Int)).toNat = 0 from rfl] at hx11_0)
          (try simp only [Nat.reduceMul, Nat.zero_mul, Nat.zero_add, Nat.reduceAdd] at hx11_0)
          (try rw [show ((0 : Int)).toNat = 0 from rfl] at hf11_0)
          (try simp only [Nat.reduceMul, Nat.zero_mul, Nat.zero_add, Nat.reduceAdd] at hf11_0)
          (try rw [show ((0 : Int)).toNat = 0 from rfl] at hx11_1)
          (try simp only [Nat.reduceMul, Nat.zero_mul, Nat.zero_add, Nat.reduceAdd] at hx11_1)
          (try rw [show ((0 : Int)).toNat = 0 from rfl] at hf11_1)
          (try simp only [Nat.reduceMul, Nat.zero_mul, Nat.zero_add, Nat.reduceAdd] at hf11_1)
          replace p11 := eq_true p11
          replace q11 := eq_true q11
          have HX18 := Aside0.mk (show Kd.R k71 71 w16 w.heap.size (fun k_ => k_ ≠ gb458) (.slice (some ⟨go11, 0, none⟩) x3_1.length co11) x3_1 from (zqC HO_3.out))
          obtain ⟨ce18, hcl18, hM18, hcc18, hfr18⟩ := Kd.R_elem HX18.out z71 (0 : Int) (by omega) (by have h_ : (0 : Int) < ((x3_1.length : Int) : Int) := of_decide_eq_true (zqD); first | exact h_ | (have e_ := (Kd.R_reads' HO_3.out).1; omega) | simpa using h_)
          obtain rfl := k71_openM hM18
          have HP18 := Kd.R_seg HX18.out (0 : Int) (by omega) (by have h_ : (0 : Int) < ((x3_1.length : Int) : Int) := of_decide_eq_true (zqD); first | exact h_ | (have e_ := (Kd.R_reads' HO_3.out).1; omega) | simpa using h_) (seg := [.int .i64 (wrap64 (1 + (Int.tmod (wrap64 ((rd_T86 l0 x4_1).f0)) 4))), .int .i64 (Int.tmod (wrap64 ((rd_T86 l0 x4_1).f1)) 6)]) (j := 0) hcl18 hcc18 (show 2 ≤ 2 from by decide) (x' := (⟨wrap64 (1 + (Int.tmod (wrap64 ((rd_T86 l0 x4_1).f0)) 4)), Int.tmod (wrap64 ((rd_T86 l0 x4_1).f1)) 6⟩ : S71)) (k71_mkM _ _ _ (⟨wrap64 (1 + (Int.tmod (wrap64 ((rd_T86 l0 x4_1).f0)) 4)), Int.tmod (wrap64 ((rd_T86 l0 x4_1).f1)) 6⟩ : S71) ) (fun _ hk => hk)
          have hx18_0 := hcc18 0 _ rfl
          (try simp only [show (k71).sz = 2 from rfl, Nat.mul_one, Nat.add_zero] at hx18_0)
          (try rw [show ((0 : Int)).toNat = 0 from rfl] at hx18_0)
          (try simp only [Nat.reduceMul, Nat.zero_mul, Nat.zero_add, Nat.reduceAdd] at hx18_0)
          have hf18_0 := hfr18 0
          (try simp only [show (k71).sz = 2 from rfl, Nat.mul_one, Nat.add_zero] at hf18_0)
          (try rw [show ((0 : Int)).toNat = 0 from rfl] at hf18_0)
          (try simp only [Nat.reduceMul, Nat.zero_mul, Nat.zero_add, Nat.reduceAdd] at hf18_0)
          have hx18_1 := hcc18 1 _ rfl
          (try simp only [show (k71).sz = 2 from rfl, Nat.mul_one, Nat.add_zero] at hx18_1)
          (try rw [show ((0 : Int)).toNat = 0 from rfl] at hx18_1)
          (try simp only [Nat.reduceMul, Nat.zero_mul, Nat.zero_add, Nat.reduceAdd] at hx18_1)
          have hf18_1 := hfr18 1
          (try simp only [show (k71).sz = 2 from rfl, Nat.mul_one, Nat.add_zero] at hf18_1)
          (try rw [show ((0 : Int)).toNat = 0 from rfl] at hf18_1)
          (try simp only [Nat.reduceMul, Nat.zero_mul, Nat.zero_add, Nat.reduceAdd] at hf18_1)
          clear hcl18 hcc18 hfr18 hM18
          try go_wp2_with (first | ((with_reducible refine gate_store (t := 71) (p := 38) rfl ?_); refine store_event (t := 71) (p := 38) (v := ?vo_w19) (w1 := ((w16.setCell ⟨go11, 0, none⟩ (.int .i64 (wrap64 (1 + (Int.tmod (wrap64 ((rd_T86 l0 x4_1).f0)) 4))))).setCell ⟨go11, 1, none⟩ (.int .i64 (Int.tmod (wrap64 ((rd_T86 l0 x4_1).f1)) 6)))) ?hg ?ho ?hn ?hr ?_; (case ho => rfl); (case hg => rfl); (case hn => rfl); (case hr => first | (go_simp; done) | (go_simp; rfl)); intro w19 hw; have hg : w16.grownBy w19 (some go11) := (by rw [hw]; exact HP18.2); have hp_ : Kd.R k71 71 w19 w.heap.size (fun k_ => k_ ≠ gb458) (.slice (some ⟨go11, 0, none⟩) x3_1.length co11) y459 := (by rw [hw, Ny459.out]; exact HP18.1); clear HP18; have n0_ := Aside0.mk (hp_); have n1_ := Aside0.mk (blk_grown (g := gb458) (o := .cells #[.int .i64 (wrap64 (1 + (Int.tmod (wrap64 ((rd_T86 l0 x4_1).f0)) 4))), .int .i64 (Int.tmod (wrap64 ((rd_T86 l0 x4_1).f1)) 6)] 71 (0, 0)) (zqB BK458.out) hg (Kd.R_away HO_3.out (fun _ hk => hk))); have n2_ := Aside0.mk ((by rw [hw]; exact below_set (below_set (HB.out) GB11.out) GB11.out : Below w.heap.size w w19)); clear HO_3; clear BK458; clear HB; have HO_3 := n0_; have BK458 := n1_; have HB := n2_; clear n0_ n1_ n2_; clear hg hw hp_))
          go_roundg kj3
          case measure => have := HK1.out; have := HJ3.out; omega
          case rel => exact ⟨(y459), (wrap64 (x4_1 + 1)), (by first | rfl | (simp; done) | (simp [*]; done)), H', ⟨by have := HK1.out; have := HJ3.out; omega⟩, ⟨by (with_reducible repeat (first | apply Kd.R_alloc | apply Kd.R_drewN | apply Kd.R_drew)); exact Kd.R_mono HO_3.out (fun _ hk => trivial)⟩, ⟨zqG HB.out GE458.out⟩⟩
         ·
          rw [if_neg c10] at H
          exact absurd H (by simp)
        ·
         rw [if_neg c9] at H
         have c9b0 : (x4_1 == 0) = false := beq_eq_false_iff_ne.mpr c9
         have c9b1 : (x4_1 != 0) = true := bne_iff_ne.mpr c9
         by_cases c20 : x3_1.length < 8796093022208
         ·
          rw [if_pos c20] at H
          have LMc20 := Aside0.mk c20
          clear c20
          obtain ⟨y460, hy460⟩ : ∃ y_ : List (S71), y_ = (x3_1 ++ [(⟨wrap64 (1 + (Int.tmod (wrap64 ((rd_T86 l0 x4_1).f0)) 4)), Int.tmod (wrap64 ((rd_T86 l0 x4_1).f1)) 6⟩ : S71)]) := ⟨_, rfl⟩
          replace H : (pianolalaw04_Set_made.l0 kj3 l0 y460 (wrap64 (x4_1 + 1))) = some r := by first | (rw [hy460]; with_reducible exact H) | (have H2_ := (Option.bind_some _ _).symm.trans H; rw [hy460]; with_reducible exact H2_) | (have H2_ := (Option.bind_some _ _).symm.trans H; with_reducible exact H2_) | with_reducible exact H | (rw [hy460]; exact H) | exact H
          have Ny460 := Aside0.mk hy460
          clear hy460
          have H' := Aside0.mk H
          clear H
          try go_wp2
          have n0_ := Aside0.mk (Kd.R_drew HO_3.out)
          have n1_ := Aside0.mk (below_drew1 HB.out)
          clear HO_3
          clear HB
          have HO_3 := n0_
          have HB := n1_
          clear n0_ n1_
          have p456 : 0 ≤ (x4_1 : Int) := of_decide_eq_true (zqD)
          have q456 : x4_1 < (l0.length : Int) := of_decide_eq_true (zqD)
          obtain ⟨ad456, e456, hx456_0, hx456_1⟩ := at_T86 HR0.out x4_1 p456 q456
          have hw456_1 := hx456_1
          have hw456_0 := hx456_0
          cases e456
          replace hx456_0 := (HB.out.cell (World.block_lt_of_cell? w _ hx456_0)).trans hx456_0
          replace hx456_1 := (HB.out.cell (World.block_lt_of_cell? w _ hx456_1)).trans hx456_1
          replace p456 := eq_true p456
          replace q456 := eq_true q456
          have p457 : 0 ≤ (x4_1 : Int) := of_decide_eq_true (zqD)
          have q457 : x4_1 < (l0.length : Int) := of_decide_eq_true (zqD)
          obtain ⟨ad457, e457, hx457_0, hx457_1⟩ := at_T86 HR0.out x4_1 p457 q457
          have hw457_1 := hx457_1
          have hw457_0 := hx457_0
          obtain rfl : ad456 = ad457 := (by injection e457)
          replace hx457_0 := (HB.out.cell (World.block_lt_of_cell? w _ hx457_0)).trans hx457_0
          replace hx457_1 := (HB.out.cell (World.block_lt_of_cell? w _ hx457_1)).trans hx457_1
          replace p457 := eq_true p457
          replace q457 := eq_true q457
          refine start_ (n := 18) (S := fun w' => w'.cell? (ad456.add ((x4_1).toNat * 2)) = some (.int .u8 ((rd_T86 l0 x4_1).f0)) ∧ w'.cell? ⟨(ad456.add ((x4_1).toNat * 2)).block, (ad456.add ((x4_1).toNat * 2)).off + 1, none⟩ = some (.int .u8 ((rd_T86 l0 x4_1).f1)) ∧ w'.cell? (ad456.add ((x4_1).toNat * 2)) = some (.int .u8 ((rd_T86 l0 x4_1).f0)) ∧ w'.cell? ⟨(ad456.add ((x4_1).toNat * 2)).block, (ad456.add ((x4_1).toNat * 2)).off + 1, none⟩ = some (.int .u8 ((rd_T86 l0 x4_1).f1))) (ds := []) #[false, false, false, false, false, false, false, false, false, false, false, false, false, false, false, false, false, false] (by kernel_rfl) rfl rfl ⟨((HB.out.cell (World.block_lt_of_cell? w _ hw456_0)).trans hw456_0), ((HB.out.cell (World.block_lt_of_cell? w _ hw456_1)).trans hw456_1), ((HB.out.cell (World.block_lt_of_cell? w _ hw457_0)).trans hw457_0), ((HB.out.cell (World.block_lt_of_cell? w _ hw457_1)).trans hw457_1)⟩ (fun hHeld => ?_); refine with_tabW pianolalaw04_Set_made.tab5 pianolalaw04_Set_made.bits5 (fun HT_ HW_ => ?_)
          generalize wc.drew = w21 at HO_3 HB hx456_0 hx456_1 hx457_0 hx457_1 hHeld ⊢
          refine pure_ (i := 0) (N := some 18) (v := ?_) (a' := ?_) #[true, false, false, false, false, false, false, false, false, false, false, false, false, false, false, false, false, false] rfl rfl (any_of HT_.out (by kernel_rfl)) (fun _ _ _ h => h) (Or.inl ⟨by rfl, ?_⟩) ?_ ?_
          rotate_left
          ·
           intro w'
           go_simp
           with_reducible rfl
          rotate_left
          ·
           simp only [Act.put, List.setIfInBounds_toArray, List.set_cons_zero, List.set_cons_succ, i64_w, i32_w]
           rfl
          refine pure_ (i := 1) (N := some 19) (v := ?_) (a' := ?_) #[true, true, false, false, false, false, false, false, false, false, false, false, false, false, false, false, false, false] rfl rfl (any_of HT_.out (by kernel_rfl)) (fun _ _ _ h => h) (Or.inl ⟨by rfl, ?_⟩) ?_ ?_
          rotate_left
          ·
           intro w'
           go_simp
           with_reducible rfl
          rotate_left
          ·
           simp only [Act.put, List.setIfInBounds_toArray, List.set_cons_zero, List.set_cons_succ, i64_w, i32_w]
           rfl
          refine pure_ (i := 2) (N := some 20) (v := ?_) (a' := ?_) #[true, true, true, false, false, false, false, false, false, false, false, false, false, false, false, false, false, false] rfl rfl (any_of HT_.out (by kernel_rfl)) (fun _ _ _ h => h) (Or.inl ⟨by rfl, ?_⟩) ?_ ?_
          rotate_left
          ·
           intro w'
           go_simp
           with_reducible rfl
          rotate_left
          ·
           simp only [Act.put, List.setIfInBounds_toArray, List.set_cons_zero, List.set_cons_succ, i64_w, i32_w]
           rfl
          refine pure_ (i := 3) (N := some 21) (v := ?_) (a' := ?_) #[true, true, true, true, false, false, false, false, false, false, false, false, false, false, false, false, false, false] rfl rfl (any_of HT_.out (by kernel_rfl)) (fun _ _ _ h => h) (Or.inl ⟨by rfl, ?_⟩) ?_ ?_
          rotate_left
          ·
           intro w'
           go_simp
           with_reducible rfl
          rotate_left
          ·
           simp only [Act.put, List.setIfInBounds_toArray, List.set_cons_zero, List.set_cons_succ, i64_w, i32_w]
           rfl
          refine pure_ (i := 8) (N := some 26) (v := ?_) (a' := ?_) #[true, true, true, true, false, false, false, false, true, false, false, false, false, false, false, false, false, false] rfl rfl (any_of HT_.out (by kernel_rfl)) (fun _ _ _ h => h) (Or.inl ⟨by rfl, ?_⟩) ?_ ?_
          rotate_left
          ·
           intro w'
           go_simp
           with_reducible rfl
          rotate_left
          ·
           simp only [Act.put, List.setIfInBounds_toArray, List.set_cons_zero, List.set_cons_succ, i64_w, i32_w]
           rfl
          refine pure_ (i := 9) (N := some 27) (v := ?_) (a' := ?_) #[true, true, true, true, false, false, false, false, true, true, false, false, false, false, false, false, false, false] rfl rfl (any_of HT_.out (by kernel_rfl)) (fun _ _ _ h => h) (Or.inl ⟨by rfl, ?_⟩) ?_ ?_
          rotate_left
          ·
           intro w'
           go_simp
           with_reducible rfl
          rotate_left
          ·
           simp only [Act.put, List.setIfInBounds_toArray, List.set_cons_zero, List.set_cons_succ, i64_w, i32_w]
           rfl
          refine pure_ (i := 10) (N := some 28) (v := ?_) (a' := ?_) #[true, true, true, true, false, false, false, false, true, true, true, false, false, false, false, false, false, false] rfl rfl (any_of HT_.out (by kernel_rfl)) (fun _ _ _ h => h) (Or.inl ⟨by rfl, ?_⟩) ?_ ?_
          rotate_left
          ·
           intro w'
           go_simp
           with_reducible rfl
          rotate_left
          ·
           simp only [Act.put, List.setIfInBounds_toArray, List.set_cons_zero, List.set_cons_succ, i64_w, i32_w]
           rfl
          refine pure_ (i := 11) (N := some 29) (v := ?_) (a' := ?_) #[true, true, true, true, false, false, false, false, true, true, true, true, false, false, false, false, false, false] rfl rfl (any_of HT_.out (by kernel_rfl)) (fun _ _ _ h => h) (Or.inl ⟨by rfl, ?_⟩) ?_ ?_
          rotate_left
          ·
           intro w'
           go_simp
           with_reducible rfl
          rotate_left
          ·
           simp only [Act.put, List.setIfInBounds_toArray, List.set_cons_zero, List.set_cons_succ, i64_w, i32_w]
           rfl
          refine take_ (i := 4) (N := some 22) (v := ?_) (a' := ?_) #[true, true, true, true, true, false, false, false, true, true, true, true, false, false, false, false, false, false] rfl rfl (take_ofW HT_.out HW_.out (by kernel_rfl)) (fun _ _ _ h => h) (Or.inl ⟨by rfl, ?_⟩) hHeld ?_ ?_
          rotate_left
          ·
           rintro w' ⟨s0, s1, s2, s3⟩
           go_simp
           with_reducible rfl
          rotate_left
          ·
           simp only [Act.put, List.setIfInBounds_toArray, List.set_cons_zero, List.set_cons_succ, i64_w, i32_w]
           rfl
          refine pure_ (i := 5) (N := some 23) (v := ?_) (a' := ?_) #[true, true, true, true, true, true, false, false, true, true, true, true, false, false, false, false, false, false] rfl rfl (any_of HT_.out (by kernel_rfl)) (fun _ _ _ h => h) (Or.inl ⟨by rfl, ?_⟩) ?_ ?_
          rotate_left
          ·
           intro w'
           go_simp
           with_reducible rfl
          rotate_left
          ·
           simp only [Act.put, List.setIfInBounds_toArray, List.set_cons_zero, List.set_cons_succ, i64_w, i32_w]
           rfl
          refine pure_ (i := 6) (N := some 24) (v := ?_) (a' := ?_) #[true, true, true, true, true, true, true, false, true, true, true, true, false, false, false, false, false, false] rfl rfl (any_of HT_.out (by kernel_rfl)) (fun _ _ _ h => h) (Or.inl ⟨by rfl, ?_⟩) ?_ ?_
          rotate_left
          ·
           intro w'
           go_simp
           with_reducible rfl
          rotate_left
          ·
           simp only [Act.put, List.setIfInBounds_toArray, List.set_cons_zero, List.set_cons_succ, i64_w, i32_w]
           rfl
          refine pure_ (i := 7) (N := some 25) (v := ?_) (a' := ?_) #[true, true, true, true, true, true, true, true, true, true, true, true, false, false, false, false, false, false] rfl rfl (any_of HT_.out (by kernel_rfl)) (fun _ _ _ h => h) (Or.inl ⟨by rfl, ?_⟩) ?_ ?_
          rotate_left
          ·
           intro w'
           go_simp
           with_reducible rfl
          rotate_left
          ·
           simp only [Act.put, List.setIfInBounds_toArray, List.set_cons_zero, List.set_cons_succ, i64_w, i32_w]
           rfl
          refine take_ (i := 12) (N := some 30) (v := ?_) (a' := ?_) #[true, true, true, true, true, true, true, true, true, true, true, true, true, false, false, false, false, false] rfl rfl (take_ofW HT_.out HW_.out (by kernel_rfl)) (fun _ _ _ h => h) (Or.inl ⟨by rfl, ?_⟩) hHeld ?_ ?_
          rotate_left
          ·
           rintro w' ⟨s0, s1, s2, s3⟩
           go_simp
           with_reducible rfl
          rotate_left
          ·
           simp only [Act.put, List.setIfInBounds_toArray, List.set_cons_zero, List.set_cons_succ, i64_w, i32_w]
           rfl
          refine pure_ (i := 13) (N := some 31) (v := ?_) (a' := ?_) #[true, true, true, true, true, true, true, true, true, true, true, true, true, true, false, false, false, false] rfl rfl (any_of HT_.out (by kernel_rfl)) (fun _ _ _ h => h) (Or.inl ⟨by rfl, ?_⟩) ?_ ?_
          rotate_left
          ·
           intro w'
           go_simp
           with_reducible rfl
          rotate_left
          ·
           simp only [Act.put, List.setIfInBounds_toArray, List.set_cons_zero, List.set_cons_succ, i64_w, i32_w]
           rfl
          refine pure_ (i := 14) (N := some 32) (v := ?_) (a' := ?_) #[true, true, true, true, true, true, true, true, true, true, true, true, true, true, true, false, false, false] rfl rfl (any_of HT_.out (by kernel_rfl)) (fun _ _ _ h => h) (Or.inl ⟨by rfl, ?_⟩) ?_ ?_
          rotate_left
          ·
           intro w'
           go_simp
           with_reducible rfl
          rotate_left
          ·
           simp only [Act.put, List.setIfInBounds_toArray, List.set_cons_zero, List.set_cons_succ, i64_w, i32_w]
           rfl
          refine pure_ (i := 15) (N := some 33) (v := ?_) (a' := ?_) #[true, true, true, true, true, true, true, true, true, true, true, true, true, true, true, true, false, false] rfl rfl (any_of HT_.out (by kernel_rfl)) (fun _ _ _ h => h) (Or.inl ⟨by rfl, ?_⟩) ?_ ?_
          rotate_left
          ·
           intro w'
           go_simp
           with_reducible rfl
          rotate_left
          ·
           simp only [Act.put, List.setIfInBounds_toArray, List.set_cons_zero, List.set_cons_succ, i64_w, i32_w]
           rfl
          refine one_ (i := 16) (N := some 5) #[true, true, true, true, true, true, true, true, true, true, true, true, true, true, true, true, true, false] rfl rfl (one_of HT_.out (by kernel_rfl)) (by decide) (fun K hK => ?_)
          refine box_step ?hg (N := 5) ?hd (cs := #[.int .i64 0, .int .i64 0]) (t := 71) ?hr ?_; (case hd => rfl); (case hg => rfl); (case hr => first | (go_simp; done) | (go_simp; rfl))
          intro gb458 hg w22 hbox hb
          have n0_ := Aside0.mk (Kd.R_below (Kd.R_elderB (zqC HO_3.out) gb458 (Nat.le_of_eq hg.symm)) hb)
          have n1_ := Aside0.mk (below_step (zqA HB.out) hb)
          have n2_ := Aside0.mk (hbox)
          have n3_ := Aside0.mk ((by rw [hg]; exact (below_size (zqA HB.out)) : w.heap.size ≤ gb458))
          have n4_ := Aside0.mk ((by rw [hg]; exact (below_size (zqA HB.out)) : w.heap.size ≤ gb458))
          clear HO_3
          clear HB
          have HO_3 := n0_
          have HB := n1_
          have BK458 := n2_
          have GW458 := n3_
          have GE458 := n4_
          clear n0_ n1_ n2_ n3_ n4_
          clear hb hbox hg
          refine hK.out _ _ ⟨((HB.out.cell (World.block_lt_of_cell? w _ hw456_0)).trans hw456_0), ((HB.out.cell (World.block_lt_of_cell? w _ hw456_1)).trans hw456_1), ((HB.out.cell (World.block_lt_of_cell? w _ hw457_0)).trans hw457_0), ((HB.out.cell (World.block_lt_of_cell? w _ hw457_1)).trans hw457_1)⟩ (fun hHeld => ?_)
          clear hK K
          refine norm_ (a' := ?_) ?_ ?_
          rotate_left
          ·
           show Act.put _ (some 5) _ = _
           simp only [Act.put, List.setIfInBounds_toArray, List.set_cons_zero, List.set_cons_succ, i64_w, i32_w]
           rfl
          refine one_ (i := 17) (N := none) #[true, true, true, true, true, true, true, true, true, true, true, true, true, true, true, true, true, true] rfl rfl (one_of HT_.out (by kernel_rfl)) (by decide) (fun K hK => ?_)
          have hs23 : w22.cell? ⟨gb458, 0, none⟩ = some (.int .i64 0) := (blk_cell BK458.out 0).trans rfl
          have hfs23 := blk_frozen BK458.out 0
          have hs24 : w22.cell? ⟨gb458, 1, none⟩ = some (.int .i64 0) := (blk_cell BK458.out 1).trans rfl
          have hfs24 := blk_frozen BK458.out 1
          refine skip_ (w1 := ?_) (by rfl) rfl ?_ ?_
          rotate_left
          ·
           go_simp
           rfl
          refine hK.out _ _ ⟨((cell_far (p := ⟨gb458, _, none⟩) (by first | exact Nat.ne_of_lt (Nat.lt_of_lt_of_le (by have := World.block_lt_of_cell? _ _ hw456_0; first | rwa [add_block] at this | exact this) GW458.out) | (rw [add_block]; exact Nat.ne_of_lt (Nat.lt_of_lt_of_le (by have := World.block_lt_of_cell? _ _ hw456_0; first | rwa [add_block] at this | exact this) GW458.out)) | (show (Addr.add _ _).block ≠ _; rw [add_block]; exact Nat.ne_of_lt (Nat.lt_of_lt_of_le (by have := World.block_lt_of_cell? _ _ hw456_0; first | rwa [add_block] at this | exact this) GW458.out)) | (dsimp only; exact Nat.ne_of_lt (Nat.lt_of_lt_of_le (by have := World.block_lt_of_cell? _ _ hw456_0; first | rwa [add_block] at this | exact this) GW458.out))) _).trans (((cell_far (p := ⟨gb458, _, none⟩) (by first | exact Nat.ne_of_lt (Nat.lt_of_lt_of_le (by have := World.block_lt_of_cell? _ _ hw456_0; first | rwa [add_block] at this | exact this) GW458.out) | (rw [add_block]; exact Nat.ne_of_lt (Nat.lt_of_lt_of_le (by have := World.block_lt_of_cell? _ _ hw456_0; first | rwa [add_block] at this | exact this) GW458.out)) | (show (Addr.add _ _).block ≠ _; rw [add_block]; exact Nat.ne_of_lt (Nat.lt_of_lt_of_le (by have := World.block_lt_of_cell? _ _ hw456_0; first | rwa [add_block] at this | exact this) GW458.out)) | (dsimp only; exact Nat.ne_of_lt (Nat.lt_of_lt_of_le (by have := World.block_lt_of_cell? _ _ hw456_0; first | rwa [add_block] at this | exact this) GW458.out))) _).trans (hHeld.1)))), ((cell_far (p := ⟨gb458, _, none⟩) (by first | exact Nat.ne_of_lt (Nat.lt_of_lt_of_le (by have := World.block_lt_of_cell? _ _ hw456_1; first | rwa [add_block] at this | exact this) GW458.out) | (rw [add_block]; exact Nat.ne_of_lt (Nat.lt_of_lt_of_le (by have := World.block_lt_of_cell? _ _ hw456_1; first | rwa [add_block] at this | exact this) GW458.out)) | (show (Addr.add _ _).block ≠ _; rw [add_block]; exact Nat.ne_of_lt (Nat.lt_of_lt_of_le (by have := World.block_lt_of_cell? _ _ hw456_1; first | rwa [add_block] at this | exact this) GW458.out)) | (dsimp only; exact Nat.ne_of_lt (Nat.lt_of_lt_of_le (by have := World.block_lt_of_cell? _ _ hw456_1; first | rwa [add_block] at this | exact this) GW458.out))) _).trans (((cell_far (p := ⟨gb458, _, none⟩) (by first | exact Nat.ne_of_lt (Nat.lt_of_lt_of_le (by have := World.block_lt_of_cell? _ _ hw456_1; first | rwa [add_block] at this | exact this) GW458.out) | (rw [add_block]; exact Nat.ne_of_lt (Nat.lt_of_lt_of_le (by have := World.block_lt_of_cell? _ _ hw456_1; first | rwa [add_block] at this | exact this) GW458.out)) | (show (Addr.add _ _).block ≠ _; rw [add_block]; exact Nat.ne_of_lt (Nat.lt_of_lt_of_le (by have := World.block_lt_of_cell? _ _ hw456_1; first | rwa [add_block] at this | exact this) GW458.out)) | (dsimp only; exact Nat.ne_of_lt (Nat.lt_of_lt_of_le (by have := World.block_lt_of_cell? _ _ hw456_1; first | rwa [add_block] at this | exact this) GW458.out))) _).trans (hHeld.2.1)))), ((cell_far (p := ⟨gb458, _, none⟩) (by first | exact Nat.ne_of_lt (Nat.lt_of_lt_of_le (by have := World.block_lt_of_cell? _ _ hw457_0; first | rwa [add_block] at this | exact this) GW458.out) | (rw [add_block]; exact Nat.ne_of_lt (Nat.lt_of_lt_of_le (by have := World.block_lt_of_cell? _ _ hw457_0; first | rwa [add_block] at this | exact this) GW458.out)) | (show (Addr.add _ _).block ≠ _; rw [add_block]; exact Nat.ne_of_lt (Nat.lt_of_lt_of_le (by have := World.block_lt_of_cell? _ _ hw457_0; first | rwa [add_block] at this | exact this) GW458.out)) | (dsimp only; exact Nat.ne_of_lt (Nat.lt_of_lt_of_le (by have := World.block_lt_of_cell? _ _ hw457_0; first | rwa [add_block] at this | exact this) GW458.out))) _).trans (((cell_far (p := ⟨gb458, _, none⟩) (by first | exact Nat.ne_of_lt (Nat.lt_of_lt_of_le (by have := World.block_lt_of_cell? _ _ hw457_0; first | rwa [add_block] at this | exact this) GW458.out) | (rw [add_block]; exact Nat.ne_of_lt (Nat.lt_of_lt_of_le (by have := World.block_lt_of_cell? _ _ hw457_0; first | rwa [add_block] at this | exact this) GW458.out)) | (show (Addr.add _ _).block ≠ _; rw [add_block]; exact Nat.ne_of_lt (Nat.lt_of_lt_of_le (by have := World.block_lt_of_cell? _ _ hw457_0; first | rwa [add_block] at this | exact this) GW458.out)) | (dsimp only; exact Nat.ne_of_lt (Nat.lt_of_lt_of_le (by have := World.block_lt_of_cell? _ _ hw457_0; first | rwa [add_block] at this | exact this) GW458.out))) _).trans (hHeld.2.2.1)))), ((cell_far (p := ⟨gb458, _, none⟩) (by first | exact Nat.ne_of_lt (Nat.lt_of_lt_of_le (by have := World.block_lt_of_cell? _ _ hw457_1; first | rwa [add_block] at this | exact this) GW458.out) | (rw [add_block]; exact Nat.ne_of_lt (Nat.lt_of_lt_of_le (by have := World.block_lt_of_cell? _ _ hw457_1; first | rwa [add_block] at this | exact this) GW458.out)) | (show (Addr.add _ _).block ≠ _; rw [add_block]; exact Nat.ne_of_lt (Nat.lt_of_lt_of_le (by have := World.block_lt_of_cell? _ _ hw457_1; first | rwa [add_block] at this | exact this) GW458.out)) | (dsimp only; exact Nat.ne_of_lt (Nat.lt_of_lt_of_le (by have := World.block_lt_of_cell? _ _ hw457_1; first | rwa [add_block] at this | exact this) GW458.out))) _).trans (((cell_far (p := ⟨gb458, _, none⟩) (by first | exact Nat.ne_of_lt (Nat.lt_of_lt_of_le (by have := World.block_lt_of_cell? _ _ hw457_1; first | rwa [add_block] at this | exact this) GW458.out) | (rw [add_block]; exact Nat.ne_of_lt (Nat.lt_of_lt_of_le (by have := World.block_lt_of_cell? _ _ hw457_1; first | rwa [add_block] at this | exact this) GW458.out)) | (show (Addr.add _ _).block ≠ _; rw [add_block]; exact Nat.ne_of_lt (Nat.lt_of_lt_of_le (by have := World.block_lt_of_cell? _ _ hw457_1; first | rwa [add_block] at this | exact this) GW458.out)) | (dsimp only; exact Nat.ne_of_lt (Nat.lt_of_lt_of_le (by have := World.block_lt_of_cell? _ _ hw457_1; first | rwa [add_block] at this | exact this) GW458.out))) _).trans (hHeld.2.2.2))))⟩ (fun hHeld => ?_)
          clear hK K
          refine done_ (done_of HT_.out (by kernel_rfl)) ?_
          have hcz25_0 : w22.cell? ⟨gb458, 0, none⟩ = some (.int .i64 0) := (blk_cell BK458.out 0).trans rfl
          have hcz25_1 : w22.cell? ⟨gb458, 1, none⟩ = some (.int .i64 0) := (blk_cell BK458.out 1).trans rfl
          have hfz25_0 := blk_frozen BK458.out 0
          have hfz25_1 := blk_frozen BK458.out 1
          try go_wp2_with (first | ((with_reducible refine gate_builtin (b := .append) (xs := #[.tmp 39, .tmp 41]) rfl ?_); at_builtin; refine Kd.R_append k71 (w0 := w) w.heap.size rfl (.tmp 39) (.tmp 41) 22 71 (.agg #[(.int .i64 0), (.int .i64 0)]) 16 rfl Try.underlying22 info71 rfl (by decide) (by omega) u3 x3_1 (⟨wrap64 (1 + (Int.tmod (wrap64 ((rd_T86 l0 x4_1).f0)) 4)), Int.tmod (wrap64 ((rd_T86 l0 x4_1).f1)) 6⟩ : S71) [.int .i64 (wrap64 (1 + (Int.tmod (wrap64 ((rd_T86 l0 x4_1).f0)) 4))), .int .i64 (Int.tmod (wrap64 ((rd_T86 l0 x4_1).f1)) 6)] (fun k_ => k_ ≠ gb458) (fun _ => False) rfl (by first | (go_simp; done) | (go_simp; rfl)) ?aP (fun _ hk => hk.elim) ?aF ?aO ?aB ?aS ?aL ?_; (case aP => exact k71_mkM _ _ _ (⟨wrap64 (1 + (Int.tmod (wrap64 ((rd_T86 l0 x4_1).f0)) 4)), Int.tmod (wrap64 ((rd_T86 l0 x4_1).f1)) 6⟩ : S71)); (case aB => exact (zqG HB.out GE458.out)); (case aF => exact (fun k_ hk => Kd.freshB (g := gb458) (o := .cells #[.int .i64 (wrap64 (1 + (Int.tmod (wrap64 ((rd_T86 l0 x4_1).f0)) 4))), .int .i64 (Int.tmod (wrap64 ((rd_T86 l0 x4_1).f1)) 6)] 71 (0, 0)) (by (with_reducible repeat (first | refine blk_drewN ?_ _ | refine blk_drew ?_ | refine blk_alloc ?_ _)); refine blk_put (cs := #[.int .i64 (wrap64 (1 + (Int.tmod (wrap64 ((rd_T86 l0 x4_1).f0)) 4))), .int .i64 0]) ?_ 1 _ rfl; (with_reducible repeat (first | refine blk_drewN ?_ _ | refine blk_drew ?_ | refine blk_alloc ?_ _)); refine blk_put (cs := #[.int .i64 0, .int .i64 0]) ?_ 0 _ rfl; (with_reducible repeat (first | refine blk_drewN ?_ _ | refine blk_drew ?_ | refine blk_alloc ?_ _)); exact BK458.out) k_ hk)); (case aO => exact (by (with_reducible repeat (first | apply Kd.R_alloc | apply Kd.R_drewN | apply Kd.R_drew)); exact Kd.R_mono (Kd.R_far (p := ⟨gb458, 1, none⟩) (Kd.R_far (p := ⟨gb458, 0, none⟩) (Kd.R_mono HO_3.out (fun k_ hk => (⟨hk, hk.2⟩ : _ ∧ k_ ≠ gb458))) (fun _ hk => hk.2) (.int .i64 (wrap64 (1 + (Int.tmod (wrap64 ((rd_T86 l0 x4_1).f0)) 4))))) (fun _ hk => hk.2) (.int .i64 (Int.tmod (wrap64 ((rd_T86 l0 x4_1).f1)) 6))) (fun _ hk => hk.1.2))); (case aS => exact (below_size (zqG HB.out GE458.out))); (case aL => have := LMc20.out; omega); intro v461 w26 ho hb hg hat; rw [← Ny460.out] at ho; have n0_ := Aside0.mk (blk_grown (g := gb458) (o := .cells #[.int .i64 (wrap64 (1 + (Int.tmod (wrap64 ((rd_T86 l0 x4_1).f0)) 4))), .int .i64 (Int.tmod (wrap64 ((rd_T86 l0 x4_1).f1)) 6)] 71 (0, 0)) (by (with_reducible repeat (first | refine blk_drewN ?_ _ | refine blk_drew ?_ | refine blk_alloc ?_ _)); refine blk_put (cs := #[.int .i64 (wrap64 (1 + (Int.tmod (wrap64 ((rd_T86 l0 x4_1).f0)) 4))), .int .i64 0]) ?_ 1 _ rfl; (with_reducible repeat (first | refine blk_drewN ?_ _ | refine blk_drew ?_ | refine blk_alloc ?_ _)); refine blk_put (cs := #[.int .i64 0, .int .i64 0]) ?_ 0 _ rfl; (with_reducible repeat (first | refine blk_drewN ?_ _ | refine blk_drew ?_ | refine blk_alloc ?_ _)); exact BK458.out) hg (Kd.R_away HO_3.out (fun _ hk => hk.2))); have n1_ := Aside0.mk (hb); have n2_ := Aside0.mk (ho); clear BK458; clear HB; clear HO_3; have BK458 := n0_; have HB := n1_; have HO462 := n2_; clear n0_ n1_ n2_; clear ho hb hg hat))
          go_roundg kj3
          case measure => have := HK1.out; have := HJ3.out; omega
          case rel => exact ⟨(y460), (wrap64 (x4_1 + 1)), (by first | rfl | (simp; done) | (simp [*]; done)), H', ⟨by have := HK1.out; have := HJ3.out; omega⟩, ⟨by (with_reducible repeat (first | apply Kd.R_alloc | apply Kd.R_drewN | apply Kd.R_drew)); exact Kd.R_mono HO462.out (fun _ hk => trivial)⟩, ⟨zqG HB.out GE458.out⟩⟩
         ·
          rw [if_neg c20] at H
          exact absurd H (by simp)
       ·
        rw [if_neg c8] at H
        exact absurd H (by simp)
      ·
       rw [if_neg c7] at H
       exact absurd H (by simp)
     ·
      replace c6 := Bool.eq_false_iff.mpr c6
      subst c6
      have H1 : (some x3_1) = some r := by rw [if_neg (show ¬ (false = true) by decide)] at H; exact H
      clear H
      have H := H1
      clear H1
      obtain rfl := Option.some.inj H
      go_wp2
      go_ret
      exact ⟨_, by first | rfl | (simp [errW_none, errW_some] <;> rfl) | (simp [*, errW_none, errW_some] <;> rfl), zqC HO_3.out, zqA HB.out⟩
def pianolalaw04_sums.l0 : Nat → List Int → Int → Int → Int → Int → Option (Int)
  | 0, _, _, _, _, _ => none
  | k + 1, x0, x1, x2, x7, x8 => if x8 < (wrap64 (x1 + x2)) then (if x8 < (x0.length : Int) then (if 0 ≤ x8 then (pianolalaw04_sums.l0 k x0 x1 x2 (wrap64 (x7 + (rd x0 x8))) (wrap64 (x8 + 1))) else (none)) else (some x7)) else (some x7)
def pianolalaw04_sums.f (k : Nat) (l0 : List Int) (a1 : Int) (a2 : Int) : Option (Int) := pianolalaw04_sums.l0 k l0 a1 a2 0 a1
set_option maxHeartbeats 8000000 in
set_option maxRecDepth 100000 in
theorem pianolalaw04_sums.calls (k : Nat) (A0 : Option Addr) (c0 : Nat) (l0 : List Int) (a1 : Int) (a2 : Int) (r : Int) (w : World) (hr0 : Kd.C (Kd.int .i64) w A0 l0.length l0) (hc0 : l0.length ≤ c0) (h : pianolalaw04_sums.f k l0 a1 a2 = some r) :
  Calls Try.prog 43 #[.slice A0 l0.length c0, .int .i64 a1, .int .i64 a2] w fun e w' => e = .returned (.int .i64 r) ∧ Drawn0 w w' := by
 have HR0 := Aside0.mk hr0
 have HC0 := Aside0.mk hc0
 clear hr0 hc0
 have H : (pianolalaw04_sums.l0 k l0 a1 a2 0 a1) = some r := h
 clear h
 have H' := Aside0.mk H
 clear H
 go_enter Try.func43, Try.ntmps43
 go_wp2
 go_loopg [7, 8] k (fun kq v7 v8 w' => ∃ (x7_1 : Int) (x8_1 : Int), v7 = .int .i64 x7_1 ∧ v8 = .int .i64 x8_1 ∧ Aside0 (pianolalaw04_sums.l0 kq l0 a1 a2 x7_1 x8_1 = some r) ∧ Aside0 (kq ≤ k) ∧ Drawn0 w w')
 case atStart => exact ⟨(0), (a1), (by first | rfl | (simp; done) | (simp [*]; done)), (by first | rfl | (simp; done) | (simp [*]; done)), H', ⟨Nat.le_refl _⟩, by repeat (first | exact Drawn0.refl _ | apply Drawn0.step)⟩
 case round =>
  clear H'
  try clear p2
  obtain ⟨x7_1, x8_1, rfl, rfl, HA, HK1, ⟨m1, rfl⟩⟩ := hrel
  cases gk with
  | zero => exact absurd HA.out (by simp [pianolalaw04_sums.l0])
  | succ k1 =>
   have H := HA.out
   clear HA
   simp only [pianolalaw04_sums.l0] at H
   by_cases c4 : x8_1 < (wrap64 (a1 + a2))
   ·
    rw [if_pos c4] at H
    have c4b0 : decide (x8_1 < (wrap64 (a1 + a2))) = true := decide_eq_true c4
    clear c4
    by_cases c5 : x8_1 < (l0.length : Int)
    ·
     rw [if_pos c5] at H
     have c5b0 : decide (x8_1 < (l0.length : Int)) = true := decide_eq_true c5
     clear c5
     by_cases c6 : 0 ≤ x8_1
     ·
      rw [if_pos c6] at H
      have c6b0 : decide (0 ≤ x8_1) = true := decide_eq_true c6
      clear c6
      have H' := Aside0.mk H
      clear H
      have p463 : 0 ≤ (x8_1 : Int) := of_decide_eq_true (zqD)
      have q463 : x8_1 < (l0.length : Int) := of_decide_eq_true (zqD)
      obtain ⟨ad463, e463, hx463_0⟩ := Kd.at_int HR0.out x8_1 p463 q463
      cases e463
      replace p463 := eq_true p463
      replace q463 := eq_true q463
      go_wp2
      go_roundg k1
      case measure => have := HK1.out; omega
      case rel => exact ⟨(wrap64 (x7_1 + (rd l0 x8_1))), (wrap64 (x8_1 + 1)), (by first | rfl | (simp; done) | (simp [*]; done)), (by first | rfl | (simp; done) | (simp [*]; done)), H', ⟨by have := HK1.out; omega⟩, by repeat (first | exact Drawn0.refl _ | apply Drawn0.step)⟩
     ·
      rw [if_neg c6] at H
      exact absurd H (by simp)
    ·
     rw [if_neg c5] at H
     have c5b0 : decide (x8_1 < (l0.length : Int)) = false := decide_eq_false c5
     clear c5
     obtain rfl := Option.some.inj H
     go_wp2
     go_ret
     exact ⟨by first | rfl | (simp; done) | (simp [*]; done), by repeat (first | exact Drawn0.refl _ | apply Drawn0.step)⟩
   ·
    rw [if_neg c4] at H
    have c4b0 : decide (x8_1 < (wrap64 (a1 + a2))) = false := decide_eq_false c4
    clear c4
    obtain rfl := Option.some.inj H
    go_wp2
    go_ret
    exact ⟨by first | rfl | (simp; done) | (simp [*]; done), by repeat (first | exact Drawn0.refl _ | apply Drawn0.step)⟩
mutual
def pianolalaw04_demand.l0 : Nat → List (S71) → Int → List Int → List Int → Int → Option (List Int)
  | 0, _, _, _, _, _ => none
  | k + 1, x0, x1, x2, x7, x8 => if x8 < x1 then (if (x2.length : Int) > 0 then (if (x2.length : Int) = 0 then (none) else (if 0 ≤ (Int.tmod x8 (x2.length : Int)) then (if (Int.tmod x8 (x2.length : Int)) < (x2.length : Int) then (pianolalaw04_demand.j1 k x0 x1 x2 x7 x8 (Int.tmod (wrap64 (rd x2 (Int.tmod x8 (x2.length : Int)))) 8)) else (none)) else (none))) else (pianolalaw04_demand.j1 k x0 x1 x2 x7 x8 1000)) else (some x7)
def pianolalaw04_demand.j1 : Nat → List (S71) → Int → List Int → List Int → Int → Int → Option (List Int)
  | 0, _, _, _, _, _, _ => none
  | k + 1, x0, x1, x2, x7, x8, x9 => pianolalaw04_demand.l1 k x0 x1 x2 x7 x8 x9 x0 (x0.length : Int) 0
def pianolalaw04_demand.l1 : Nat → List (S71) → Int → List Int → List Int → Int → Int → List (S71) → Int → Int → Option (List Int)
  | 0, _, _, _, _, _, _, _, _, _ => none
  | k + 1, x0, x1, x2, x7, x8, x9, x29, x30, x31 => if x31 < x30 then (if 0 ≤ x31 then (if x31 < (x29.length : Int) then ((pianolalaw04_sums.f k x7 (mx 0 (wrap64 ((wrap64 (x8 - ((rd_T71 x29 x31).f0))) + 1))) ((rd_T71 x29 x31).f0)).bind fun t467 => (pianolalaw04_demand.l1 k x0 x1 x2 x7 x8 (mn x9 (wrap64 (((rd_T71 x29 x31).f1) - t467))) x29 x30 (wrap64 (x31 + 1)))) else (none)) else (none)) else (if x7.length < 17592186044416 then (pianolalaw04_demand.l0 k x0 x1 x2 (x7 ++ [mx 0 x9]) (wrap64 (x8 + 1))) else (none))
end
def pianolalaw04_demand.f (k : Nat) (l0 : List (S71)) (a1 : Int) (l2 : List Int) : Option (List Int) := pianolalaw04_demand.l0 k l0 a1 l2 ([] : List Int) 0
set_option maxHeartbeats 8000000 in
set_option maxRecDepth 100000 in
theorem pianolalaw04_demand.calls (k : Nat) (A0 : Option Addr) (c0 : Nat) (l0 : List (S71)) (a1 : Int) (A2 : Option Addr) (c2 : Nat) (l2 : List Int) (r : List Int) (w : World) (hr0 : Kd.C k71 w A0 l0.length l0) (hc0 : l0.length ≤ c0) (hr2 : Kd.C (Kd.int .u8) w A2 l2.length l2) (hc2 : l2.length ≤ c2) (h : pianolalaw04_demand.f k l0 a1 l2 = some r) :
  Calls Try.prog 41 #[.slice A0 l0.length c0, .int .i64 a1, .slice A2 l2.length c2] w fun e w' => ∃ v0_ : Value, e = .returned (v0_) ∧ Kd.R (Kd.int .i64) 3 w' w.heap.size (fun _ => True) v0_ r ∧ Below w.heap.size w w' := by
 have hu71 := Try.underlying71
 have HR0 := Aside0.mk hr0
 have HC0 := Aside0.mk hc0
 clear hr0 hc0
 have HR2 := Aside0.mk hr2
 have HC2 := Aside0.mk hc2
 clear hr2 hc2
 have HB := Aside0.mk (Below.refl w.heap.size w)
 have H : (pianolalaw04_demand.l0 k l0 a1 l2 ([] : List Int) 0) = some r := h
 clear h
 have H' := Aside0.mk H
 clear H
 go_enter Try.func41, Try.ntmps41
 go_wp2
 repeat (go_quiet (fail); try go_wp2)
 go_loopg [7, 8] k (fun kq v7 v8 w' => ∃ (x7_1 : List Int) (x8_1 : Int), v8 = .int .i64 x8_1 ∧ Aside0 (pianolalaw04_demand.l0 kq l0 a1 l2 x7_1 x8_1 = some r) ∧ Aside0 (kq ≤ k) ∧ Aside0 (Kd.R (Kd.int .i64) 3 w' w.heap.size (fun _ => True) v7 x7_1) ∧ Aside0 (Below w.heap.size w w'))
 case atStart => exact ⟨(([] : List Int)), (0), (by first | rfl | (simp; done) | (simp [*]; done)), H', ⟨Nat.le_refl _⟩, ⟨by first | exact Kd.R_nil _ _ _ _ _ | exact Kd.N_nil _ _ _ _ _ | exact Kd.V_nil _ _ _ _ _ | exact Kd.Q_nil _ _ _ _ _ | exact Kd.S_nil _ _ _ _ _⟩, ⟨zqA HB.out⟩⟩
 case round =>
  clear H'
  try clear c2
  try clear p2
  obtain ⟨x7_1, x8_1, rfl, HA, HK1, HO_7, HB⟩ := hrel
  cases gk with
  | zero => exact absurd HA.out (by simp [pianolalaw04_demand.l0])
  | succ k1 =>
   have H := HA.out
   clear HA
   simp only [pianolalaw04_demand.l0] at H
   by_cases c4 : x8_1 < a1
   ·
    rw [if_pos c4] at H
    have c4b0 : decide (x8_1 < a1) = true := decide_eq_true c4
    clear c4
    have HC5 := Aside0.mk H
    clear H
    go_upto_if 19 with (fail)
    repeat (go_quiet (fail); go_upto_if 19 with (fail))
    go_cut [9] (fun v9 wc => ∃ (kq : Nat) (x9_4 : Int), v9 = .int .i64 x9_4 ∧ Aside0 (pianolalaw04_demand.j1 kq l0 a1 l2 x7_1 x8_1 x9_4 = some r) ∧ Aside0 (kq ≤ k1) ∧ Aside0 (Kd.R (Kd.int .i64) 3 wc w.heap.size (fun _ => True) u7 x7_1) ∧ Aside0 (Below w.heap.size w wc))
    case first =>
     have H := HC5.out
     clear HC5
     by_cases c6 : (l2.length : Int) > 0
     ·
      rw [if_pos c6] at H
      have c6b0 : decide (0 < (l2.length : Int)) = true := decide_eq_true c6
      have c6b1 : decide (0 < l2.length) = true := decide_eq_true (by omega)
      clear c6
      (first | rw [c6b0] | rw [c6b1] | (simp only [i64_w, i32_w]; rw [c6b0]) | skip)
      by_cases c7 : (l2.length : Int) = 0
      ·
       rw [if_pos c7] at H
       exact absurd H (by simp)
      ·
       rw [if_neg c7] at H
       have c7b0 : ((l2.length : Int) == 0) = false := beq_eq_false_iff_ne.mpr c7
       have c7b1 : ((l2.length : Int) != 0) = true := bne_iff_ne.mpr c7
       have c7b2 : ¬ (l2 = []) := fun h_ => c7 (by rw [h_]; rfl)
       obtain ⟨ji8, hji8⟩ : ∃ j_ : Int, (Int.tmod x8_1 (l2.length : Int)) = j_ := ⟨_, rfl⟩
       replace H : (if 0 ≤ (ji8) then (if (ji8) < (l2.length : Int) then (pianolalaw04_demand.j1 k1 l0 a1 l2 x7_1 x8_1 (Int.tmod (wrap64 (rd l2 (ji8))) 8)) else (none)) else (none)) = some r := by first | (rw [hji8] at H; exact H) | (simp only [hji8] at H ⊢; exact H)
       by_cases c9 : 0 ≤ (ji8)
       ·
        rw [if_pos c9] at H
        have c9b0 : decide (0 ≤ (ji8)) = true := decide_eq_true c9
        clear c9
        by_cases c10 : (ji8) < (l2.length : Int)
        ·
         rw [if_pos c10] at H
         have c10b0 : decide ((ji8) < (l2.length : Int)) = true := decide_eq_true c10
         clear c10
         have H' := Aside0.mk H
         clear H
         have p464 : 0 ≤ ((ji8) : Int) := of_decide_eq_true (zqD)
         have q464 : (ji8) < (l2.length : Int) := of_decide_eq_true (zqD)
         obtain ⟨ad464, e464, hx464_0⟩ := Kd.at_int HR2.out (ji8) p464 q464
         cases e464
         replace hx464_0 := (HB.out.cell (World.block_lt_of_cell? w _ hx464_0)).trans hx464_0
         replace p464 := eq_true p464
         replace q464 := eq_true q464
         go_wp2
         repeat (go_quiet (fail); try go_wp2)
         go_meet
         case rel => exact ⟨_, (Int.tmod (wrap64 (rd l2 (ji8))) 8), (by first | rfl | (simp; done) | (simp only [← hji8] <;> (first | rfl | simp)) | (simp [*]; done)), H', ⟨by have := HK1.out; first | omega | exact Nat.le_refl _⟩, ⟨zqC HO_7.out⟩, ⟨zqA HB.out⟩⟩
        ·
         rw [if_neg c10] at H
         exact absurd H (by simp)
       ·
        rw [if_neg c9] at H
        exact absurd H (by simp)
     ·
      rw [if_neg c6] at H
      have c6b0 : decide (0 < (l2.length : Int)) = false := decide_eq_false c6
      have c6b1 : decide (0 < l2.length) = false := decide_eq_false (by omega)
      clear c6
      (first | rw [c6b0] | rw [c6b1] | (simp only [i64_w, i32_w]; rw [c6b0]) | skip)
      have H' := Aside0.mk H
      clear H
      go_wp2
      repeat (go_quiet (fail); try go_wp2)
      go_meet
      case rel => exact ⟨_, (1000), (by first | rfl | (simp; done) | (simp [*]; done)), H', ⟨by have := HK1.out; first | omega | exact Nat.le_refl _⟩, ⟨zqC HO_7.out⟩, ⟨zqA HB.out⟩⟩
    case rest =>
     clear HC5
     try clear c1
     try clear c2
     try clear p2
     try clear c4
     try clear c4b0
     try clear p4
     try clear q4
     try clear hx4
     try clear c6
     try clear c6b0
     try clear c6b1
     try clear p6
     try clear c7
     try clear c7b0
     try clear c7b1
     try clear c7b2
     try clear c9
     try clear c9b0
     try clear c10
     try clear c10b0
     try clear hx464_0
     try clear p2
     try clear p464
     try clear q464
     obtain ⟨kq, x9_4, rfl, HA, HJ4, HO_7, HB⟩ := hcut
     cases kq with
     | zero => exact absurd HA.out (by simp [pianolalaw04_demand.j1])
     | succ kj4 =>
      have H := HA.out
      clear HA
      simp only [pianolalaw04_demand.j1] at H
      have H' := Aside0.mk H
      clear H
      go_wp2
      repeat (go_quiet (fail); try go_wp2)
      go_loopg [9, 31] kj4 (fun kq v9 v31 w' => ∃ (x9_3 : Int) (x31_3 : Int), v9 = .int .i64 x9_3 ∧ v31 = .int .i64 x31_3 ∧ Aside0 (pianolalaw04_demand.l1 kq l0 a1 l2 x7_1 x8_1 x9_3 l0 (l0.length : Int) x31_3 = some r) ∧ Aside0 (kq ≤ kj4) ∧ Aside0 (Kd.R (Kd.int .i64) 3 w' w.heap.size (fun _ => True) u7 x7_1) ∧ Aside0 (Below w.heap.size w w'))
      case atStart => exact ⟨(x9_4), (0), (by first | rfl | (simp; done) | (simp [*]; done)), (by first | rfl | (simp; done) | (simp [*]; done)), H', ⟨Nat.le_refl _⟩, ⟨zqC HO_7.out⟩, ⟨zqA HB.out⟩⟩
      case round =>
       clear H'
       try clear c1
       try clear c2
       try clear p2
       try clear c4
       try clear c4b0
       try clear p4
       try clear q4
       try clear hx4
       try clear c6
       try clear c6b0
       try clear c6b1
       try clear p6
       try clear c7
       try clear c7b0
       try clear c7b1
       try clear c7b2
       try clear c9
       try clear c9b0
       try clear c10
       try clear c10b0
       try clear hx464_0
       try clear p2
       try clear p4
       try clear p464
       try clear p6
       try clear q4
       try clear q464
       obtain ⟨x9_3, x31_3, rfl, rfl, HA, HK3, HO_7, HB⟩ := hrel
       cases gk with
       | zero => exact absurd HA.out (by simp [pianolalaw04_demand.l1])
       | succ k3 =>
        have H := HA.out
        clear HA
        simp only [pianolalaw04_demand.l1] at H
        by_cases c11 : x31_3 < (l0.length : Int)
        ·
         rw [if_pos c11] at H
         have c11b0 : decide (x31_3 < (l0.length : Int)) = true := decide_eq_true c11
         clear c11
         by_cases c12 : 0 ≤ x31_3
         ·
          rw [if_pos c12] at H
          have c12b0 : decide (0 ≤ x31_3) = true := decide_eq_true c12
          clear c12
          by_cases c13 : x31_3 < (l0.length : Int)
          ·
           rw [if_pos c13] at H
           have c13b0 : decide (x31_3 < (l0.length : Int)) = true := decide_eq_true c13
           clear c13
           obtain ⟨ji14, hji14⟩ : ∃ j_ : Int, (mx 0 (wrap64 ((wrap64 (x8_1 - ((rd_T71 l0 x31_3).f0))) + 1))) = j_ := ⟨_, rfl⟩
           replace H : ((pianolalaw04_sums.f k3 x7_1 (ji14) ((rd_T71 l0 x31_3).f0)).bind fun t467 => (pianolalaw04_demand.l1 k3 l0 a1 l2 x7_1 x8_1 (mn x9_3 (wrap64 (((rd_T71 l0 x31_3).f1) - t467))) l0 (l0.length : Int) (wrap64 (x31_3 + 1)))) = some r := by first | (rw [hji14] at H; exact H) | (simp only [hji14] at H ⊢; exact H)
           have hji14_ : (if 0 < (wrap64 ((wrap64 (x8_1 - ((rd_T71 l0 x31_3).f0))) + 1)) then (wrap64 ((wrap64 (x8_1 - ((rd_T71 l0 x31_3).f0))) + 1)) else 0) = ji14 := hji14
           replace H := Option.bind_eq_some_iff.mp H
           obtain ⟨t467, A150, H⟩ := H
           replace H : (pianolalaw04_demand.l1 k3 l0 a1 l2 x7_1 x8_1 (mn x9_3 (wrap64 (((rd_T71 l0 x31_3).f1) - t467))) l0 (l0.length : Int) (wrap64 (x31_3 + 1))) = some r := H
           have A15 := Aside0.mk A150
           clear A150
           obtain ⟨ji16, hji16⟩ : ∃ j_ : Int, (mn x9_3 (wrap64 (((rd_T71 l0 x31_3).f1) - t467))) = j_ := ⟨_, rfl⟩
           replace H : (pianolalaw04_demand.l1 k3 l0 a1 l2 x7_1 x8_1 ji16 l0 (l0.length : Int) (wrap64 (x31_3 + 1))) = some r := by first | (rw [hji16] at H; exact H) | (simp only [hji16] at H ⊢; exact H)
           (try rw [hji16] at A15)
           have hji16_ : (if (wrap64 (((rd_T71 l0 x31_3).f1) - t467)) < x9_3 then (wrap64 (((rd_T71 l0 x31_3).f1) - t467)) else x9_3) = ji16 := hji16
           have H' := Aside0.mk H
           clear H
           have p465 : 0 ≤ (x31_3 : Int) := of_decide_eq_true (zqD)
           have q465 : x31_3 < (l0.length : Int) := of_decide_eq_true (zqD)
           obtain ⟨ad465, e465, hx465_0, hx465_1⟩ := at_T71 HR0.out x31_3 p465 q465
           cases e465
           replace hx465_0 := (HB.out.cell (World.block_lt_of_cell? w _ hx465_0)).trans hx465_0
           replace hx465_1 := (HB.out.cell (World.block_lt_of_cell? w _ hx465_1)).trans hx465_1
           replace p465 := eq_true p465
           replace q465 := eq_true q465
           go_wp2_with (first | ((with_reducible refine gate_dst (N := 11) rfl ?_); refine box_event ?hg (N := 11) ?hd (cs := #[.int .i64 0, .int .i64 0]) (t := 71) ?hr ?_; (case hd => rfl); (case hg => rfl); (case hr => first | (go_simp; done) | (go_simp; rfl)); intro gb466 hg w17 hbox hb; have n0_ := Aside0.mk (Kd.R_below (zqC HO_7.out) hb); have n1_ := Aside0.mk (below_step (zqA HB.out) hb); have n2_ := Aside0.mk (hbox); have n3_ := Aside0.mk ((by rw [hg]; exact (below_size (zqA HB.out)) : w.heap.size ≤ gb466)); have n4_ := Aside0.mk ((by rw [hg]; exact (below_size (zqA HB.out)) : w.heap.size ≤ gb466)); clear HO_7; clear HB; have HO_7 := n0_; have HB := n1_; have BK466 := n2_; have GW466 := n3_; have GE466 := n4_; clear n0_ n1_ n2_ n3_ n4_; clear hb hbox hg; have hcz18_0 : w17.cell? ⟨gb466, 0, none⟩ = some (.int .i64 0) := (blk_cell BK466.out 0).trans rfl; have hcz18_1 : w17.cell? ⟨gb466, 1, none⟩ = some (.int .i64 0) := (blk_cell BK466.out 1).trans rfl; have hfz18_0 := blk_frozen BK466.out 0; have hfz18_1 := blk_frozen BK466.out 1; obtain ⟨Ao19, co19, eo19⟩ := Kd.R_slice HO_7.out; subst eo19) | (go_at_call 43; (with_reducible refine (pianolalaw04_sums.calls k3 _ _ x7_1 ji14 ((rd_T71 l0 x31_3).f0) t467 _ ?side1 ?side2 A15.out).mono ?_); (case side1 => refine (Kd.R_reads' (e := 3) (base := w.heap.size) (ok := fun k_ => True) (n := x7_1.length) (c := co19) ?_).2.2; exact (by (with_reducible repeat (first | apply Kd.R_alloc | apply Kd.R_drewN | apply Kd.R_drew)); exact (Kd.R_mono (Kd.R_far (p := ⟨gb466, 1, none⟩) (Kd.R_far (p := ⟨gb466, 0, none⟩) (Kd.R_types HO_7.out BK466.out (by decide)) (fun _ hk => hk.2) (.int .i64 ((rd_T71 l0 x31_3).f0))) (fun _ hk => hk.2) (.int .i64 ((rd_T71 l0 x31_3).f1))) (fun _ h_ => h_.1)))); (case side2 => exact (Kd.R_reads' HO_7.out).2.1); rintro e w' ⟨rfl, ⟨nd, rfl⟩⟩; (try first | exact ⟨rfl, _, World.drewN_drewN _ _ _⟩ | exact ⟨rfl, _, Eq.trans (World.drewN_drewN _ _ _) (congrArg (World.drewN _) (Nat.add_assoc _ _ _))⟩)))
           repeat (go_quiet (first | ((with_reducible refine gate_dst (N := 11) rfl ?_); refine box_event ?hg (N := 11) ?hd (cs := #[.int .i64 0, .int .i64 0]) (t := 71) ?hr ?_; (case hd => rfl); (case hg => rfl); (case hr => first | (go_simp; done) | (go_simp; rfl)); intro gb466 hg w17 hbox hb; have n0_ := Aside0.mk (Kd.R_below (zqC HO_7.out) hb); have n1_ := Aside0.mk (below_step (zqA HB.out) hb); have n2_ := Aside0.mk (hbox); have n3_ := Aside0.mk ((by rw [hg]; exact (below_size (zqA HB.out)) : w.heap.size ≤ gb466)); have n4_ := Aside0.mk ((by rw [hg]; exact (below_size (zqA HB.out)) : w.heap.size ≤ gb466)); clear HO_7; clear HB; have HO_7 := n0_; have HB := n1_; have BK466 := n2_; have GW466 := n3_; have GE466 := n4_; clear n0_ n1_ n2_ n3_ n4_; clear hb hbox hg; have hcz18_0 : w17.cell? ⟨gb466, 0, none⟩ = some (.int .i64 0) := (blk_cell BK466.out 0).trans rfl; have hcz18_1 : w17.cell? ⟨gb466, 1, none⟩ = some (.int .i64 0) := (blk_cell BK466.out 1).trans rfl; have hfz18_0 := blk_frozen BK466.out 0; have hfz18_1 := blk_frozen BK466.out 1; obtain ⟨Ao19, co19, eo19⟩ := Kd.R_slice HO_7.out; subst eo19) | (go_at_call 43; (with_reducible refine (pianolalaw04_sums.calls k3 _ _ x7_1 ji14 ((rd_T71 l0 x31_3).f0) t467 _ ?side1 ?side2 A15.out).mono ?_); (case side1 => refine (Kd.R_reads' (e := 3) (base := w.heap.size) (ok := fun k_ => True) (n := x7_1.length) (c := co19) ?_).2.2; exact (by (with_reducible repeat (first | apply Kd.R_alloc | apply Kd.R_drewN | apply Kd.R_drew)); exact (Kd.R_mono (Kd.R_far (p := ⟨gb466, 1, none⟩) (Kd.R_far (p := ⟨gb466, 0, none⟩) (Kd.R_types HO_7.out BK466.out (by decide)) (fun _ hk => hk.2) (.int .i64 ((rd_T71 l0 x31_3).f0))) (fun _ hk => hk.2) (.int .i64 ((rd_T71 l0 x31_3).f1))) (fun _ h_ => h_.1)))); (case side2 => exact (Kd.R_reads' HO_7.out).2.1); rintro e w' ⟨rfl, ⟨nd, rfl⟩⟩; (try first | exact ⟨rfl, _, World.drewN_drewN _ _ _⟩ | exact ⟨rfl, _, Eq.trans (World.drewN_drewN _ _ _) (congrArg (World.drewN _) (Nat.add_assoc _ _ _))⟩))); try go_wp2_with (first | ((with_reducible refine gate_dst (N := 11) rfl ?_); refine box_event ?hg (N := 11) ?hd (cs := #[.int .i64 0, .int .i64 0]) (t := 71) ?hr ?_; (case hd => rfl); (case hg => rfl); (case hr => first | (go_simp; done) | (go_simp; rfl)); intro gb466 hg w17 hbox hb; have n0_ := Aside0.mk (Kd.R_below (zqC HO_7.out) hb); have n1_ := Aside0.mk (below_step (zqA HB.out) hb); have n2_ := Aside0.mk (hbox); have n3_ := Aside0.mk ((by rw [hg]; exact (below_size (zqA HB.out)) : w.heap.size ≤ gb466)); have n4_ := Aside0.mk ((by rw [hg]; exact (below_size (zqA HB.out)) : w.heap.size ≤ gb466)); clear HO_7; clear HB; have HO_7 := n0_; have HB := n1_; have BK466 := n2_; have GW466 := n3_; have GE466 := n4_; clear n0_ n1_ n2_ n3_ n4_; clear hb hbox hg; have hcz18_0 : w17.cell? ⟨gb466, 0, none⟩ = some (.int .i64 0) := (blk_cell BK466.out 0).trans rfl; have hcz18_1 : w17.cell? ⟨gb466, 1, none⟩ = some (.int .i64 0) := (blk_cell BK466.out 1).trans rfl; have hfz18_0 := blk_frozen BK466.out 0; have hfz18_1 := blk_frozen BK466.out 1; obtain ⟨Ao19, co19, eo19⟩ := Kd.R_slice HO_7.out; subst eo19) | (go_at_call 43; (with_reducible refine (pianolalaw04_sums.calls k3 _ _ x7_1 ji14 ((rd_T71 l0 x31_3).f0) t467 _ ?side1 ?side2 A15.out).mono ?_); (case side1 => refine (Kd.R_reads' (e := 3) (base := w.heap.size) (ok := fun k_ => True) (n := x7_1.length) (c := co19) ?_).2.2; exact (by (with_reducible repeat (first | apply Kd.R_alloc | apply Kd.R_drewN | apply Kd.R_drew)); exact (Kd.R_mono (Kd.R_far (p := ⟨gb466, 1, none⟩) (Kd.R_far (p := ⟨gb466, 0, none⟩) (Kd.R_types HO_7.out BK466.out (by decide)) (fun _ hk => hk.2) (.int .i64 ((rd_T71 l0 x31_3).f0))) (fun _ hk => hk.2) (.int .i64 ((rd_T71 l0 x31_3).f1))) (fun _ h_ => h_.1)))); (case side2 => exact (Kd.R_reads' HO_7.out).2.1); rintro e w' ⟨rfl, ⟨nd, rfl⟩⟩; (try first | exact ⟨rfl, _, World.drewN_drewN _ _ _⟩ | exact ⟨rfl, _, Eq.trans (World.drewN_drewN _ _ _) (congrArg (World.drewN _) (Nat.add_assoc _ _ _))⟩))))
           go_roundg k3
           case measure => have := HK1.out; have := HJ4.out; have := HK3.out; omega
           case rel => exact ⟨(ji16), (wrap64 (x31_3 + 1)), (by first | rfl | (simp; done) | (simp only [← hji16] <;> (first | rfl | simp)) | (simp [*]; done)), (by first | rfl | (simp; done) | (simp [*]; done)), H', ⟨by have := HK1.out; have := HJ4.out; have := HK3.out; omega⟩, ⟨by (with_reducible repeat (first | apply Kd.R_alloc | apply Kd.R_drewN | apply Kd.R_drew)); exact Kd.R_mono (Kd.R_far (p := ⟨gb466, 1, none⟩) (Kd.R_far (p := ⟨gb466, 0, none⟩) (Kd.R_types HO_7.out BK466.out (by decide)) (fun _ hk => hk.2) (.int .i64 ((rd_T71 l0 x31_3).f0))) (fun _ hk => hk.2) (.int .i64 ((rd_T71 l0 x31_3).f1))) (fun _ hk => trivial)⟩, ⟨zqG HB.out GE466.out⟩⟩
          ·
           rw [if_neg c13] at H
           exact absurd H (by simp)
         ·
          rw [if_neg c12] at H
          exact absurd H (by simp)
        ·
         rw [if_neg c11] at H
         have c11b0 : decide (x31_3 < (l0.length : Int)) = false := decide_eq_false c11
         clear c11
         obtain ⟨ji20, hji20⟩ : ∃ j_ : Int, (mx 0 x9_3) = j_ := ⟨_, rfl⟩
         replace H : (if x7_1.length < 17592186044416 then (pianolalaw04_demand.l0 k3 l0 a1 l2 (x7_1 ++ [ji20]) (wrap64 (x8_1 + 1))) else (none)) = some r := by first | (rw [hji20] at H; exact H) | (simp only [hji20] at H ⊢; exact H)
         have hji20_ : (if 0 < x9_3 then x9_3 else 0) = ji20 := hji20
         by_cases c21 : x7_1.length < 17592186044416
         ·
          rw [if_pos c21] at H
          have LMc21 := Aside0.mk c21
          clear c21
          obtain ⟨y468, hy468⟩ : ∃ y_ : List Int, y_ = (x7_1 ++ [ji20]) := ⟨_, rfl⟩
          replace H : (pianolalaw04_demand.l0 k3 l0 a1 l2 y468 (wrap64 (x8_1 + 1))) = some r := by first | (rw [hy468]; with_reducible exact H) | (have H2_ := (Option.bind_some _ _).symm.trans H; rw [hy468]; with_reducible exact H2_) | (have H2_ := (Option.bind_some _ _).symm.trans H; with_reducible exact H2_) | with_reducible exact H | (rw [hy468]; exact H) | exact H
          have Ny468 := Aside0.mk hy468
          clear hy468
          have H' := Aside0.mk H
          clear H
          go_wp2_with (first | ((with_reducible refine gate_builtin (b := .append) (xs := #[.tmp 51, .tmp 54]) rfl ?_); at_builtin; refine Kd.R_append (Kd.int .i64) (w0 := w) w.heap.size rfl (.tmp 51) (.tmp 54) 30 3 (.int .i64 0) 8 rfl Try.underlying30 info3 rfl (by decide) (by omega) u7 x7_1 ji20 [.int .i64 ji20] (fun _ => True) (fun _ => False) rfl rfl ?aP (fun _ hk => hk.elim) ?aF ?aO ?aB ?aS ?aL ?_; (case aP => exact rfl); (case aB => exact (zqA HB.out)); (case aF => exact (fun _ _ => trivial)); (case aO => exact (zqC HO_7.out)); (case aS => exact (below_size (zqA HB.out))); (case aL => have := LMc21.out; omega); intro v469 w22 ho hb hg hat; rw [← Ny468.out] at ho; have n0_ := Aside0.mk (hb); have n1_ := Aside0.mk (ho); clear HB; clear HO_7; have HB := n0_; have HO470 := n1_; clear n0_ n1_; clear ho hb hg hat))
          repeat (go_quiet (first | ((with_reducible refine gate_builtin (b := .append) (xs := #[.tmp 51, .tmp 54]) rfl ?_); at_builtin; refine Kd.R_append (Kd.int .i64) (w0 := w) w.heap.size rfl (.tmp 51) (.tmp 54) 30 3 (.int .i64 0) 8 rfl Try.underlying30 info3 rfl (by decide) (by omega) u7 x7_1 ji20 [.int .i64 ji20] (fun _ => True) (fun _ => False) rfl rfl ?aP (fun _ hk => hk.elim) ?aF ?aO ?aB ?aS ?aL ?_; (case aP => exact rfl); (case aB => exact (zqA HB.out)); (case aF => exact (fun _ _ => trivial)); (case aO => exact (zqC HO_7.out)); (case aS => exact (below_size (zqA HB.out))); (case aL => have := LMc21.out; omega); intro v469 w22 ho hb hg hat; rw [← Ny468.out] at ho; have n0_ := Aside0.mk (hb); have n1_ := Aside0.mk (ho); clear HB; clear HO_7; have HB := n0_; have HO470 := n1_; clear n0_ n1_; clear ho hb hg hat)); try go_wp2_with (first | ((with_reducible refine gate_builtin (b := .append) (xs := #[.tmp 51, .tmp 54]) rfl ?_); at_builtin; refine Kd.R_append (Kd.int .i64) (w0 := w) w.heap.size rfl (.tmp 51) (.tmp 54) 30 3 (.int .i64 0) 8 rfl Try.underlying30 info3 rfl (by decide) (by omega) u7 x7_1 ji20 [.int .i64 ji20] (fun _ => True) (fun _ => False) rfl rfl ?aP (fun _ hk => hk.elim) ?aF ?aO ?aB ?aS ?aL ?_; (case aP => exact rfl); (case aB => exact (zqA HB.out)); (case aF => exact (fun _ _ => trivial)); (case aO => exact (zqC HO_7.out)); (case aS => exact (below_size (zqA HB.out))); (case aL => have := LMc21.out; omega); intro v469 w22 ho hb hg hat; rw [← Ny468.out] at ho; have n0_ := Aside0.mk (hb); have n1_ := Aside0.mk (ho); clear HB; clear HO_7; have HB := n0_; have HO470 := n1_; clear n0_ n1_; clear ho hb hg hat)))
          go_roundg k3
          case measure => have := HK1.out; have := HJ4.out; have := HK3.out; omega
          case rel => exact ⟨(y468), (wrap64 (x8_1 + 1)), (by first | rfl | (simp; done) | (simp [*]; done)), H', ⟨by have := HK1.out; have := HJ4.out; have := HK3.out; omega⟩, ⟨zqC HO470.out⟩, ⟨zqA HB.out⟩⟩
         ·
          rw [if_neg c21] at H
          exact absurd H (by simp)
   ·
    rw [if_neg c4] at H
    have c4b0 : decide (x8_1 < a1) = false := decide_eq_false c4
    clear c4
    obtain rfl := Option.some.inj H
    go_wp2
    repeat (go_quiet (fail); try go_wp2)
    go_ret
    exact ⟨_, by first | rfl | (simp [errW_none, errW_some] <;> rfl) | (simp [*, errW_none, errW_some] <;> rfl), zqC HO_7.out, zqA HB.out⟩
mutual
def pianolalaw04_capacity.l0 : Nat → List (S71) → Int → List Int → List Int → Int → Option (List Int)
  | 0, _, _, _, _, _ => none
  | k + 1, x0, x1, x2, x7, x8 => if x8 < x1 then (if (x2.length : Int) > 0 then (if (x2.length : Int) = 0 then (none) else (if 0 ≤ (Int.tmod x8 (x2.length : Int)) then (if (Int.tmod x8 (x2.length : Int)) < (x2.length : Int) then (pianolalaw04_capacity.j1 k x0 x1 x2 x7 x8 (wrap64 ((wrap64 (Int.tdiv (Int.tmod (wrap64 (rd x2 (Int.tmod x8 (x2.length : Int)))) 8) 2)) * (wrap64 (Int.tdiv (wrap64 (rd x2 (Int.tmod x8 (x2.length : Int)))) 128))))) else (none)) else (none))) else (pianolalaw04_capacity.j1 k x0 x1 x2 x7 x8 0)) else (some x7)
def pianolalaw04_capacity.j1 : Nat → List (S71) → Int → List Int → List Int → Int → Int → Option (List Int)
  | 0, _, _, _, _, _, _ => none
  | k + 1, x0, x1, x2, x7, x8, x9 => pianolalaw04_capacity.l1 k x0 x1 x2 x7 x8 x9 x0 (x0.length : Int) 0
def pianolalaw04_capacity.l1 : Nat → List (S71) → Int → List Int → List Int → Int → Int → List (S71) → Int → Int → Option (List Int)
  | 0, _, _, _, _, _, _, _, _, _ => none
  | k + 1, x0, x1, x2, x7, x8, x9, x40, x41, x42 => if x42 < x41 then (if 0 ≤ x42 then (if x42 < (x40.length : Int) then (if (wrap64 (x8 + 1)) ≥ ((rd_T71 x40 x42).f0) then ((pianolalaw04_sums.f k x7 (wrap64 ((wrap64 (x8 - ((rd_T71 x40 x42).f0))) + 1)) ((rd_T71 x40 x42).f0)).bind fun t475 => (pianolalaw04_capacity.l1 k x0 x1 x2 x7 x8 (mx x9 (wrap64 (((rd_T71 x40 x42).f1) - t475))) x40 x41 (wrap64 (x42 + 1)))) else (pianolalaw04_capacity.l1 k x0 x1 x2 x7 x8 x9 x40 x41 (wrap64 (x42 + 1)))) else (none)) else (none)) else (if x7.length < 17592186044416 then (pianolalaw04_capacity.l0 k x0 x1 x2 (x7 ++ [x9]) (wrap64 (x8 + 1))) else (none))
end
def pianolalaw04_capacity.f (k : Nat) (l0 : List (S71)) (a1 : Int) (l2 : List Int) : Option (List Int) := pianolalaw04_capacity.l0 k l0 a1 l2 ([] : List Int) 0
set_option maxHeartbeats 8000000 in
set_option maxRecDepth 100000 in
theorem pianolalaw04_capacity.calls (k : Nat) (A0 : Option Addr) (c0 : Nat) (l0 : List (S71)) (a1 : Int) (A2 : Option Addr) (c2 : Nat) (l2 : List Int) (r : List Int) (w : World) (hr0 : Kd.C k71 w A0 l0.length l0) (hc0 : l0.length ≤ c0) (hr2 : Kd.C (Kd.int .u8) w A2 l2.length l2) (hc2 : l2.length ≤ c2) (h : pianolalaw04_capacity.f k l0 a1 l2 = some r) :
  Calls Try.prog 42 #[.slice A0 l0.length c0, .int .i64 a1, .slice A2 l2.length c2] w fun e w' => ∃ v0_ : Value, e = .returned (v0_) ∧ Kd.R (Kd.int .i64) 3 w' w.heap.size (fun _ => True) v0_ r ∧ Below w.heap.size w w' := by
 have hu71 := Try.underlying71
 have HR0 := Aside0.mk hr0
 have HC0 := Aside0.mk hc0
 clear hr0 hc0
 have HR2 := Aside0.mk hr2
 have HC2 := Aside0.mk hc2
 clear hr2 hc2
 have HB := Aside0.mk (Below.refl w.heap.size w)
 have H : (pianolalaw04_capacity.l0 k l0 a1 l2 ([] : List Int) 0) = some r := h
 clear h
 have H' := Aside0.mk H
 clear H
 go_enter Try.func42, Try.ntmps42
 go_wp2
 repeat (go_quiet (fail); try go_wp2)
 go_loopg [7, 8] k (fun kq v7 v8 w' => ∃ (x7_1 : List Int) (x8_1 : Int), v8 = .int .i64 x8_1 ∧ Aside0 (pianolalaw04_capacity.l0 kq l0 a1 l2 x7_1 x8_1 = some r) ∧ Aside0 (kq ≤ k) ∧ Aside0 (Kd.R (Kd.int .i64) 3 w' w.heap.size (fun _ => True) v7 x7_1) ∧ Aside0 (Below w.heap.size w w'))
 case atStart => exact ⟨(([] : List Int)), (0), (by first | rfl | (simp; done) | (simp [*]; done)), H', ⟨Nat.le_refl _⟩, ⟨by first | exact Kd.R_nil _ _ _ _ _ | exact Kd.N_nil _ _ _ _ _ | exact Kd.V_nil _ _ _ _ _ | exact Kd.Q_nil _ _ _ _ _ | exact Kd.S_nil _ _ _ _ _⟩, ⟨zqA HB.out⟩⟩
 case round =>
  clear H'
  try clear c2
  try clear p2
  obtain ⟨x7_1, x8_1, rfl, HA, HK1, HO_7, HB⟩ := hrel
  cases gk with
  | zero => exact absurd HA.out (by simp [pianolalaw04_capacity.l0])
  | succ k1 =>
   have H := HA.out
   clear HA
   simp only [pianolalaw04_capacity.l0] at H
   by_cases c4 : x8_1 < a1
   ·
    rw [if_pos c4] at H
    have c4b0 : decide (x8_1 < a1) = true := decide_eq_true c4
    clear c4
    have HC5 := Aside0.mk H
    clear H
    go_upto_if 19 with (fail)
    repeat (go_quiet (fail); go_upto_if 19 with (fail))
    go_cut [9] (fun v9 wc => ∃ (kq : Nat) (x9_4 : Int), v9 = .int .i64 x9_4 ∧ Aside0 (pianolalaw04_capacity.j1 kq l0 a1 l2 x7_1 x8_1 x9_4 = some r) ∧ Aside0 (kq ≤ k1) ∧ Aside0 (Kd.R (Kd.int .i64) 3 wc w.heap.size (fun _ => True) u7 x7_1) ∧ Aside0 (Below w.heap.size w wc))
    case first =>
     have H := HC5.out
     clear HC5
     by_cases c6 : (l2.length : Int) > 0
     ·
      rw [if_pos c6] at H
      have c6b0 : decide (0 < (l2.length : Int)) = true := decide_eq_true c6
      have c6b1 : decide (0 < l2.length) = true := decide_eq_true (by omega)
      clear c6
      (first | rw [c6b0] | rw [c6b1] | (simp only [i64_w, i32_w]; rw [c6b0]) | skip)
      by_cases c7 : (l2.length : Int) = 0
      ·
       rw [if_pos c7] at H
       exact absurd H (by simp)
      ·
       rw [if_neg c7] at H
       have c7b0 : ((l2.length : Int) == 0) = false := beq_eq_false_iff_ne.mpr c7
       have c7b1 : ((l2.length : Int) != 0) = true := bne_iff_ne.mpr c7
       have c7b2 : ¬ (l2 = []) := fun h_ => c7 (by rw [h_]; rfl)
       obtain ⟨ji8, hji8⟩ : ∃ j_ : Int, (Int.tmod x8_1 (l2.length : Int)) = j_ := ⟨_, rfl⟩
       replace H : (if 0 ≤ (ji8) then (if (ji8) < (l2.length : Int) then (pianolalaw04_capacity.j1 k1 l0 a1 l2 x7_1 x8_1 (wrap64 ((wrap64 (Int.tdiv (Int.tmod (wrap64 (rd l2 (ji8))) 8) 2)) * (wrap64 (Int.tdiv (wrap64 (rd l2 (ji8))) 128))))) else (none)) else (none)) = some r := by first | (rw [hji8] at H; exact H) | (simp only [hji8] at H ⊢; exact H)
       by_cases c9 : 0 ≤ (ji8)
       ·
        rw [if_pos c9] at H
        have c9b0 : decide (0 ≤ (ji8)) = true := decide_eq_true c9
        clear c9
        by_cases c10 : (ji8) < (l2.length : Int)
        ·
         rw [if_pos c10] at H
         have c10b0 : decide ((ji8) < (l2.length : Int)) = true := decide_eq_true c10
         clear c10
         have H' := Aside0.mk H
         clear H
         have p471 : 0 ≤ ((ji8) : Int) := of_decide_eq_true (zqD)
         have q471 : (ji8) < (l2.length : Int) := of_decide_eq_true (zqD)
         obtain ⟨ad471, e471, hx471_0⟩ := Kd.at_int HR2.out (ji8) p471 q471
         cases e471
         replace hx471_0 := (HB.out.cell (World.block_lt_of_cell? w _ hx471_0)).trans hx471_0
         replace p471 := eq_true p471
         replace q471 := eq_true q471
         have p472 : 0 ≤ ((ji8) : Int) := of_decide_eq_true (zqD)
         have q472 : (ji8) < (l2.length : Int) := of_decide_eq_true (zqD)
         obtain ⟨ad472, e472, hx472_0⟩ := Kd.at_int HR2.out (ji8) p472 q472
         obtain rfl : ad471 = ad472 := (by injection e472)
         replace hx472_0 := (HB.out.cell (World.block_lt_of_cell? w _ hx472_0)).trans hx472_0
         replace p472 := eq_true p472
         replace q472 := eq_true q472
         go_wp2
         repeat (go_quiet (fail); try go_wp2)
         go_meet
         case rel => exact ⟨_, (wrap64 ((wrap64 (Int.tdiv (Int.tmod (wrap64 (rd l2 (ji8))) 8) 2)) * (wrap64 (Int.tdiv (wrap64 (rd l2 (ji8))) 128)))), (by first | rfl | (simp; done) | (simp only [← hji8] <;> (first | rfl | simp)) | (simp [*]; done)), H', ⟨by have := HK1.out; first | omega | exact Nat.le_refl _⟩, ⟨zqC HO_7.out⟩, ⟨zqA HB.out⟩⟩
        ·
         rw [if_neg c10] at H
         exact absurd H (by simp)
       ·
        rw [if_neg c9] at H
        exact absurd H (by simp)
     ·
      rw [if_neg c6] at H
      have c6b0 : decide (0 < (l2.length : Int)) = false := decide_eq_false c6
      have c6b1 : decide (0 < l2.length) = false := decide_eq_false (by omega)
      clear c6
      (first | rw [c6b0] | rw [c6b1] | (simp only [i64_w, i32_w]; rw [c6b0]) | skip)
      have H' := Aside0.mk H
      clear H
      go_wp2
      repeat (go_quiet (fail); try go_wp2)
      go_meet
      case rel => exact ⟨_, (0), (by first | rfl | (simp; done) | (simp [*]; done)), H', ⟨by have := HK1.out; first | omega | exact Nat.le_refl _⟩, ⟨zqC HO_7.out⟩, ⟨zqA HB.out⟩⟩
    case rest =>
     clear HC5
     try clear c1
     try clear c2
     try clear p2
     try clear c4
     try clear c4b0
     try clear p4
     try clear q4
     try clear hx4
     try clear c6
     try clear c6b0
     try clear c6b1
     try clear p6
     try clear c7
     try clear c7b0
     try clear c7b1
     try clear c7b2
     try clear c9
     try clear c9b0
     try clear c10
     try clear c10b0
     try clear hx471_0
     try clear hx472_0
     try clear p2
     try clear p471
     try clear p472
     try clear q471
     try clear q472
     obtain ⟨kq, x9_4, rfl, HA, HJ4, HO_7, HB⟩ := hcut
     cases kq with
     | zero => exact absurd HA.out (by simp [pianolalaw04_capacity.j1])
     | succ kj4 =>
      have H := HA.out
      clear HA
      simp only [pianolalaw04_capacity.j1] at H
      have H' := Aside0.mk H
      clear H
      go_wp2
      repeat (go_quiet (fail); try go_wp2)
      go_loopg [9, 42] kj4 (fun kq v9 v42 w' => ∃ (x9_3 : Int) (x42_3 : Int), v9 = .int .i64 x9_3 ∧ v42 = .int .i64 x42_3 ∧ Aside0 (pianolalaw04_capacity.l1 kq l0 a1 l2 x7_1 x8_1 x9_3 l0 (l0.length : Int) x42_3 = some r) ∧ Aside0 (kq ≤ kj4) ∧ Aside0 (Kd.R (Kd.int .i64) 3 w' w.heap.size (fun _ => True) u7 x7_1) ∧ Aside0 (Below w.heap.size w w'))
      case atStart => exact ⟨(x9_4), (0), (by first | rfl | (simp; done) | (simp [*]; done)), (by first | rfl | (simp; done) | (simp [*]; done)), H', ⟨Nat.le_refl _⟩, ⟨zqC HO_7.out⟩, ⟨zqA HB.out⟩⟩
      case round =>
       clear H'
       try clear c1
       try clear c2
       try clear p2
       try clear c4
       try clear c4b0
       try clear p4
       try clear q4
       try clear hx4
       try clear c6
       try clear c6b0
       try clear c6b1
       try clear p6
       try clear c7
       try clear c7b0
       try clear c7b1
       try clear c7b2
       try clear c9
       try clear c9b0
       try clear c10
       try clear c10b0
       try clear hx471_0
       try clear hx472_0
       try clear p2
       try clear p4
       try clear p471
       try clear p472
       try clear p6
       try clear q4
       try clear q471
       try clear q472
       obtain ⟨x9_3, x42_3, rfl, rfl, HA, HK3, HO_7, HB⟩ := hrel
       cases gk with
       | zero => exact absurd HA.out (by simp [pianolalaw04_capacity.l1])
       | succ k3 =>
        have H := HA.out
        clear HA
        simp only [pianolalaw04_capacity.l1] at H
        by_cases c11 : x42_3 < (l0.length : Int)
        ·
         rw [if_pos c11] at H
         have c11b0 : decide (x42_3 < (l0.length : Int)) = true := decide_eq_true c11
         clear c11
         by_cases c12 : 0 ≤ x42_3
         ·
          rw [if_pos c12] at H
          have c12b0 : decide (0 ≤ x42_3) = true := decide_eq_true c12
          clear c12
          by_cases c13 : x42_3 < (l0.length : Int)
          ·
           rw [if_pos c13] at H
           have c13b0 : decide (x42_3 < (l0.length : Int)) = true := decide_eq_true c13
           clear c13
           by_cases c14 : (wrap64 (x8_1 + 1)) ≥ ((rd_T71 l0 x42_3).f0)
           ·
            rw [if_pos c14] at H
            have c14b0 : decide (((rd_T71 l0 x42_3).f0) ≤ (wrap64 (x8_1 + 1))) = true := decide_eq_true c14
            clear c14
            replace H := Option.bind_eq_some_iff.mp H
            obtain ⟨t475, A150, H⟩ := H
            replace H : (pianolalaw04_capacity.l1 k3 l0 a1 l2 x7_1 x8_1 (mx x9_3 (wrap64 (((rd_T71 l0 x42_3).f1) - t475))) l0 (l0.length : Int) (wrap64 (x42_3 + 1))) = some r := H
            have A15 := Aside0.mk A150
            clear A150
            obtain ⟨ji16, hji16⟩ : ∃ j_ : Int, (mx x9_3 (wrap64 (((rd_T71 l0 x42_3).f1) - t475))) = j_ := ⟨_, rfl⟩
            replace H : (pianolalaw04_capacity.l1 k3 l0 a1 l2 x7_1 x8_1 ji16 l0 (l0.length : Int) (wrap64 (x42_3 + 1))) = some r := by first | (rw [hji16] at H; exact H) | (simp only [hji16] at H ⊢; exact H)
            (try rw [hji16] at A15)
            have hji16_ : (if x9_3 < (wrap64 (((rd_T71 l0 x42_3).f1) - t475)) then (wrap64 (((rd_T71 l0 x42_3).f1) - t475)) else x9_3) = ji16 := hji16
            have H' := Aside0.mk H
            clear H
            have p473 : 0 ≤ (x42_3 : Int) := of_decide_eq_true (zqD)
            have q473 : x42_3 < (l0.length : Int) := of_decide_eq_true (zqD)
            obtain ⟨ad473, e473, hx473_0, hx473_1⟩ := at_T71 HR0.out x42_3 p473 q473
            cases e473
            replace hx473_0 := (HB.out.cell (World.block_lt_of_cell? w _ hx473_0)).trans hx473_0
            replace hx473_1 := (HB.out.cell (World.block_lt_of_cell? w _ hx473_1)).trans hx473_1
            replace p473 := eq_true p473
            replace q473 := eq_true q473
            go_wp2_with (first | ((with_reducible refine gate_dst (N := 11) rfl ?_); refine box_event ?hg (N := 11) ?hd (cs := #[.int .i64 0, .int .i64 0]) (t := 71) ?hr ?_; (case hd => rfl); (case hg => rfl); (case hr => first | (go_simp; done) | (go_simp; rfl)); intro gb474 hg w17 hbox hb; have n0_ := Aside0.mk (Kd.R_below (zqC HO_7.out) hb); have n1_ := Aside0.mk (below_step (zqA HB.out) hb); have n2_ := Aside0.mk (hbox); have n3_ := Aside0.mk ((by rw [hg]; exact (below_size (zqA HB.out)) : w.heap.size ≤ gb474)); have n4_ := Aside0.mk ((by rw [hg]; exact (below_size (zqA HB.out)) : w.heap.size ≤ gb474)); clear HO_7; clear HB; have HO_7 := n0_; have HB := n1_; have BK474 := n2_; have GW474 := n3_; have GE474 := n4_; clear n0_ n1_ n2_ n3_ n4_; clear hb hbox hg; have hcz18_0 : w17.cell? ⟨gb474, 0, none⟩ = some (.int .i64 0) := (blk_cell BK474.out 0).trans rfl; have hcz18_1 : w17.cell? ⟨gb474, 1, none⟩ = some (.int .i64 0) := (blk_cell BK474.out 1).trans rfl; have hfz18_0 := blk_frozen BK474.out 0; have hfz18_1 := blk_frozen BK474.out 1; obtain ⟨Ao19, co19, eo19⟩ := Kd.R_slice HO_7.out; subst eo19) | (go_at_call 43; (with_reducible refine (pianolalaw04_sums.calls k3 _ _ x7_1 (wrap64 ((wrap64 (x8_1 - ((rd_T71 l0 x42_3).f0))) + 1)) ((rd_T71 l0 x42_3).f0) t475 _ ?side1 ?side2 A15.out).mono ?_); (case side1 => refine (Kd.R_reads' (e := 3) (base := w.heap.size) (ok := fun k_ => True) (n := x7_1.length) (c := co19) ?_).2.2; exact (by (with_reducible repeat (first | apply Kd.R_alloc | apply Kd.R_drewN | apply Kd.R_drew)); exact (Kd.R_mono (Kd.R_far (p := ⟨gb474, 1, none⟩) (Kd.R_far (p := ⟨gb474, 0, none⟩) (Kd.R_types HO_7.out BK474.out (by decide)) (fun _ hk => hk.2) (.int .i64 ((rd_T71 l0 x42_3).f0))) (fun _ hk => hk.2) (.int .i64 ((rd_T71 l0 x42_3).f1))) (fun _ h_ => h_.1)))); (case side2 => exact (Kd.R_reads' HO_7.out).2.1); rintro e w' ⟨rfl, ⟨nd, rfl⟩⟩; (try first | exact ⟨rfl, _, World.drewN_drewN _ _ _⟩ | exact ⟨rfl, _, Eq.trans (World.drewN_drewN _ _ _) (congrArg (World.drewN _) (Nat.add_assoc _ _ _))⟩)))
            repeat (go_quiet (first | ((with_reducible refine gate_dst (N := 11) rfl ?_); refine box_event ?hg (N := 11) ?hd (cs := #[.int .i64 0, .int .i64 0]) (t := 71) ?hr ?_; (case hd => rfl); (case hg => rfl); (case hr => first | (go_simp; done) | (go_simp; rfl)); intro gb474 hg w17 hbox hb; have n0_ := Aside0.mk (Kd.R_below (zqC HO_7.out) hb); have n1_ := Aside0.mk (below_step (zqA HB.out) hb); have n2_ := Aside0.mk (hbox); have n3_ := Aside0.mk ((by rw [hg]; exact (below_size (zqA HB.out)) : w.heap.size ≤ gb474)); have n4_ := Aside0.mk ((by rw [hg]; exact (below_size (zqA HB.out)) : w.heap.size ≤ gb474)); clear HO_7; clear HB; have HO_7 := n0_; have HB := n1_; have BK474 := n2_; have GW474 := n3_; have GE474 := n4_; clear n0_ n1_ n2_ n3_ n4_; clear hb hbox hg; have hcz18_0 : w17.cell? ⟨gb474, 0, none⟩ = some (.int .i64 0) := (blk_cell BK474.out 0).trans rfl; have hcz18_1 : w17.cell? ⟨gb474, 1, none⟩ = some (.int .i64 0) := (blk_cell BK474.out 1).trans rfl; have hfz18_0 := blk_frozen BK474.out 0; have hfz18_1 := blk_frozen BK474.out 1; obtain ⟨Ao19, co19, eo19⟩ := Kd.R_slice HO_7.out; subst eo19) | (go_at_call 43; (with_reducible refine (pianolalaw04_sums.calls k3 _ _ x7_1 (wrap64 ((wrap64 (x8_1 - ((rd_T71 l0 x42_3).f0))) + 1)) ((rd_T71 l0 x42_3).f0) t475 _ ?side1 ?side2 A15.out).mono ?_); (case side1 => refine (Kd.R_reads' (e := 3) (base := w.heap.size) (ok := fun k_ => True) (n := x7_1.length) (c := co19) ?_).2.2; exact (by (with_reducible repeat (first | apply Kd.R_alloc | apply Kd.R_drewN | apply Kd.R_drew)); exact (Kd.R_mono (Kd.R_far (p := ⟨gb474, 1, none⟩) (Kd.R_far (p := ⟨gb474, 0, none⟩) (Kd.R_types HO_7.out BK474.out (by decide)) (fun _ hk => hk.2) (.int .i64 ((rd_T71 l0 x42_3).f0))) (fun _ hk => hk.2) (.int .i64 ((rd_T71 l0 x42_3).f1))) (fun _ h_ => h_.1)))); (case side2 => exact (Kd.R_reads' HO_7.out).2.1); rintro e w' ⟨rfl, ⟨nd, rfl⟩⟩; (try first | exact ⟨rfl, _, World.drewN_drewN _ _ _⟩ | exact ⟨rfl, _, Eq.trans (World.drewN_drewN _ _ _) (congrArg (World.drewN _) (Nat.add_assoc _ _ _))⟩))); try go_wp2_with (first | ((with_reducible refine gate_dst (N := 11) rfl ?_); refine box_event ?hg (N := 11) ?hd (cs := #[.int .i64 0, .int .i64 0]) (t := 71) ?hr ?_; (case hd => rfl); (case hg => rfl); (case hr => first | (go_simp; done) | (go_simp; rfl)); intro gb474 hg w17 hbox hb; have n0_ := Aside0.mk (Kd.R_below (zqC HO_7.out) hb); have n1_ := Aside0.mk (below_step (zqA HB.out) hb); have n2_ := Aside0.mk (hbox); have n3_ := Aside0.mk ((by rw [hg]; exact (below_size (zqA HB.out)) : w.heap.size ≤ gb474)); have n4_ := Aside0.mk ((by rw [hg]; exact (below_size (zqA HB.out)) : w.heap.size ≤ gb474)); clear HO_7; clear HB; have HO_7 := n0_; have HB := n1_; have BK474 := n2_; have GW474 := n3_; have GE474 := n4_; clear n0_ n1_ n2_ n3_ n4_; clear hb hbox hg; have hcz18_0 : w17.cell? ⟨gb474, 0, none⟩ = some (.int .i64 0) := (blk_cell BK474.out 0).trans rfl; have hcz18_1 : w17.cell? ⟨gb474, 1, none⟩ = some (.int .i64 0) := (blk_cell BK474.out 1).trans rfl; have hfz18_0 := blk_frozen BK474.out 0; have hfz18_1 := blk_frozen BK474.out 1; obtain ⟨Ao19, co19, eo19⟩ := Kd.R_slice HO_7.out; subst eo19) | (go_at_call 43; (with_reducible refine (pianolalaw04_sums.calls k3 _ _ x7_1 (wrap64 ((wrap64 (x8_1 - ((rd_T71 l0 x42_3).f0))) + 1)) ((rd_T71 l0 x42_3).f0) t475 _ ?side1 ?side2 A15.out).mono ?_); (case side1 => refine (Kd.R_reads' (e := 3) (base := w.heap.size) (ok := fun k_ => True) (n := x7_1.length) (c := co19) ?_).2.2; exact (by (with_reducible repeat (first | apply Kd.R_alloc | apply Kd.R_drewN | apply Kd.R_drew)); exact (Kd.R_mono (Kd.R_far (p := ⟨gb474, 1, none⟩) (Kd.R_far (p := ⟨gb474, 0, none⟩) (Kd.R_types HO_7.out BK474.out (by decide)) (fun _ hk => hk.2) (.int .i64 ((rd_T71 l0 x42_3).f0))) (fun _ hk => hk.2) (.int .i64 ((rd_T71 l0 x42_3).f1))) (fun _ h_ => h_.1)))); (case side2 => exact (Kd.R_reads' HO_7.out).2.1); rintro e w' ⟨rfl, ⟨nd, rfl⟩⟩; (try first | exact ⟨rfl, _, World.drewN_drewN _ _ _⟩ | exact ⟨rfl, _, Eq.trans (World.drewN_drewN _ _ _) (congrArg (World.drewN _) (Nat.add_assoc _ _ _))⟩))))
            go_roundg k3
            case measure => have := HK1.out; have := HJ4.out; have := HK3.out; omega
            case rel => exact ⟨(ji16), (wrap64 (x42_3 + 1)), (by first | rfl | (simp; done) | (simp only [← hji16] <;> (first | rfl | simp)) | (simp [*]; done)), (by first | rfl | (simp; done) | (simp [*]; done)), H', ⟨by have := HK1.out; have := HJ4.out; have := HK3.out; omega⟩, ⟨by (with_reducible repeat (first | apply Kd.R_alloc | apply Kd.R_drewN | apply Kd.R_drew)); exact Kd.R_mono (Kd.R_far (p := ⟨gb474, 1, none⟩) (Kd.R_far (p := ⟨gb474, 0, none⟩) (Kd.R_types HO_7.out BK474.out (by decide)) (fun _ hk => hk.2) (.int .i64 ((rd_T71 l0 x42_3).f0))) (fun _ hk => hk.2) (.int .i64 ((rd_T71 l0 x42_3).f1))) (fun _ hk => trivial)⟩, ⟨zqG HB.out GE474.out⟩⟩
           ·
            rw [if_neg c14] at H
            have c14b0 : decide (((rd_T71 l0 x42_3).f0) ≤ (wrap64 (x8_1 + 1))) = false := decide_eq_false c14
            clear c14
            have H' := Aside0.mk H
            clear H
            have p473 : 0 ≤ (x42_3 : Int) := of_decide_eq_true (zqD)
            have q473 : x42_3 < (l0.length : Int) := of_decide_eq_true (zqD)
            obtain ⟨ad473, e473, hx473_0, hx473_1⟩ := at_T71 HR0.out x42_3 p473 q473
            cases e473
            replace hx473_0 := (HB.out.cell (World.block_lt_of_cell? w _ hx473_0)).trans hx473_0
            replace hx473_1 := (HB.out.cell (World.block_lt_of_cell? w _ hx473_1)).trans hx473_1
            replace p473 := eq_true p473
            replace q473 := eq_true q473
            go_wp2_with (first | ((with_reducible refine gate_dst (N := 11) rfl ?_); refine box_event ?hg (N := 11) ?hd (cs := #[.int .i64 0, .int .i64 0]) (t := 71) ?hr ?_; (case hd => rfl); (case hg => rfl); (case hr => first | (go_simp; done) | (go_simp; rfl)); intro gb474 hg w20 hbox hb; have n0_ := Aside0.mk (Kd.R_below (zqC HO_7.out) hb); have n1_ := Aside0.mk (below_step (zqA HB.out) hb); have n2_ := Aside0.mk (hbox); have n3_ := Aside0.mk ((by rw [hg]; exact (below_size (zqA HB.out)) : w.heap.size ≤ gb474)); have n4_ := Aside0.mk ((by rw [hg]; exact (below_size (zqA HB.out)) : w.heap.size ≤ gb474)); clear HO_7; clear HB; have HO_7 := n0_; have HB := n1_; have BK474 := n2_; have GW474 := n3_; have GE474 := n4_; clear n0_ n1_ n2_ n3_ n4_; clear hb hbox hg; have hcz21_0 : w20.cell? ⟨gb474, 0, none⟩ = some (.int .i64 0) := (blk_cell BK474.out 0).trans rfl; have hcz21_1 : w20.cell? ⟨gb474, 1, none⟩ = some (.int .i64 0) := (blk_cell BK474.out 1).trans rfl; have hfz21_0 := blk_frozen BK474.out 0; have hfz21_1 := blk_frozen BK474.out 1))
            repeat (go_quiet (first | ((with_reducible refine gate_dst (N := 11) rfl ?_); refine box_event ?hg (N := 11) ?hd (cs := #[.int .i64 0, .int .i64 0]) (t := 71) ?hr ?_; (case hd => rfl); (case hg => rfl); (case hr => first | (go_simp; done) | (go_simp; rfl)); intro gb474 hg w20 hbox hb; have n0_ := Aside0.mk (Kd.R_below (zqC HO_7.out) hb); have n1_ := Aside0.mk (below_step (zqA HB.out) hb); have n2_ := Aside0.mk (hbox); have n3_ := Aside0.mk ((by rw [hg]; exact (below_size (zqA HB.out)) : w.heap.size ≤ gb474)); have n4_ := Aside0.mk ((by rw [hg]; exact (below_size (zqA HB.out)) : w.heap.size ≤ gb474)); clear HO_7; clear HB; have HO_7 := n0_; have HB := n1_; have BK474 := n2_; have GW474 := n3_; have GE474 := n4_; clear n0_ n1_ n2_ n3_ n4_; clear hb hbox hg; have hcz21_0 : w20.cell? ⟨gb474, 0, none⟩ = some (.int .i64 0) := (blk_cell BK474.out 0).trans rfl; have hcz21_1 : w20.cell? ⟨gb474, 1, none⟩ = some (.int .i64 0) := (blk_cell BK474.out 1).trans rfl; have hfz21_0 := blk_frozen BK474.out 0; have hfz21_1 := blk_frozen BK474.out 1)); try go_wp2_with (first | ((with_reducible refine gate_dst (N := 11) rfl ?_); refine box_event ?hg (N := 11) ?hd (cs := #[.int .i64 0, .int .i64 0]) (t := 71) ?hr ?_; (case hd => rfl); (case hg => rfl); (case hr => first | (go_simp; done) | (go_simp; rfl)); intro gb474 hg w20 hbox hb; have n0_ := Aside0.mk (Kd.R_below (zqC HO_7.out) hb); have n1_ := Aside0.mk (below_step (zqA HB.out) hb); have n2_ := Aside0.mk (hbox); have n3_ := Aside0.mk ((by rw [hg]; exact (below_size (zqA HB.out)) : w.heap.size ≤ gb474)); have n4_ := Aside0.mk ((by rw [hg]; exact (below_size (zqA HB.out)) : w.heap.size ≤ gb474)); clear HO_7; clear HB; have HO_7 := n0_; have HB := n1_; have BK474 := n2_; have GW474 := n3_; have GE474 := n4_; clear n0_ n1_ n2_ n3_ n4_; clear hb hbox hg; have hcz21_0 : w20.cell? ⟨gb474, 0, none⟩ = some (.int .i64 0) := (blk_cell BK474.out 0).trans rfl; have hcz21_1 : w20.cell? ⟨gb474, 1, none⟩ = some (.int .i64 0) := (blk_cell BK474.out 1).trans rfl; have hfz21_0 := blk_frozen BK474.out 0; have hfz21_1 := blk_frozen BK474.out 1)))
            go_roundg k3
            case measure => have := HK1.out; have := HJ4.out; have := HK3.out; omega
            case rel => exact ⟨(x9_3), (wrap64 (x42_3 + 1)), (by first | rfl | (simp; done) | (simp [*]; done)), (by first | rfl | (simp; done) | (simp [*]; done)), H', ⟨by have := HK1.out; have := HJ4.out; have := HK3.out; omega⟩, ⟨by (with_reducible repeat (first | apply Kd.R_alloc | apply Kd.R_drewN | apply Kd.R_drew)); exact Kd.R_mono (Kd.R_far (p := ⟨gb474, 1, none⟩) (Kd.R_far (p := ⟨gb474, 0, none⟩) (Kd.R_types HO_7.out BK474.out (by decide)) (fun _ hk => hk.2) (.int .i64 ((rd_T71 l0 x42_3).f0))) (fun _ hk => hk.2) (.int .i64 ((rd_T71 l0 x42_3).f1))) (fun _ hk => trivial)⟩, ⟨zqG HB.out GE474.out⟩⟩
          ·
           rw [if_neg c13] at H
           exact absurd H (by simp)
         ·
          rw [if_neg c12] at H
          exact absurd H (by simp)
        ·
         rw [if_neg c11] at H
         have c11b0 : decide (x42_3 < (l0.length : Int)) = false := decide_eq_false c11
         clear c11
         by_cases c22 : x7_1.length < 17592186044416
         ·
          rw [if_pos c22] at H
          have LMc22 := Aside0.mk c22
          clear c22
          obtain ⟨y476, hy476⟩ : ∃ y_ : List Int, y_ = (x7_1 ++ [x9_3]) := ⟨_, rfl⟩
          replace H : (pianolalaw04_capacity.l0 k3 l0 a1 l2 y476 (wrap64 (x8_1 + 1))) = some r := by first | (rw [hy476]; with_reducible exact H) | (have H2_ := (Option.bind_some _ _).symm.trans H; rw [hy476]; with_reducible exact H2_) | (have H2_ := (Option.bind_some _ _).symm.trans H; with_reducible exact H2_) | with_reducible exact H | (rw [hy476]; exact H) | exact H
          have Ny476 := Aside0.mk hy476
          clear hy476
          have H' := Aside0.mk H
          clear H
          go_wp2_with (first | ((with_reducible refine gate_builtin (b := .append) (xs := #[.tmp 66, .tmp 68]) rfl ?_); at_builtin; refine Kd.R_append (Kd.int .i64) (w0 := w) w.heap.size rfl (.tmp 66) (.tmp 68) 30 3 (.int .i64 0) 8 rfl Try.underlying30 info3 rfl (by decide) (by omega) u7 x7_1 x9_3 [.int .i64 x9_3] (fun _ => True) (fun _ => False) rfl rfl ?aP (fun _ hk => hk.elim) ?aF ?aO ?aB ?aS ?aL ?_; (case aP => exact rfl); (case aB => exact (zqA HB.out)); (case aF => exact (fun _ _ => trivial)); (case aO => exact (zqC HO_7.out)); (case aS => exact (below_size (zqA HB.out))); (case aL => have := LMc22.out; omega); intro v477 w23 ho hb hg hat; rw [← Ny476.out] at ho; have n0_ := Aside0.mk (hb); have n1_ := Aside0.mk (ho); clear HB; clear HO_7; have HB := n0_; have HO478 := n1_; clear n0_ n1_; clear ho hb hg hat))
          repeat (go_quiet (first | ((with_reducible refine gate_builtin (b := .append) (xs := #[.tmp 66, .tmp 68]) rfl ?_); at_builtin; refine Kd.R_append (Kd.int .i64) (w0 := w) w.heap.size rfl (.tmp 66) (.tmp 68) 30 3 (.int .i64 0) 8 rfl Try.underlying30 info3 rfl (by decide) (by omega) u7 x7_1 x9_3 [.int .i64 x9_3] (fun _ => True) (fun _ => False) rfl rfl ?aP (fun _ hk => hk.elim) ?aF ?aO ?aB ?aS ?aL ?_; (case aP => exact rfl); (case aB => exact (zqA HB.out)); (case aF => exact (fun _ _ => trivial)); (case aO => exact (zqC HO_7.out)); (case aS => exact (below_size (zqA HB.out))); (case aL => have := LMc22.out; omega); intro v477 w23 ho hb hg hat; rw [← Ny476.out] at ho; have n0_ := Aside0.mk (hb); have n1_ := Aside0.mk (ho); clear HB; clear HO_7; have HB := n0_; have HO478 := n1_; clear n0_ n1_; clear ho hb hg hat)); try go_wp2_with (first | ((with_reducible refine gate_builtin (b := .append) (xs := #[.tmp 66, .tmp 68]) rfl ?_); at_builtin; refine Kd.R_append (Kd.int .i64) (w0 := w) w.heap.size rfl (.tmp 66) (.tmp 68) 30 3 (.int .i64 0) 8 rfl Try.underlying30 info3 rfl (by decide) (by omega) u7 x7_1 x9_3 [.int .i64 x9_3] (fun _ => True) (fun _ => False) rfl rfl ?aP (fun _ hk => hk.elim) ?aF ?aO ?aB ?aS ?aL ?_; (case aP => exact rfl); (case aB => exact (zqA HB.out)); (case aF => exact (fun _ _ => trivial)); (case aO => exact (zqC HO_7.out)); (case aS => exact (below_size (zqA HB.out))); (case aL => have := LMc22.out; omega); intro v477 w23 ho hb hg hat; rw [← Ny476.out] at ho; have n0_ := Aside0.mk (hb); have n1_ := Aside0.mk (ho); clear HB; clear HO_7; have HB := n0_; have HO478 := n1_; clear n0_ n1_; clear ho hb hg hat)))
          go_roundg k3
          case measure => have := HK1.out; have := HJ4.out; have := HK3.out; omega
          case rel => exact ⟨(y476), (wrap64 (x8_1 + 1)), (by first | rfl | (simp; done) | (simp [*]; done)), H', ⟨by have := HK1.out; have := HJ4.out; have := HK3.out; omega⟩, ⟨zqC HO478.out⟩, ⟨zqA HB.out⟩⟩
         ·
          rw [if_neg c22] at H
          exact absurd H (by simp)
   ·
    rw [if_neg c4] at H
    have c4b0 : decide (x8_1 < a1) = false := decide_eq_false c4
    clear c4
    obtain rfl := Option.some.inj H
    go_wp2
    repeat (go_quiet (fail); try go_wp2)
    go_ret
    exact ⟨_, by first | rfl | (simp [errW_none, errW_some] <;> rfl) | (simp [*, errW_none, errW_some] <;> rfl), zqC HO_7.out, zqA HB.out⟩
end Go.Proofs.Ythoeindopljmkaa.P
end
