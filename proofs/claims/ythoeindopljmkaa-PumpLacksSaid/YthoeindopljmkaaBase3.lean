/- Words and contracts for a claim. -/
import Derived.Test.YthoeindopljmkaaBase2
import Derived.Test.YthoeindopljmkaaProg
section
namespace Go.Proofs.Ythoeindopljmkaa.P
open Go.RowKit Go.Proofs.YthoeindopljmkaaW.PrintWords Go.Proofs.YthoeindopljmkaaW.PrintLast Go.Proofs.YthoeindopljmkaaW.PrintMore
attribute [local go_sem] max2_int min2_int max_two min_two max_three min_three max_four min_four
set_option linter.unusedVariables false
set_option linter.unusedSimpArgs false
def errW : Option Int → Value
  | none => .nilIface
  | some c => .iface 0 (.int .i64 c)
theorem errW_none : errW none = .nilIface := rfl
theorem errW_some (c : Int) : errW (some c) = .iface 0 (.int .i64 c) := rfl
theorem info3 : (Try.prog.info? 3).map (fun i => (i.zero, i.size, i.bytes)) = some (some (.int .i64 0), 1, 8) := by kernel_rfl
theorem info22 : (Try.prog.info? 22).map (fun i => (i.zero, i.size, i.bytes)) = some (some (.slice none 0 0), 1, 24) := by kernel_rfl
theorem info30 : (Try.prog.info? 30).map (fun i => (i.zero, i.size, i.bytes)) = some (some (.slice none 0 0), 1, 24) := by kernel_rfl
structure S71 where
  f0 : Int
  f1 : Int
def z71 : S71 := ⟨(0 : Int), (0 : Int)⟩
def k71 : Kd S71 := Kd.iso (Kd.pair (Kd.int .i64) (Kd.int .i64)) (fun x : S71 => (x.f0, x.f1))
theorem k71_heap : Kd.Heap k71 := Kd.heap_iso _ (Kd.heap_pair (Kd.heap_int .i64) (Kd.heap_int .i64))
theorem k71_open {w : World} {x : S71} {cs : List Value} (h : k71.K w x cs) : cs = [.int .i64 x.f0, .int .i64 x.f1] := by
  obtain ⟨_, _, rfl, rfl, rfl⟩ := h
  exact rfl
theorem k71_mkM (w : World) (base : Nat) (ok : Nat → Prop) (x : S71)  : k71.M w base ok x [.int .i64 x.f0, .int .i64 x.f1] := ⟨[.int .i64 x.f0], [.int .i64 x.f1], rfl, rfl, rfl⟩
def rd_T71 (xs : List S71) (i : Int) : S71 := xs.getD i.toNat z71
theorem at_T71 {w : World} {A : Option Addr} {n : Nat} {xs : List S71} (h : Kd.C k71 w A n xs) (i : Int) (h0 : 0 ≤ i) (h1 : i < n) : ∃ ad , A = some ad ∧ w.cell? (ad.add (i.toNat * 2)) = some (.int .i64 (rd_T71 xs i).f0) ∧ w.cell? ⟨(ad.add (i.toNat * 2)).block, (ad.add (i.toNat * 2)).off + 1, none⟩ = some (.int .i64 (rd_T71 xs i).f1) := by
  obtain ⟨ad, c, e, _, hK, hc0⟩ := Kd.C_get h z71 i h0 h1
  have hc : ∀ j u, c[j]? = some u → w.cell? (ad.add (i.toNat * 2 + j)) = some u := hc0
  obtain rfl := k71_open hK
  exact ⟨ad, e, hc 0 _ rfl, by rw [← add_field _ _ 1 (by omega)]; exact hc 1 _ rfl⟩
def rd_L4 (xs : List (List S71)) (i : Int) : (List S71) := xs.getD i.toNat ([] : List S71)
theorem at_L4 {w : World} {A : Option Addr} {n : Nat} {xs : List (List S71)} (h : Kd.C (Kd.slice 71 k71) w A n xs) (i : Int) (h0 : 0 ≤ i) (h1 : i < n) : ∃ ad A0 c0, A = some ad ∧ w.cell? (ad.add i.toNat) = some (.slice A0 (rd_L4 xs i).length c0) ∧ (rd_L4 xs i).length ≤ c0 ∧ k71.C w A0 (rd_L4 xs i).length (rd_L4 xs i) := by
  obtain ⟨ad, c, e, _, hK, hc0⟩ := Kd.C_get h ([] : List S71) i h0 h1
  have hc : ∀ j u, c[j]? = some u → w.cell? (ad.add (i.toNat * 1 + j)) = some u := hc0
  obtain ⟨A0, c0, rfl, l0, g0⟩ := hK
  exact ⟨ad, A0, c0, e, by have hq := hc 0 _ rfl; rwa [Nat.mul_one, Nat.add_zero] at hq, l0, g0⟩
def rd_L6 (xs : List (List Int)) (i : Int) : (List Int) := xs.getD i.toNat ([] : List Int)
theorem at_L6 {w : World} {A : Option Addr} {n : Nat} {xs : List (List Int)} (h : Kd.C (Kd.slice 3 (Kd.int .i64)) w A n xs) (i : Int) (h0 : 0 ≤ i) (h1 : i < n) : ∃ ad A0 c0, A = some ad ∧ w.cell? (ad.add i.toNat) = some (.slice A0 (rd_L6 xs i).length c0) ∧ (rd_L6 xs i).length ≤ c0 ∧ (Kd.int .i64).C w A0 (rd_L6 xs i).length (rd_L6 xs i) := by
  obtain ⟨ad, c, e, _, hK, hc0⟩ := Kd.C_get h ([] : List Int) i h0 h1
  have hc : ∀ j u, c[j]? = some u → w.cell? (ad.add (i.toNat * 1 + j)) = some u := hc0
  obtain ⟨A0, c0, rfl, l0, g0⟩ := hK
  exact ⟨ad, A0, c0, e, by have hq := hc 0 _ rfl; rwa [Nat.mul_one, Nat.add_zero] at hq, l0, g0⟩
def rd_L7 (xs : List (List (List S71))) (i : Int) : (List (List S71)) := xs.getD i.toNat ([] : List (List S71))
theorem at_L7 {w : World} {A : Option Addr} {n : Nat} {xs : List (List (List S71))} (h : Kd.C (Kd.slice 22 (Kd.slice 71 k71)) w A n xs) (i : Int) (h0 : 0 ≤ i) (h1 : i < n) : ∃ ad A0 c0, A = some ad ∧ w.cell? (ad.add i.toNat) = some (.slice A0 (rd_L7 xs i).length c0) ∧ (rd_L7 xs i).length ≤ c0 ∧ (Kd.slice 71 k71).C w A0 (rd_L7 xs i).length (rd_L7 xs i) := by
  obtain ⟨ad, c, e, _, hK, hc0⟩ := Kd.C_get h ([] : List (List S71)) i h0 h1
  have hc : ∀ j u, c[j]? = some u → w.cell? (ad.add (i.toNat * 1 + j)) = some u := hc0
  obtain ⟨A0, c0, rfl, l0, g0⟩ := hK
  exact ⟨ad, A0, c0, e, by have hq := hc 0 _ rfl; rwa [Nat.mul_one, Nat.add_zero] at hq, l0, g0⟩
def rd_L9 (xs : List (List (List Int))) (i : Int) : (List (List Int)) := xs.getD i.toNat ([] : List (List Int))
theorem at_L9 {w : World} {A : Option Addr} {n : Nat} {xs : List (List (List Int))} (h : Kd.C (Kd.slice 30 (Kd.slice 3 (Kd.int .i64))) w A n xs) (i : Int) (h0 : 0 ≤ i) (h1 : i < n) : ∃ ad A0 c0, A = some ad ∧ w.cell? (ad.add i.toNat) = some (.slice A0 (rd_L9 xs i).length c0) ∧ (rd_L9 xs i).length ≤ c0 ∧ (Kd.slice 3 (Kd.int .i64)).C w A0 (rd_L9 xs i).length (rd_L9 xs i) := by
  obtain ⟨ad, c, e, _, hK, hc0⟩ := Kd.C_get h ([] : List (List Int)) i h0 h1
  have hc : ∀ j u, c[j]? = some u → w.cell? (ad.add (i.toNat * 1 + j)) = some u := hc0
  obtain ⟨A0, c0, rfl, l0, g0⟩ := hK
  exact ⟨ad, A0, c0, e, by have hq := hc 0 _ rfl; rwa [Nat.mul_one, Nat.add_zero] at hq, l0, g0⟩
structure S115 where
  f0 : (List S71)
  f1 : (List Int)
  f2 : (List Int)
def z115 : S115 := ⟨([] : List S71), ([] : List Int), ([] : List Int)⟩
def k115 : Kd S115 := Kd.iso (Kd.pair (Kd.slice 71 k71) (Kd.pair (Kd.slice 3 (Kd.int .i64)) (Kd.slice 3 (Kd.int .i64)))) (fun x : S115 => (x.f0, x.f1, x.f2))
theorem k115_open {w : World} {x : S115} {cs : List Value} (h : k115.K w x cs) : ∃ A0 c0 A1 c1 A2 c2, cs = [.slice A0 x.f0.length c0, .slice A1 x.f1.length c1, .slice A2 x.f2.length c2] ∧ x.f0.length ≤ c0 ∧ k71.C w A0 x.f0.length x.f0 ∧ x.f1.length ≤ c1 ∧ (Kd.int .i64).C w A1 x.f1.length x.f1 ∧ x.f2.length ≤ c2 ∧ (Kd.int .i64).C w A2 x.f2.length x.f2 := by
  obtain ⟨_, _, rfl, ⟨A0, c0, rfl, l0, g0⟩, ⟨_, _, rfl, ⟨A1, c1, rfl, l1, g1⟩, ⟨A2, c2, rfl, l2, g2⟩⟩⟩ := h
  exact ⟨A0, c0, A1, c1, A2, c2, rfl, l0, g0, l1, g1, l2, g2⟩
def rd_T115 (xs : List S115) (i : Int) : S115 := xs.getD i.toNat z115
theorem at_T115 {w : World} {A : Option Addr} {n : Nat} {xs : List S115} (h : Kd.C k115 w A n xs) (i : Int) (h0 : 0 ≤ i) (h1 : i < n) : ∃ ad A0 c0 A1 c1 A2 c2, A = some ad ∧ w.cell? (ad.add (i.toNat * 3)) = some (.slice A0 (rd_T115 xs i).f0.length c0) ∧ w.cell? ⟨(ad.add (i.toNat * 3)).block, (ad.add (i.toNat * 3)).off + 1, none⟩ = some (.slice A1 (rd_T115 xs i).f1.length c1) ∧ w.cell? ⟨(ad.add (i.toNat * 3)).block, (ad.add (i.toNat * 3)).off + 2, none⟩ = some (.slice A2 (rd_T115 xs i).f2.length c2) ∧ (rd_T115 xs i).f0.length ≤ c0 ∧ k71.C w A0 (rd_T115 xs i).f0.length (rd_T115 xs i).f0 ∧ (rd_T115 xs i).f1.length ≤ c1 ∧ (Kd.int .i64).C w A1 (rd_T115 xs i).f1.length (rd_T115 xs i).f1 ∧ (rd_T115 xs i).f2.length ≤ c2 ∧ (Kd.int .i64).C w A2 (rd_T115 xs i).f2.length (rd_T115 xs i).f2 := by
  obtain ⟨ad, c, e, _, hK, hc0⟩ := Kd.C_get h z115 i h0 h1
  have hc : ∀ j u, c[j]? = some u → w.cell? (ad.add (i.toNat * 3 + j)) = some u := hc0
  obtain ⟨A0, c0, A1, c1, A2, c2, rfl, l0, g0, l1, g1, l2, g2⟩ := k115_open hK
  exact ⟨ad, A0, c0, A1, c1, A2, c2, e, hc 0 _ rfl, by rw [← add_field _ _ 1 (by omega)]; exact hc 1 _ rfl, by rw [← add_field _ _ 2 (by omega)]; exact hc 2 _ rfl, l0, g0, l1, g1, l2, g2⟩
end Go.Proofs.Ythoeindopljmkaa.P
end
section
namespace Go.Proofs.Ythoeindopljmkaa.P
open Go.RowKit Go.Proofs.YthoeindopljmkaaW.PrintWords Go.Proofs.YthoeindopljmkaaW.PrintLast Go.Proofs.YthoeindopljmkaaW.PrintMore
attribute [local go_sem] max2_int min2_int max_two min_two max_three min_three max_four min_four
set_option linter.unusedVariables false
set_option linter.unusedSimpArgs false
def pump_between.f (a0 : Int) (a1 : Int) (a2 : Int) : Option (Bool) := if a0 ≤ a1 then (some (decide (a1 ≤ a2))) else (some false)
set_option maxHeartbeats 8000000 in
set_option maxRecDepth 100000 in
theorem pump_between.calls (a0 : Int) (a1 : Int) (a2 : Int) (r : Bool) (w : World) (h : pump_between.f a0 a1 a2 = some r) :
    Calls Try.prog 85 #[.int .i64 a0, .int .i64 a1, .int .i64 a2] w fun e w' => e = .returned (.bool r) ∧ Drawn0 w w' := by
  have H : (if a0 ≤ a1 then (some (decide (a1 ≤ a2))) else (some false)) = some r := h
  clear h
  by_cases c4 : a0 ≤ a1
  · rw [if_pos c4] at H
    have c4b0 : decide (a0 ≤ a1) = true := decide_eq_true c4
    clear c4
    obtain rfl := Option.some.inj H
    go_enter Try.func85, Try.ntmps85
    go_wp2
    go_ret
    exact ⟨by first | rfl | (simp; done) | (simp [*]; done), by repeat (first | exact Drawn0.refl _ | apply Drawn0.step)⟩
  · rw [if_neg c4] at H
    have c4b0 : decide (a0 ≤ a1) = false := decide_eq_false c4
    clear c4
    obtain rfl := Option.some.inj H
    go_enter Try.func85, Try.ntmps85
    go_wp2
    go_ret
    exact ⟨by first | rfl | (simp; done) | (simp [*]; done), by repeat (first | exact Drawn0.refl _ | apply Drawn0.step)⟩
def pump_Bound_good.f (a0_0 : Int) (a0_1 : Int) : Option (Bool) := (pump_between.f 1 a0_0 100).bind fun t706 => (if t706 = true then ((pump_between.f 0 a0_1 1000000).bind fun t707 => (some t707)) else (some false))
set_option maxHeartbeats 8000000 in
set_option maxRecDepth 100000 in
theorem pump_Bound_good.calls (a0_0 : Int) (a0_1 : Int) (r : Bool) (w : World) (h : pump_Bound_good.f a0_0 a0_1 = some r) :
  Calls Try.prog 60 #[.agg #[.int .i64 a0_0, .int .i64 a0_1]] w fun e w' => e = .returned (.bool r) ∧ Below w.heap.size w w' := by
 have hu71 := Try.underlying71
 have HB := zA (Below.refl w.heap.size w)
 have H : ((pump_between.f 1 a0_0 100).bind fun t706 => (if t706 = true then ((pump_between.f 0 a0_1 1000000).bind fun t707 => (some t707)) else (some false))) = some r := h
 clear h
 replace H := Option.bind_eq_some_iff.mp H
 obtain ⟨t706, A20, H⟩ := H
 replace H : (if t706 = true then ((pump_between.f 0 a0_1 1000000).bind fun t707 => (some t707)) else (some false)) = some r := H
 have A2 := zA A20
 clear A20
 by_cases c3 : t706 = true
 ·
  subst c3
  have H1 : ((pump_between.f 0 a0_1 1000000).bind fun t707 => (some t707)) = some r := by rw [if_pos rfl] at H; exact H
  clear H; have H := H1; clear H1
  replace H := Option.bind_eq_some_iff.mp H
  obtain ⟨t707, A40, H⟩ := H
  replace H : (some t707) = some r := H
  have A4 := zA A40
  clear A40
  obtain rfl := Option.some.inj H
  go_enter Try.func60, Try.ntmps60
  go_wp2_with (first | ((with_reducible refine gate_dst (N := 1) rfl ?_); refine box_event ?hg (N := 1) ?hd (cs := #[.int .i64 a0_0, .int .i64 a0_1]) (t := 71) ?hr ?_; (case hd => rfl); (case hg => rfl); (case hr => first | (go_simp; done) | (go_simp; rfl)); intro gb705 hg w5 hbox hb; have n0_ := zA (below_step (zqA HB.out) hb); have n1_ := zA (hbox); have n2_ := zA ((by rw [hg]; exact (below_size (zqA HB.out)) : w.heap.size ≤ gb705)); have n3_ := zA ((by rw [hg]; exact (below_size (zqA HB.out)) : w.heap.size ≤ gb705)); clear HB; have HB := n0_; have BK705 := n1_; have GW705 := n2_; have GE705 := n3_; clear n0_ n1_ n2_ n3_; clear hb hbox hg; have hcz6_0 : w5.cell? ⟨gb705, 0, none⟩ = some (.int .i64 a0_0) := (blk_cell BK705.out 0).trans rfl; have hcz6_1 : w5.cell? ⟨gb705, 1, none⟩ = some (.int .i64 a0_1) := (blk_cell BK705.out 1).trans rfl; have hfz6_0 := blk_frozen BK705.out 0; have hfz6_1 := blk_frozen BK705.out 1) | ((with_reducible refine gate_callee (f := 85) rfl ?_); refine goesL_ (some 5) rfl rfl Try.func85 (by kernel_rfl) rfl #[.int .i64 1, .int .i64 a0_0, .int .i64 100] rfl zqE ?_; (with_reducible refine (pump_between.calls 1 a0_0 100 true _ A2.out).mono ?_); rintro e w' ⟨rfl, ⟨nd, rfl⟩⟩; refine ⟨_, rfl, ?_⟩) | (go_at_call 85; (with_reducible refine (pump_between.calls 0 a0_1 1000000 t707 _ A4.out).mono ?_); rintro e w' ⟨rfl, ⟨nd, rfl⟩⟩))
  go_ret
  exact ⟨zqR, zqG HB.out GE705.out⟩
 ·
  replace c3 := Bool.eq_false_iff.mpr c3
  subst c3
  have H1 : (some false) = some r := by rw [if_neg (show ¬ (false = true) by decide)] at H; exact H
  clear H; have H := H1; clear H1
  obtain rfl := Option.some.inj H
  go_enter Try.func60, Try.ntmps60
  go_wp2_with (first | ((with_reducible refine gate_dst (N := 1) rfl ?_); refine box_event ?hg (N := 1) ?hd (cs := #[.int .i64 a0_0, .int .i64 a0_1]) (t := 71) ?hr ?_; (case hd => rfl); (case hg => rfl); (case hr => first | (go_simp; done) | (go_simp; rfl)); intro gb705 hg w7 hbox hb; have n0_ := zA (below_step (zqA HB.out) hb); have n1_ := zA (hbox); have n2_ := zA ((by rw [hg]; exact (below_size (zqA HB.out)) : w.heap.size ≤ gb705)); have n3_ := zA ((by rw [hg]; exact (below_size (zqA HB.out)) : w.heap.size ≤ gb705)); clear HB; have HB := n0_; have BK705 := n1_; have GW705 := n2_; have GE705 := n3_; clear n0_ n1_ n2_ n3_; clear hb hbox hg; have hcz8_0 : w7.cell? ⟨gb705, 0, none⟩ = some (.int .i64 a0_0) := (blk_cell BK705.out 0).trans rfl; have hcz8_1 : w7.cell? ⟨gb705, 1, none⟩ = some (.int .i64 a0_1) := (blk_cell BK705.out 1).trans rfl; have hfz8_0 := blk_frozen BK705.out 0; have hfz8_1 := blk_frozen BK705.out 1) | ((with_reducible refine gate_callee (f := 85) rfl ?_); refine goesL_ (some 5) rfl rfl Try.func85 (by kernel_rfl) rfl #[.int .i64 1, .int .i64 a0_0, .int .i64 100] rfl zqE ?_; (with_reducible refine (pump_between.calls 1 a0_0 100 false _ A2.out).mono ?_); rintro e w' ⟨rfl, ⟨nd, rfl⟩⟩; refine ⟨_, rfl, ?_⟩))
  go_ret
  exact ⟨zqR, zqG HB.out GE705.out⟩
def pump_total.l0 : Nat → Int → List Int → Int → Int → Option (Int)
  | 0, _, _, _, _ => none
  | k + 1, x3, x6, x7, x8 => if x8 < x7 then (if 0 ≤ x8 then (if x8 < (x6.length : Int) then (pump_total.l0 k (wrap64 (x3 + (rd x6 x8))) x6 x7 (wrap64 (x8 + 1))) else (none)) else (none)) else (some x3)
def pump_total.f (k : Nat) (l0 : List Int) : Option (Int) := pump_total.l0 k 0 l0 (l0.length : Int) 0
set_option maxHeartbeats 8000000 in
set_option maxRecDepth 100000 in
theorem pump_total.calls (k : Nat) (A0 : Option Addr) (c0 : Nat) (l0 : List Int) (r : Int) (w : World) (hr0 : Kd.C (Kd.int .i64) w A0 l0.length l0) (hc0 : l0.length ≤ c0) (h : pump_total.f k l0 = some r) :
  Calls Try.prog 79 #[.slice A0 l0.length c0] w fun e w' => e = .returned (.int .i64 r) ∧ Drawn0 w w' := by
 have HR0 := zA hr0
 have HC0 := zA hc0
 clear hr0 hc0
 have H : (pump_total.l0 k 0 l0 (l0.length : Int) 0) = some r := h
 clear h
 have H' := zA H
 clear H
 go_enter Try.func79, Try.ntmps79
 go_wp2
 go_loopg [3, 8] k (fun kq v3 v8 w' => ∃ (x3_1 : Int) (x8_1 : Int), v3 = .int .i64 x3_1 ∧ v8 = .int .i64 x8_1 ∧ Aside0 (pump_total.l0 kq x3_1 l0 (l0.length : Int) x8_1 = some r) ∧ Aside0 (kq ≤ k) ∧ Drawn0 w w')
 case atStart => exact ⟨(0), (0), zqQ, zqQ, H', ⟨Nat.le_refl _⟩, by repeat (first | exact Drawn0.refl _ | apply Drawn0.step)⟩
 case round =>
  clear H'
  obtain ⟨x3_1, x8_1, rfl, rfl, HA, HK1, ⟨m1, rfl⟩⟩ := hrel
  cases gk with
  | zero => exact absurd HA.out (by simp [pump_total.l0])
  | succ k1 =>
   have H := HA.out
   clear HA
   simp only [pump_total.l0] at H
   by_cases c2 : x8_1 < (l0.length : Int)
   ·
    rw [if_pos c2] at H
    have c2b0 : decide (x8_1 < (l0.length : Int)) = true := decide_eq_true c2
    clear c2
    by_cases c3 : 0 ≤ x8_1
    ·
     rw [if_pos c3] at H
     have c3b0 : decide (0 ≤ x8_1) = true := decide_eq_true c3
     clear c3
     by_cases c4 : x8_1 < (l0.length : Int)
     ·
      rw [if_pos c4] at H
      have c4b0 : decide (x8_1 < (l0.length : Int)) = true := decide_eq_true c4
      clear c4
      have H' := zA H
      clear H
      have p708 : 0 ≤ (x8_1 : Int) := of_decide_eq_true (zqD)
      have q708 : x8_1 < (l0.length : Int) := of_decide_eq_true (zqD)
      obtain ⟨ad708, e708, hx708_0⟩ := Kd.at_int HR0.out x8_1 p708 q708
      cases e708; replace p708 := eq_true p708; replace q708 := eq_true q708
      go_wp2
      go_roundg k1
      case measure => have := HK1.out; omega
      case rel => exact ⟨(wrap64 (x3_1 + (rd l0 x8_1))), (wrap64 (x8_1 + 1)), zqQ, zqQ, H', ⟨by have := HK1.out; omega⟩, by repeat (first | exact Drawn0.refl _ | apply Drawn0.step)⟩
     ·
      rw [if_neg c4] at H
      exact absurd H (by simp)
    ·
     rw [if_neg c3] at H
     exact absurd H (by simp)
   ·
    rw [if_neg c2] at H
    have c2b0 : decide (x8_1 < (l0.length : Int)) = false := decide_eq_false c2
    clear c2
    obtain rfl := Option.some.inj H
    go_wp2
    go_ret
    exact ⟨by first | rfl | (simp; done) | (simp [*]; done), by repeat (first | exact Drawn0.refl _ | apply Drawn0.step)⟩
def pump_bounds_most.l0 : Nat → Int → Int → Int → List (S71) → Int → Int → List Int → List Int → Option (Int × Int)
  | 0, _, _, _, _, _, _, _, _ => none
  | k + 1, x4, x5, x6, x13, x14, x15, x710000, x710001 => if x15 < x14 then (if 0 ≤ x15 then (if x15 < (x13.length : Int) then (if 0 ≤ (mx 0 (wrap64 (x6 - ((rd_T71 x13 x15).f0)))) then (if (mx 0 (wrap64 (x6 - ((rd_T71 x13 x15).f0)))) < (x710000.length : Int) then (if x15 = 0 then (pump_bounds_most.l0 k (wrap64 ((rd x710000 (mx 0 (wrap64 (x6 - ((rd_T71 x13 x15).f0))))) + ((rd_T71 x13 x15).f1))) x15 x6 x13 x14 (wrap64 (x15 + 1)) x710000 x710001) else (if (wrap64 ((rd x710000 (mx 0 (wrap64 (x6 - ((rd_T71 x13 x15).f0))))) + ((rd_T71 x13 x15).f1))) < x4 then (pump_bounds_most.l0 k (wrap64 ((rd x710000 (mx 0 (wrap64 (x6 - ((rd_T71 x13 x15).f0))))) + ((rd_T71 x13 x15).f1))) x15 x6 x13 x14 (wrap64 (x15 + 1)) x710000 x710001) else (pump_bounds_most.l0 k x4 x5 x6 x13 x14 (wrap64 (x15 + 1)) x710000 x710001))) else (none)) else (none)) else (none)) else (none)) else (some (x4, x5))
def pump_bounds_most.f (k : Nat) (l0 : List (S71)) (l1_0 : List Int) (l1_1 : List Int) : Option (Int × Int) := pump_bounds_most.l0 k 0 0 (l1_0.length : Int) l0 (l0.length : Int) 0 l1_0 l1_1
set_option maxHeartbeats 8000000 in
set_option maxRecDepth 100000 in
theorem pump_bounds_most.calls (k : Nat) (A0 : Option Addr) (c0 : Nat) (l0 : List (S71)) (A1_0 : Option Addr) (c1_0 : Nat) (l1_0 : List Int) (A1_1 : Option Addr) (c1_1 : Nat) (l1_1 : List Int) (r1 : Int) (r2 : Int) (w : World) (hr0 : Kd.C k71 w A0 l0.length l0) (hc0 : l0.length ≤ c0) (hr1_0 : Kd.C (Kd.int .i64) w A1_0 l1_0.length l1_0) (hc1_0 : l1_0.length ≤ c1_0) (hr1_1 : Kd.C (Kd.int .i64) w A1_1 l1_1.length l1_1) (hc1_1 : l1_1.length ≤ c1_1) (h : pump_bounds_most.f k l0 l1_0 l1_1 = some (r1, r2)) :
  Calls Try.prog 53 #[.slice A0 l0.length c0, .agg #[.slice A1_0 l1_0.length c1_0, .slice A1_1 l1_1.length c1_1]] w fun e w' => e = .returned (.tuple #[.int .i64 r1, .int .i64 r2]) ∧ Below w.heap.size w w' := by
 have hu107 := Try.underlying107
 have hu71 := Try.underlying71
 have HR0 := zA hr0
 have HC0 := zA hc0
 clear hr0 hc0
 have HR1_0 := zA hr1_0
 have HC1_0 := zA hc1_0
 clear hr1_0 hc1_0
 have HR1_1 := zA hr1_1
 have HC1_1 := zA hc1_1
 clear hr1_1 hc1_1
 have HB := zA (Below.refl w.heap.size w)
 have H : (pump_bounds_most.l0 k 0 0 (l1_0.length : Int) l0 (l0.length : Int) 0 l1_0 l1_1) = some (r1, r2) := h
 clear h
 have H' := zA H
 clear H
 go_enter Try.func53, Try.ntmps53
 go_wp2_with (first | ((with_reducible refine gate_dst (N := 3) rfl ?_); refine box_event ?hg (N := 3) ?hd (cs := #[.slice A1_0 l1_0.length c1_0, .slice A1_1 l1_1.length c1_1]) (t := 107) ?hr ?_; (case hd => rfl); (case hg => rfl); (case hr => first | (go_simp; done) | (go_simp; rfl)); intro gb709 hg w3 hbox hb; have n0_ := zA (below_step (zqA HB.out) hb); have n1_ := zA (hbox); have n2_ := zA ((by rw [hg]; exact (below_size (zqA HB.out)) : w.heap.size ≤ gb709)); have n3_ := zA ((by rw [hg]; exact (below_size (zqA HB.out)) : w.heap.size ≤ gb709)); clear HB; have HB := n0_; have BK709 := n1_; have GW709 := n2_; have GE709 := n3_; clear n0_ n1_ n2_ n3_; clear hb hbox hg; have hcz4_0 : w3.cell? ⟨gb709, 0, none⟩ = some (.slice A1_0 l1_0.length c1_0) := (blk_cell BK709.out 0).trans rfl; have hcz4_1 : w3.cell? ⟨gb709, 1, none⟩ = some (.slice A1_1 l1_1.length c1_1) := (blk_cell BK709.out 1).trans rfl; have hfz4_0 := blk_frozen BK709.out 0; have hfz4_1 := blk_frozen BK709.out 1))
 repeat (go_quiet (fail); try go_wp2)
 go_loopg [4, 5, 15] k (fun kq v4 v5 v15 w' => ∃ (x4_1 : Int) (x5_1 : Int) (x15_1 : Int), v4 = .int .i64 x4_1 ∧ v5 = .int .i64 x5_1 ∧ v15 = .int .i64 x15_1 ∧ Aside0 (pump_bounds_most.l0 kq x4_1 x5_1 (l1_0.length : Int) l0 (l0.length : Int) x15_1 l1_0 l1_1 = some (r1, r2)) ∧ Aside0 (kq ≤ k) ∧ Aside0 (w'.heap[gb709]? = some (.cells #[(.slice A1_0 l1_0.length c1_0), (.slice A1_1 l1_1.length c1_1)] 107 (0, 0))) ∧ Aside0 (Below w.heap.size w w'))
 case atStart => exact ⟨(0), (0), (0), zqQ, zqQ, zqQ, H', ⟨Nat.le_refl _⟩, ⟨zqB BK709.out⟩, ⟨zqG HB.out GE709.out⟩⟩
 case round =>
  clear H'
  try clear c1
  try clear p2
  try clear hcz4_0
  try clear hcz4_1
  try clear hfz4_0
  try clear hfz4_1
  obtain ⟨x4_1, x5_1, x15_1, rfl, rfl, rfl, HA, HK1, BK709, HB⟩ := hrel
  cases gk with
  | zero => exact absurd HA.out (by simp [pump_bounds_most.l0])
  | succ k1 =>
   have H := HA.out
   clear HA
   simp only [pump_bounds_most.l0] at H
   by_cases c5 : x15_1 < (l0.length : Int)
   ·
    rw [if_pos c5] at H
    have c5b0 : decide (x15_1 < (l0.length : Int)) = true := decide_eq_true c5
    clear c5
    by_cases c6 : 0 ≤ x15_1
    ·
     rw [if_pos c6] at H
     have c6b0 : decide (0 ≤ x15_1) = true := decide_eq_true c6
     clear c6
     by_cases c7 : x15_1 < (l0.length : Int)
     ·
      rw [if_pos c7] at H
      have c7b0 : decide (x15_1 < (l0.length : Int)) = true := decide_eq_true c7
      clear c7
      obtain ⟨ji8, hji8⟩ : ∃ j_ : Int, (mx 0 (wrap64 ((l1_0.length : Int) - ((rd_T71 l0 x15_1).f0)))) = j_ := ⟨_, rfl⟩
      replace H : (if 0 ≤ (ji8) then (if (ji8) < (l1_0.length : Int) then (if x15_1 = 0 then (pump_bounds_most.l0 k1 (wrap64 ((rd l1_0 (ji8)) + ((rd_T71 l0 x15_1).f1))) x15_1 (l1_0.length : Int) l0 (l0.length : Int) (wrap64 (x15_1 + 1)) l1_0 l1_1) else (if (wrap64 ((rd l1_0 (ji8)) + ((rd_T71 l0 x15_1).f1))) < x4_1 then (pump_bounds_most.l0 k1 (wrap64 ((rd l1_0 (ji8)) + ((rd_T71 l0 x15_1).f1))) x15_1 (l1_0.length : Int) l0 (l0.length : Int) (wrap64 (x15_1 + 1)) l1_0 l1_1) else (pump_bounds_most.l0 k1 x4_1 x5_1 (l1_0.length : Int) l0 (l0.length : Int) (wrap64 (x15_1 + 1)) l1_0 l1_1))) else (none)) else (none)) = some (r1, r2) := by first | (rw [hji8] at H; exact H) | (simp only [hji8] at H ⊢; exact H)
      have hji8_ : (if 0 < (wrap64 ((l1_0.length : Int) - ((rd_T71 l0 x15_1).f0))) then (wrap64 ((l1_0.length : Int) - ((rd_T71 l0 x15_1).f0))) else 0) = ji8 := hji8
      by_cases c9 : 0 ≤ (ji8)
      ·
       rw [if_pos c9] at H
       have c9b0 : decide (0 ≤ (ji8)) = true := decide_eq_true c9
       clear c9
       by_cases c10 : (ji8) < (l1_0.length : Int)
       ·
        rw [if_pos c10] at H
        have c10b0 : decide ((ji8) < (l1_0.length : Int)) = true := decide_eq_true c10
        clear c10
        by_cases c11 : x15_1 = 0
        ·
         rw [if_pos c11] at H
         have c11b0 : (x15_1 == 0) = true := beq_iff_eq.mpr c11
         have c11b1 : (x15_1 != 0) = false := bne_eq_false_iff_eq.mpr c11
         clear c11
         have H' := zA H
         clear H
         have p710 : 0 ≤ (x15_1 : Int) := of_decide_eq_true (zqD)
         have q710 : x15_1 < (l0.length : Int) := of_decide_eq_true (zqD)
         obtain ⟨ad710, e710, hx710_0, hx710_1⟩ := at_T71 HR0.out x15_1 p710 q710
         cases e710
         replace hx710_0 := (HB.out.cell (World.block_lt_of_cell? w _ hx710_0)).trans hx710_0
         replace hx710_1 := (HB.out.cell (World.block_lt_of_cell? w _ hx710_1)).trans hx710_1
         replace p710 := eq_true p710; replace q710 := eq_true q710
         go_wp2_with (first | ((with_reducible refine gate_dst (N := 8) rfl ?_); refine box_event ?hg (N := 8) ?hd (cs := #[.int .i64 0, .int .i64 0]) (t := 71) ?hr ?_; (case hd => rfl); (case hg => rfl); (case hr => first | (go_simp; done) | (go_simp; rfl)); intro gb711 hg w12 hbox hb; have n0_ := zA (blk_below (g := gb709) (o := .cells #[.slice A1_0 l1_0.length c1_0, .slice A1_1 l1_1.length c1_1] 107 (0, 0)) (zqB BK709.out) hb); have n1_ := zA (below_step (zqG HB.out GE709.out) hb); have n2_ := zA (hbox); have n3_ := zA ((by rw [hg]; exact (below_size (zqG HB.out GE709.out)) : w.heap.size ≤ gb711)); have n4_ := zA ((by rw [hg]; exact (below_size (zqG HB.out GE709.out)) : w.heap.size ≤ gb711)); have n5_ := zA ((by rw [hg]; exact Nat.ne_of_lt (blk_lt (g := gb709) (o := .cells #[.slice A1_0 l1_0.length c1_0, .slice A1_1 l1_1.length c1_1] 107 (0, 0)) (zqB BK709.out)) : gb709 ≠ gb711)); have n6_ := zA ((by rw [hg]; exact Nat.ne_of_gt (blk_lt (g := gb709) (o := .cells #[.slice A1_0 l1_0.length c1_0, .slice A1_1 l1_1.length c1_1] 107 (0, 0)) (zqB BK709.out)) : gb711 ≠ gb709)); clear BK709; clear HB; have BK709 := n0_; have HB := n1_; have BK711 := n2_; have GW711 := n3_; have GE711 := n4_; have NB709_711 := n5_; have NB711_709 := n6_; clear n0_ n1_ n2_ n3_ n4_ n5_ n6_; clear hb hbox hg; have hnb13 := NB711_709.out; have hnc13 := NB709_711.out; have hcz14_0 : w12.cell? ⟨gb711, 0, none⟩ = some (.int .i64 0) := (blk_cell BK711.out 0).trans rfl; have hcz14_1 : w12.cell? ⟨gb711, 1, none⟩ = some (.int .i64 0) := (blk_cell BK711.out 1).trans rfl; have hfz14_0 := blk_frozen BK711.out 0; have hfz14_1 := blk_frozen BK711.out 1; have hcz15_0 : w12.cell? ⟨gb709, 0, none⟩ = some (.slice A1_0 l1_0.length c1_0) := (blk_cell BK709.out 0).trans rfl; have hcz15_1 : w12.cell? ⟨gb709, 1, none⟩ = some (.slice A1_1 l1_1.length c1_1) := (blk_cell BK709.out 1).trans rfl; have hfz15_0 := blk_frozen BK709.out 0; have hfz15_1 := blk_frozen BK709.out 1; have p712 : 0 ≤ ((ji8) : Int) := of_decide_eq_true (zqD); have q712 : (ji8) < (l1_0.length : Int) := of_decide_eq_true (zqD); obtain ⟨ad712, e712, hx712_0⟩ := Kd.at_int HR1_0.out (ji8) p712 q712; cases e712; have hn712_0 : ad712.block ≠ gb711 := Nat.ne_of_lt (Nat.lt_of_lt_of_le (by have := World.block_lt_of_cell? _ _ hx712_0; first | rwa [add_block] at this | exact this) GW711.out); have hn712_1 : ad712.block ≠ gb711 := Nat.ne_of_lt (Nat.lt_of_lt_of_le (by have := World.block_lt_of_cell? _ _ hx712_0; first | rwa [add_block] at this | exact this) GW711.out); replace hx712_0 := (HB.out.cell (World.block_lt_of_cell? w _ hx712_0)).trans hx712_0; replace hx712_0 := (cell_far (p := ⟨gb711, 0, none⟩) (by first | (rw [add_block]; exact hn712_0) | (show (Addr.add _ _).block ≠ _; rw [add_block]; exact hn712_0) | exact hn712_0) (.int .i64 ((rd_T71 l0 x15_1).f0))).trans hx712_0; replace hx712_0 := (cell_far (p := ⟨gb711, 1, none⟩) (by first | (rw [add_block]; exact hn712_1) | (show (Addr.add _ _).block ≠ _; rw [add_block]; exact hn712_1) | exact hn712_1) (.int .i64 ((rd_T71 l0 x15_1).f1))).trans hx712_0; (try have hy712_0 := fun (n_ : Nat) => (show ((((w12.drewN n_).setCell ⟨gb711, 0, none⟩ (.int .i64 ((rd_T71 l0 x15_1).f0))).setCell ⟨gb711, 1, none⟩ (.int .i64 ((rd_T71 l0 x15_1).f1)))).cell? _ = some _ from hx712_0)); clear hn712_0; clear hn712_1; replace p712 := eq_true p712; replace q712 := eq_true q712))
         repeat (go_quiet (fail); try go_wp2)
         go_roundg k1
         case measure => have := HK1.out; omega
         case rel => exact ⟨(wrap64 ((rd l1_0 (ji8)) + ((rd_T71 l0 x15_1).f1))), (x15_1), (wrap64 (x15_1 + 1)), (by first | rfl | (simp; done) | (simp only [← hji8] <;> (first | rfl | simp)) | (simp [*]; done)), zqQ, zqQ, H', ⟨by have := HK1.out; omega⟩, ⟨by (with_reducible repeat (first | refine blk_drewN ?_ _ | refine blk_drew ?_ | refine blk_alloc ?_ _)); refine blk_far ?_ NB709_711.out _; (with_reducible repeat (first | refine blk_drewN ?_ _ | refine blk_drew ?_ | refine blk_alloc ?_ _)); refine blk_far ?_ NB709_711.out _; (with_reducible repeat (first | refine blk_drewN ?_ _ | refine blk_drew ?_ | refine blk_alloc ?_ _)); exact BK709.out⟩, ⟨zqH HB.out GE709.out GE711.out⟩⟩
        ·
         rw [if_neg c11] at H
         have c11b0 : (x15_1 == 0) = false := beq_eq_false_iff_ne.mpr c11
         have c11b1 : (x15_1 != 0) = true := bne_iff_ne.mpr c11
         by_cases c16 : (wrap64 ((rd l1_0 (ji8)) + ((rd_T71 l0 x15_1).f1))) < x4_1
         ·
          rw [if_pos c16] at H
          have c16b0 : decide ((wrap64 ((rd l1_0 (ji8)) + ((rd_T71 l0 x15_1).f1))) < x4_1) = true := decide_eq_true c16
          clear c16
          have H' := zA H
          clear H
          have p710 : 0 ≤ (x15_1 : Int) := of_decide_eq_true (zqD)
          have q710 : x15_1 < (l0.length : Int) := of_decide_eq_true (zqD)
          obtain ⟨ad710, e710, hx710_0, hx710_1⟩ := at_T71 HR0.out x15_1 p710 q710
          cases e710
          replace hx710_0 := (HB.out.cell (World.block_lt_of_cell? w _ hx710_0)).trans hx710_0
          replace hx710_1 := (HB.out.cell (World.block_lt_of_cell? w _ hx710_1)).trans hx710_1
          replace p710 := eq_true p710; replace q710 := eq_true q710
          go_wp2_with (first | ((with_reducible refine gate_dst (N := 8) rfl ?_); refine box_event ?hg (N := 8) ?hd (cs := #[.int .i64 0, .int .i64 0]) (t := 71) ?hr ?_; (case hd => rfl); (case hg => rfl); (case hr => first | (go_simp; done) | (go_simp; rfl)); intro gb711 hg w17 hbox hb; have n0_ := zA (blk_below (g := gb709) (o := .cells #[.slice A1_0 l1_0.length c1_0, .slice A1_1 l1_1.length c1_1] 107 (0, 0)) (zqB BK709.out) hb); have n1_ := zA (below_step (zqG HB.out GE709.out) hb); have n2_ := zA (hbox); have n3_ := zA ((by rw [hg]; exact (below_size (zqG HB.out GE709.out)) : w.heap.size ≤ gb711)); have n4_ := zA ((by rw [hg]; exact (below_size (zqG HB.out GE709.out)) : w.heap.size ≤ gb711)); have n5_ := zA ((by rw [hg]; exact Nat.ne_of_lt (blk_lt (g := gb709) (o := .cells #[.slice A1_0 l1_0.length c1_0, .slice A1_1 l1_1.length c1_1] 107 (0, 0)) (zqB BK709.out)) : gb709 ≠ gb711)); have n6_ := zA ((by rw [hg]; exact Nat.ne_of_gt (blk_lt (g := gb709) (o := .cells #[.slice A1_0 l1_0.length c1_0, .slice A1_1 l1_1.length c1_1] 107 (0, 0)) (zqB BK709.out)) : gb711 ≠ gb709)); clear BK709; clear HB; have BK709 := n0_; have HB := n1_; have BK711 := n2_; have GW711 := n3_; have GE711 := n4_; have NB709_711 := n5_; have NB711_709 := n6_; clear n0_ n1_ n2_ n3_ n4_ n5_ n6_; clear hb hbox hg; have hnb18 := NB711_709.out; have hnc18 := NB709_711.out; have hcz19_0 : w17.cell? ⟨gb711, 0, none⟩ = some (.int .i64 0) := (blk_cell BK711.out 0).trans rfl; have hcz19_1 : w17.cell? ⟨gb711, 1, none⟩ = some (.int .i64 0) := (blk_cell BK711.out 1).trans rfl; have hfz19_0 := blk_frozen BK711.out 0; have hfz19_1 := blk_frozen BK711.out 1; have hcz20_0 : w17.cell? ⟨gb709, 0, none⟩ = some (.slice A1_0 l1_0.length c1_0) := (blk_cell BK709.out 0).trans rfl; have hcz20_1 : w17.cell? ⟨gb709, 1, none⟩ = some (.slice A1_1 l1_1.length c1_1) := (blk_cell BK709.out 1).trans rfl; have hfz20_0 := blk_frozen BK709.out 0; have hfz20_1 := blk_frozen BK709.out 1; have p712 : 0 ≤ ((ji8) : Int) := of_decide_eq_true (zqD); have q712 : (ji8) < (l1_0.length : Int) := of_decide_eq_true (zqD); obtain ⟨ad712, e712, hx712_0⟩ := Kd.at_int HR1_0.out (ji8) p712 q712; cases e712; have hn712_0 : ad712.block ≠ gb711 := Nat.ne_of_lt (Nat.lt_of_lt_of_le (by have := World.block_lt_of_cell? _ _ hx712_0; first | rwa [add_block] at this | exact this) GW711.out); have hn712_1 : ad712.block ≠ gb711 := Nat.ne_of_lt (Nat.lt_of_lt_of_le (by have := World.block_lt_of_cell? _ _ hx712_0; first | rwa [add_block] at this | exact this) GW711.out); replace hx712_0 := (HB.out.cell (World.block_lt_of_cell? w _ hx712_0)).trans hx712_0; replace hx712_0 := (cell_far (p := ⟨gb711, 0, none⟩) (by first | (rw [add_block]; exact hn712_0) | (show (Addr.add _ _).block ≠ _; rw [add_block]; exact hn712_0) | exact hn712_0) (.int .i64 ((rd_T71 l0 x15_1).f0))).trans hx712_0; replace hx712_0 := (cell_far (p := ⟨gb711, 1, none⟩) (by first | (rw [add_block]; exact hn712_1) | (show (Addr.add _ _).block ≠ _; rw [add_block]; exact hn712_1) | exact hn712_1) (.int .i64 ((rd_T71 l0 x15_1).f1))).trans hx712_0; (try have hy712_0 := fun (n_ : Nat) => (show ((((w17.drewN n_).setCell ⟨gb711, 0, none⟩ (.int .i64 ((rd_T71 l0 x15_1).f0))).setCell ⟨gb711, 1, none⟩ (.int .i64 ((rd_T71 l0 x15_1).f1)))).cell? _ = some _ from hx712_0)); clear hn712_0; clear hn712_1; replace p712 := eq_true p712; replace q712 := eq_true q712))
          repeat (go_quiet (fail); try go_wp2)
          go_roundg k1
          case measure => have := HK1.out; omega
          case rel => exact ⟨(wrap64 ((rd l1_0 (ji8)) + ((rd_T71 l0 x15_1).f1))), (x15_1), (wrap64 (x15_1 + 1)), (by first | rfl | (simp; done) | (simp only [← hji8] <;> (first | rfl | simp)) | (simp [*]; done)), zqQ, zqQ, H', ⟨by have := HK1.out; omega⟩, ⟨by (with_reducible repeat (first | refine blk_drewN ?_ _ | refine blk_drew ?_ | refine blk_alloc ?_ _)); refine blk_far ?_ NB709_711.out _; (with_reducible repeat (first | refine blk_drewN ?_ _ | refine blk_drew ?_ | refine blk_alloc ?_ _)); refine blk_far ?_ NB709_711.out _; (with_reducible repeat (first | refine blk_drewN ?_ _ | refine blk_drew ?_ | refine blk_alloc ?_ _)); exact BK709.out⟩, ⟨zqH HB.out GE709.out GE711.out⟩⟩
         ·
          rw [if_neg c16] at H
          have c16b0 : decide ((wrap64 ((rd l1_0 (ji8)) + ((rd_T71 l0 x15_1).f1))) < x4_1) = false := decide_eq_false c16
          clear c16
          have H' := zA H
          clear H
          have p710 : 0 ≤ (x15_1 : Int) := of_decide_eq_true (zqD)
          have q710 : x15_1 < (l0.length : Int) := of_decide_eq_true (zqD)
          obtain ⟨ad710, e710, hx710_0, hx710_1⟩ := at_T71 HR0.out x15_1 p710 q710
          cases e710
          replace hx710_0 := (HB.out.cell (World.block_lt_of_cell? w _ hx710_0)).trans hx710_0
          replace hx710_1 := (HB.out.cell (World.block_lt_of_cell? w _ hx710_1)).trans hx710_1
          replace p710 := eq_true p710; replace q710 := eq_true q710
          go_wp2_with (first | ((with_reducible refine gate_dst (N := 8) rfl ?_); refine box_event ?hg (N := 8) ?hd (cs := #[.int .i64 0, .int .i64 0]) (t := 71) ?hr ?_; (case hd => rfl); (case hg => rfl); (case hr => first | (go_simp; done) | (go_simp; rfl)); intro gb711 hg w21 hbox hb; have n0_ := zA (blk_below (g := gb709) (o := .cells #[.slice A1_0 l1_0.length c1_0, .slice A1_1 l1_1.length c1_1] 107 (0, 0)) (zqB BK709.out) hb); have n1_ := zA (below_step (zqG HB.out GE709.out) hb); have n2_ := zA (hbox); have n3_ := zA ((by rw [hg]; exact (below_size (zqG HB.out GE709.out)) : w.heap.size ≤ gb711)); have n4_ := zA ((by rw [hg]; exact (below_size (zqG HB.out GE709.out)) : w.heap.size ≤ gb711)); have n5_ := zA ((by rw [hg]; exact Nat.ne_of_lt (blk_lt (g := gb709) (o := .cells #[.slice A1_0 l1_0.length c1_0, .slice A1_1 l1_1.length c1_1] 107 (0, 0)) (zqB BK709.out)) : gb709 ≠ gb711)); have n6_ := zA ((by rw [hg]; exact Nat.ne_of_gt (blk_lt (g := gb709) (o := .cells #[.slice A1_0 l1_0.length c1_0, .slice A1_1 l1_1.length c1_1] 107 (0, 0)) (zqB BK709.out)) : gb711 ≠ gb709)); clear BK709; clear HB; have BK709 := n0_; have HB := n1_; have BK711 := n2_; have GW711 := n3_; have GE711 := n4_; have NB709_711 := n5_; have NB711_709 := n6_; clear n0_ n1_ n2_ n3_ n4_ n5_ n6_; clear hb hbox hg; have hnb22 := NB711_709.out; have hnc22 := NB709_711.out; have hcz23_0 : w21.cell? ⟨gb711, 0, none⟩ = some (.int .i64 0) := (blk_cell BK711.out 0).trans rfl; have hcz23_1 : w21.cell? ⟨gb711, 1, none⟩ = some (.int .i64 0) := (blk_cell BK711.out 1).trans rfl; have hfz23_0 := blk_frozen BK711.out 0; have hfz23_1 := blk_frozen BK711.out 1; have hcz24_0 : w21.cell? ⟨gb709, 0, none⟩ = some (.slice A1_0 l1_0.length c1_0) := (blk_cell BK709.out 0).trans rfl; have hcz24_1 : w21.cell? ⟨gb709, 1, none⟩ = some (.slice A1_1 l1_1.length c1_1) := (blk_cell BK709.out 1).trans rfl; have hfz24_0 := blk_frozen BK709.out 0; have hfz24_1 := blk_frozen BK709.out 1; have p712 : 0 ≤ ((ji8) : Int) := of_decide_eq_true (zqD); have q712 : (ji8) < (l1_0.length : Int) := of_decide_eq_true (zqD); obtain ⟨ad712, e712, hx712_0⟩ := Kd.at_int HR1_0.out (ji8) p712 q712; cases e712; have hn712_0 : ad712.block ≠ gb711 := Nat.ne_of_lt (Nat.lt_of_lt_of_le (by have := World.block_lt_of_cell? _ _ hx712_0; first | rwa [add_block] at this | exact this) GW711.out); have hn712_1 : ad712.block ≠ gb711 := Nat.ne_of_lt (Nat.lt_of_lt_of_le (by have := World.block_lt_of_cell? _ _ hx712_0; first | rwa [add_block] at this | exact this) GW711.out); replace hx712_0 := (HB.out.cell (World.block_lt_of_cell? w _ hx712_0)).trans hx712_0; replace hx712_0 := (cell_far (p := ⟨gb711, 0, none⟩) (by first | (rw [add_block]; exact hn712_0) | (show (Addr.add _ _).block ≠ _; rw [add_block]; exact hn712_0) | exact hn712_0) (.int .i64 ((rd_T71 l0 x15_1).f0))).trans hx712_0; replace hx712_0 := (cell_far (p := ⟨gb711, 1, none⟩) (by first | (rw [add_block]; exact hn712_1) | (show (Addr.add _ _).block ≠ _; rw [add_block]; exact hn712_1) | exact hn712_1) (.int .i64 ((rd_T71 l0 x15_1).f1))).trans hx712_0; (try have hy712_0 := fun (n_ : Nat) => (show ((((w21.drewN n_).setCell ⟨gb711, 0, none⟩ (.int .i64 ((rd_T71 l0 x15_1).f0))).setCell ⟨gb711, 1, none⟩ (.int .i64 ((rd_T71 l0 x15_1).f1)))).cell? _ = some _ from hx712_0)); clear hn712_0; clear hn712_1; replace p712 := eq_true p712; replace q712 := eq_true q712))
          repeat (go_quiet (fail); try go_wp2)
          go_roundg k1
          case measure => have := HK1.out; omega
          case rel => exact ⟨(x4_1), (x5_1), (wrap64 (x15_1 + 1)), zqQ, zqQ, zqQ, H', ⟨by have := HK1.out; omega⟩, ⟨by (with_reducible repeat (first | refine blk_drewN ?_ _ | refine blk_drew ?_ | refine blk_alloc ?_ _)); refine blk_far ?_ NB709_711.out _; (with_reducible repeat (first | refine blk_drewN ?_ _ | refine blk_drew ?_ | refine blk_alloc ?_ _)); refine blk_far ?_ NB709_711.out _; (with_reducible repeat (first | refine blk_drewN ?_ _ | refine blk_drew ?_ | refine blk_alloc ?_ _)); exact BK709.out⟩, ⟨zqH HB.out GE709.out GE711.out⟩⟩
       ·
        rw [if_neg c10] at H
        exact absurd H (by simp)
      ·
       rw [if_neg c9] at H
       exact absurd H (by simp)
     ·
      rw [if_neg c7] at H
      exact absurd H (by simp)
    ·
     rw [if_neg c6] at H
     exact absurd H (by simp)
   ·
    rw [if_neg c5] at H
    have c5b0 : decide (x15_1 < (l0.length : Int)) = false := decide_eq_false c5
    clear c5
    simp only [Option.some.injEq, Prod.mk.injEq] at H
    obtain ⟨rfl, rfl⟩ := H
    go_wp2
    repeat (go_quiet (fail); try go_wp2)
    go_ret2
    exact ⟨zqR, zqG HB.out GE709.out⟩
def pump_bounds_least.l0 : Nat → Int → Int → Int → List (S71) → Int → Int → List Int → List Int → Option (Int × Int)
  | 0, _, _, _, _, _, _, _, _ => none
  | k + 1, x4, x5, x6, x18, x19, x20, x714000, x714001 => if x20 < x19 then (if 0 ≤ x20 then (if x20 < (x18.length : Int) then (if ((rd_T71 x18 x20).f0) ≤ x6 then (if 0 ≤ (wrap64 (x6 - ((rd_T71 x18 x20).f0))) then (if (wrap64 (x6 - ((rd_T71 x18 x20).f0))) < (x714000.length : Int) then (if (wrap64 ((rd x714000 (wrap64 (x6 - ((rd_T71 x18 x20).f0)))) + ((rd_T71 x18 x20).f1))) > x4 then (pump_bounds_least.l0 k (wrap64 ((rd x714000 (wrap64 (x6 - ((rd_T71 x18 x20).f0)))) + ((rd_T71 x18 x20).f1))) x20 x6 x18 x19 (wrap64 (x20 + 1)) x714000 x714001) else (pump_bounds_least.l0 k x4 x5 x6 x18 x19 (wrap64 (x20 + 1)) x714000 x714001)) else (none)) else (none)) else (pump_bounds_least.l0 k x4 x5 x6 x18 x19 (wrap64 (x20 + 1)) x714000 x714001)) else (none)) else (none)) else (some (x4, x5))
def pump_bounds_least.f (k : Nat) (l0 : List (S71)) (l1_0 : List Int) (l1_1 : List Int) : Option (Int × Int) := if 0 ≤ (wrap64 ((l1_0.length : Int) - 1)) then (if (wrap64 ((l1_0.length : Int) - 1)) < (l1_0.length : Int) then (pump_bounds_least.l0 k (rd l1_0 (wrap64 ((l1_0.length : Int) - 1))) (-1) (l1_0.length : Int) l0 (l0.length : Int) 0 l1_0 l1_1) else (none)) else (none)
set_option maxHeartbeats 8000000 in
set_option maxRecDepth 100000 in
theorem pump_bounds_least.calls (k : Nat) (A0 : Option Addr) (c0 : Nat) (l0 : List (S71)) (A1_0 : Option Addr) (c1_0 : Nat) (l1_0 : List Int) (A1_1 : Option Addr) (c1_1 : Nat) (l1_1 : List Int) (r1 : Int) (r2 : Int) (w : World) (hr0 : Kd.C k71 w A0 l0.length l0) (hc0 : l0.length ≤ c0) (hr1_0 : Kd.C (Kd.int .i64) w A1_0 l1_0.length l1_0) (hc1_0 : l1_0.length ≤ c1_0) (hr1_1 : Kd.C (Kd.int .i64) w A1_1 l1_1.length l1_1) (hc1_1 : l1_1.length ≤ c1_1) (h : pump_bounds_least.f k l0 l1_0 l1_1 = some (r1, r2)) :
  Calls Try.prog 56 #[.slice A0 l0.length c0, .agg #[.slice A1_0 l1_0.length c1_0, .slice A1_1 l1_1.length c1_1]] w fun e w' => e = .returned (.tuple #[.int .i64 r1, .int .i64 r2]) ∧ Below w.heap.size w w' := by
 have hu107 := Try.underlying107
 have hu71 := Try.underlying71
 have HR0 := zA hr0
 have HC0 := zA hc0
 clear hr0 hc0
 have HR1_0 := zA hr1_0
 have HC1_0 := zA hc1_0
 clear hr1_0 hc1_0
 have HR1_1 := zA hr1_1
 have HC1_1 := zA hc1_1
 clear hr1_1 hc1_1
 have HB := zA (Below.refl w.heap.size w)
 have H : (if 0 ≤ (wrap64 ((l1_0.length : Int) - 1)) then (if (wrap64 ((l1_0.length : Int) - 1)) < (l1_0.length : Int) then (pump_bounds_least.l0 k (rd l1_0 (wrap64 ((l1_0.length : Int) - 1))) (-1) (l1_0.length : Int) l0 (l0.length : Int) 0 l1_0 l1_1) else (none)) else (none)) = some (r1, r2) := h
 clear h
 obtain ⟨ji3, hji3⟩ : ∃ j_ : Int, (wrap64 ((l1_0.length : Int) - 1)) = j_ := ⟨_, rfl⟩
 replace H : (if 0 ≤ (ji3) then (if (ji3) < (l1_0.length : Int) then (pump_bounds_least.l0 k (rd l1_0 (ji3)) (-1) (l1_0.length : Int) l0 (l0.length : Int) 0 l1_0 l1_1) else (none)) else (none)) = some (r1, r2) := by first | (rw [hji3] at H; exact H) | (simp only [hji3] at H ⊢; exact H)
 have hji3w : (IntKind.i64.wrap ((l1_0.length : Int) - 1)) = ji3 := (i64_w _).trans hji3
 by_cases c4 : 0 ≤ (ji3)
 ·
  rw [if_pos c4] at H
  have c4b0 : decide (0 ≤ (ji3)) = true := decide_eq_true c4
  clear c4
  by_cases c5 : (ji3) < (l1_0.length : Int)
  ·
   rw [if_pos c5] at H
   have c5b0 : decide ((ji3) < (l1_0.length : Int)) = true := decide_eq_true c5
   clear c5
   have H' := zA H
   clear H
   go_enter Try.func56, Try.ntmps56
   go_wp2_with (first | ((with_reducible refine gate_dst (N := 3) rfl ?_); refine box_event ?hg (N := 3) ?hd (cs := #[.slice A1_0 l1_0.length c1_0, .slice A1_1 l1_1.length c1_1]) (t := 107) ?hr ?_; (case hd => rfl); (case hg => rfl); (case hr => first | (go_simp; done) | (go_simp; rfl)); intro gb713 hg w6 hbox hb; have n0_ := zA (below_step (zqA HB.out) hb); have n1_ := zA (hbox); have n2_ := zA ((by rw [hg]; exact (below_size (zqA HB.out)) : w.heap.size ≤ gb713)); have n3_ := zA ((by rw [hg]; exact (below_size (zqA HB.out)) : w.heap.size ≤ gb713)); clear HB; have HB := n0_; have BK713 := n1_; have GW713 := n2_; have GE713 := n3_; clear n0_ n1_ n2_ n3_; clear hb hbox hg; have hcz7_0 : w6.cell? ⟨gb713, 0, none⟩ = some (.slice A1_0 l1_0.length c1_0) := (blk_cell BK713.out 0).trans rfl; have hcz7_1 : w6.cell? ⟨gb713, 1, none⟩ = some (.slice A1_1 l1_1.length c1_1) := (blk_cell BK713.out 1).trans rfl; have hfz7_0 := blk_frozen BK713.out 0; have hfz7_1 := blk_frozen BK713.out 1; have p714 : 0 ≤ ((ji3) : Int) := of_decide_eq_true (zqD); have q714 : (ji3) < (l1_0.length : Int) := of_decide_eq_true (zqD); obtain ⟨ad714, e714, hx714_0⟩ := Kd.at_int HR1_0.out (ji3) p714 q714; cases e714; replace hx714_0 := (HB.out.cell (World.block_lt_of_cell? w _ hx714_0)).trans hx714_0; replace p714 := eq_true p714; replace q714 := eq_true q714))
   repeat (go_quiet (fail); try go_wp2)
   go_loopg [4, 5, 20] k (fun kq v4 v5 v20 w' => ∃ (x4_1 : Int) (x5_1 : Int) (x20_1 : Int), v4 = .int .i64 x4_1 ∧ v5 = .int .i64 x5_1 ∧ v20 = .int .i64 x20_1 ∧ Aside0 (pump_bounds_least.l0 kq x4_1 x5_1 (l1_0.length : Int) l0 (l0.length : Int) x20_1 l1_0 l1_1 = some (r1, r2)) ∧ Aside0 (kq ≤ k) ∧ Aside0 (w'.heap[gb713]? = some (.cells #[(.slice (some ad714) l1_0.length c1_0), (.slice A1_1 l1_1.length c1_1)] 107 (0, 0))) ∧ Aside0 (Below w.heap.size w w'))
   case atStart => exact ⟨(rd l1_0 (ji3)), ((-1)), (0), (by first | rfl | (simp; done) | (simp only [← hji3] <;> (first | rfl | simp)) | (simp [*]; done)), zqQ, zqQ, H', ⟨Nat.le_refl _⟩, ⟨zqB BK713.out⟩, ⟨zqG HB.out GE713.out⟩⟩
   case round =>
    clear H'
    try clear c1
    try clear p2
    try clear c4
    try clear c4b0
    try clear c5
    try clear c5b0
    try clear p6
    try clear p7
    try clear q7
    try clear hx7
    try clear hcz7_0
    try clear hcz7_1
    try clear hfz7_0
    try clear hfz7_1
    try clear hx714_0
    try clear p714
    try clear q714
    obtain ⟨x4_1, x5_1, x20_1, rfl, rfl, rfl, HA, HK1, BK713, HB⟩ := hrel
    cases gk with
    | zero => exact absurd HA.out (by simp [pump_bounds_least.l0])
    | succ k1 =>
     have H := HA.out
     clear HA
     simp only [pump_bounds_least.l0] at H
     by_cases c8 : x20_1 < (l0.length : Int)
     ·
      rw [if_pos c8] at H
      have c8b0 : decide (x20_1 < (l0.length : Int)) = true := decide_eq_true c8
      clear c8
      by_cases c9 : 0 ≤ x20_1
      ·
       rw [if_pos c9] at H
       have c9b0 : decide (0 ≤ x20_1) = true := decide_eq_true c9
       clear c9
       by_cases c10 : x20_1 < (l0.length : Int)
       ·
        rw [if_pos c10] at H
        have c10b0 : decide (x20_1 < (l0.length : Int)) = true := decide_eq_true c10
        clear c10
        by_cases c11 : ((rd_T71 l0 x20_1).f0) ≤ (l1_0.length : Int)
        ·
         rw [if_pos c11] at H
         have c11b0 : decide (((rd_T71 l0 x20_1).f0) ≤ (l1_0.length : Int)) = true := decide_eq_true c11
         clear c11
         obtain ⟨ji12, hji12⟩ : ∃ j_ : Int, (wrap64 ((l1_0.length : Int) - ((rd_T71 l0 x20_1).f0))) = j_ := ⟨_, rfl⟩
         replace H : (if 0 ≤ (ji12) then (if (ji12) < (l1_0.length : Int) then (if (wrap64 ((rd l1_0 (ji12)) + ((rd_T71 l0 x20_1).f1))) > x4_1 then (pump_bounds_least.l0 k1 (wrap64 ((rd l1_0 (ji12)) + ((rd_T71 l0 x20_1).f1))) x20_1 (l1_0.length : Int) l0 (l0.length : Int) (wrap64 (x20_1 + 1)) l1_0 l1_1) else (pump_bounds_least.l0 k1 x4_1 x5_1 (l1_0.length : Int) l0 (l0.length : Int) (wrap64 (x20_1 + 1)) l1_0 l1_1)) else (none)) else (none)) = some (r1, r2) := by first | (rw [hji12] at H; exact H) | (simp only [hji12] at H ⊢; exact H)
         have hji12w : (IntKind.i64.wrap ((l1_0.length : Int) - ((rd_T71 l0 x20_1).f0))) = ji12 := (i64_w _).trans hji12
         by_cases c13 : 0 ≤ (ji12)
         ·
          rw [if_pos c13] at H
          have c13b0 : decide (0 ≤ (ji12)) = true := decide_eq_true c13
          clear c13
          by_cases c14 : (ji12) < (l1_0.length : Int)
          ·
           rw [if_pos c14] at H
           have c14b0 : decide ((ji12) < (l1_0.length : Int)) = true := decide_eq_true c14
           clear c14
           by_cases c15 : (wrap64 ((rd l1_0 (ji12)) + ((rd_T71 l0 x20_1).f1))) > x4_1
           ·
            rw [if_pos c15] at H
            have c15b0 : decide (x4_1 < (wrap64 ((rd l1_0 (ji12)) + ((rd_T71 l0 x20_1).f1)))) = true := decide_eq_true c15
            clear c15
            have H' := zA H
            clear H
            have p715 : 0 ≤ (x20_1 : Int) := of_decide_eq_true (zqD)
            have q715 : x20_1 < (l0.length : Int) := of_decide_eq_true (zqD)
            obtain ⟨ad715, e715, hx715_0, hx715_1⟩ := at_T71 HR0.out x20_1 p715 q715
            cases e715
            replace hx715_0 := (HB.out.cell (World.block_lt_of_cell? w _ hx715_0)).trans hx715_0
            replace hx715_1 := (HB.out.cell (World.block_lt_of_cell? w _ hx715_1)).trans hx715_1
            replace p715 := eq_true p715; replace q715 := eq_true q715
            go_wp2_with (first | ((with_reducible refine gate_dst (N := 8) rfl ?_); refine box_event ?hg (N := 8) ?hd (cs := #[.int .i64 0, .int .i64 0]) (t := 71) ?hr ?_; (case hd => rfl); (case hg => rfl); (case hr => first | (go_simp; done) | (go_simp; rfl)); intro gb716 hg w16 hbox hb; have n0_ := zA (blk_below (g := gb713) (o := .cells #[.slice (some ad714) l1_0.length c1_0, .slice A1_1 l1_1.length c1_1] 107 (0, 0)) (zqB BK713.out) hb); have n1_ := zA (below_step (zqG HB.out GE713.out) hb); have n2_ := zA (hbox); have n3_ := zA ((by rw [hg]; exact (below_size (zqG HB.out GE713.out)) : w.heap.size ≤ gb716)); have n4_ := zA ((by rw [hg]; exact (below_size (zqG HB.out GE713.out)) : w.heap.size ≤ gb716)); have n5_ := zA ((by rw [hg]; exact Nat.ne_of_lt (blk_lt (g := gb713) (o := .cells #[.slice (some ad714) l1_0.length c1_0, .slice A1_1 l1_1.length c1_1] 107 (0, 0)) (zqB BK713.out)) : gb713 ≠ gb716)); have n6_ := zA ((by rw [hg]; exact Nat.ne_of_gt (blk_lt (g := gb713) (o := .cells #[.slice (some ad714) l1_0.length c1_0, .slice A1_1 l1_1.length c1_1] 107 (0, 0)) (zqB BK713.out)) : gb716 ≠ gb713)); clear BK713; clear HB; have BK713 := n0_; have HB := n1_; have BK716 := n2_; have GW716 := n3_; have GE716 := n4_; have NB713_716 := n5_; have NB716_713 := n6_; clear n0_ n1_ n2_ n3_ n4_ n5_ n6_; clear hb hbox hg; have hnb17 := NB716_713.out; have hnc17 := NB713_716.out; have hcz18_0 : w16.cell? ⟨gb716, 0, none⟩ = some (.int .i64 0) := (blk_cell BK716.out 0).trans rfl; have hcz18_1 : w16.cell? ⟨gb716, 1, none⟩ = some (.int .i64 0) := (blk_cell BK716.out 1).trans rfl; have hfz18_0 := blk_frozen BK716.out 0; have hfz18_1 := blk_frozen BK716.out 1; have hcz19_0 : w16.cell? ⟨gb713, 0, none⟩ = some (.slice (some ad714) l1_0.length c1_0) := (blk_cell BK713.out 0).trans rfl; have hcz19_1 : w16.cell? ⟨gb713, 1, none⟩ = some (.slice A1_1 l1_1.length c1_1) := (blk_cell BK713.out 1).trans rfl; have hfz19_0 := blk_frozen BK713.out 0; have hfz19_1 := blk_frozen BK713.out 1; have p717 : 0 ≤ ((ji12) : Int) := of_decide_eq_true (zqD); have q717 : (ji12) < (l1_0.length : Int) := of_decide_eq_true (zqD); obtain ⟨ad717, e717, hx717_0⟩ := Kd.at_int HR1_0.out (ji12) p717 q717; obtain rfl : ad714 = ad717 := (by injection e717); have hn717_0 : ad714.block ≠ gb716 := Nat.ne_of_lt (Nat.lt_of_lt_of_le (by have := World.block_lt_of_cell? _ _ hx717_0; first | rwa [add_block] at this | exact this) GW716.out); have hn717_1 : ad714.block ≠ gb716 := Nat.ne_of_lt (Nat.lt_of_lt_of_le (by have := World.block_lt_of_cell? _ _ hx717_0; first | rwa [add_block] at this | exact this) GW716.out); replace hx717_0 := (HB.out.cell (World.block_lt_of_cell? w _ hx717_0)).trans hx717_0; replace hx717_0 := (cell_far (p := ⟨gb716, 0, none⟩) (by first | (rw [add_block]; exact hn717_0) | (show (Addr.add _ _).block ≠ _; rw [add_block]; exact hn717_0) | exact hn717_0) (.int .i64 ((rd_T71 l0 x20_1).f0))).trans hx717_0; replace hx717_0 := (cell_far (p := ⟨gb716, 1, none⟩) (by first | (rw [add_block]; exact hn717_1) | (show (Addr.add _ _).block ≠ _; rw [add_block]; exact hn717_1) | exact hn717_1) (.int .i64 ((rd_T71 l0 x20_1).f1))).trans hx717_0; (try have hy717_0 := fun (n_ : Nat) => (show ((((w16.drewN n_).setCell ⟨gb716, 0, none⟩ (.int .i64 ((rd_T71 l0 x20_1).f0))).setCell ⟨gb716, 1, none⟩ (.int .i64 ((rd_T71 l0 x20_1).f1)))).cell? _ = some _ from hx717_0)); clear hn717_0; clear hn717_1; replace p717 := eq_true p717; replace q717 := eq_true q717; have p718 : 0 ≤ ((ji12) : Int) := of_decide_eq_true (zqD); have q718 : (ji12) < (l1_0.length : Int) := of_decide_eq_true (zqD); obtain ⟨ad718, e718, hx718_0⟩ := Kd.at_int HR1_0.out (ji12) p718 q718; obtain rfl : ad714 = ad718 := (by injection e718); have hn718_0 : ad714.block ≠ gb716 := Nat.ne_of_lt (Nat.lt_of_lt_of_le (by have := World.block_lt_of_cell? _ _ hx718_0; first | rwa [add_block] at this | exact this) GW716.out); have hn718_1 : ad714.block ≠ gb716 := Nat.ne_of_lt (Nat.lt_of_lt_of_le (by have := World.block_lt_of_cell? _ _ hx718_0; first | rwa [add_block] at this | exact this) GW716.out); replace hx718_0 := (HB.out.cell (World.block_lt_of_cell? w _ hx718_0)).trans hx718_0; replace hx718_0 := (cell_far (p := ⟨gb716, 0, none⟩) (by first | (rw [add_block]; exact hn718_0) | (show (Addr.add _ _).block ≠ _; rw [add_block]; exact hn718_0) | exact hn718_0) (.int .i64 ((rd_T71 l0 x20_1).f0))).trans hx718_0; replace hx718_0 := (cell_far (p := ⟨gb716, 1, none⟩) (by first | (rw [add_block]; exact hn718_1) | (show (Addr.add _ _).block ≠ _; rw [add_block]; exact hn718_1) | exact hn718_1) (.int .i64 ((rd_T71 l0 x20_1).f1))).trans hx718_0; (try have hy718_0 := fun (n_ : Nat) => (show ((((w16.drewN n_).setCell ⟨gb716, 0, none⟩ (.int .i64 ((rd_T71 l0 x20_1).f0))).setCell ⟨gb716, 1, none⟩ (.int .i64 ((rd_T71 l0 x20_1).f1)))).cell? _ = some _ from hx718_0)); clear hn718_0; clear hn718_1; replace p718 := eq_true p718; replace q718 := eq_true q718))
            repeat (go_quiet (fail); try go_wp2)
            go_roundg k1
            case measure => have := HK1.out; omega
            case rel => exact ⟨(wrap64 ((rd l1_0 (ji12)) + ((rd_T71 l0 x20_1).f1))), (x20_1), (wrap64 (x20_1 + 1)), (by first | rfl | (simp; done) | (simp only [← hji12] <;> (first | rfl | simp)) | (simp [*]; done)), zqQ, zqQ, H', ⟨by have := HK1.out; omega⟩, ⟨by (with_reducible repeat (first | refine blk_drewN ?_ _ | refine blk_drew ?_ | refine blk_alloc ?_ _)); refine blk_far ?_ NB713_716.out _; (with_reducible repeat (first | refine blk_drewN ?_ _ | refine blk_drew ?_ | refine blk_alloc ?_ _)); refine blk_far ?_ NB713_716.out _; (with_reducible repeat (first | refine blk_drewN ?_ _ | refine blk_drew ?_ | refine blk_alloc ?_ _)); exact BK713.out⟩, ⟨zqH HB.out GE713.out GE716.out⟩⟩
           ·
            rw [if_neg c15] at H
            have c15b0 : decide (x4_1 < (wrap64 ((rd l1_0 (ji12)) + ((rd_T71 l0 x20_1).f1)))) = false := decide_eq_false c15
            clear c15
            have H' := zA H
            clear H
            have p715 : 0 ≤ (x20_1 : Int) := of_decide_eq_true (zqD)
            have q715 : x20_1 < (l0.length : Int) := of_decide_eq_true (zqD)
            obtain ⟨ad715, e715, hx715_0, hx715_1⟩ := at_T71 HR0.out x20_1 p715 q715
            cases e715
            replace hx715_0 := (HB.out.cell (World.block_lt_of_cell? w _ hx715_0)).trans hx715_0
            replace hx715_1 := (HB.out.cell (World.block_lt_of_cell? w _ hx715_1)).trans hx715_1
            replace p715 := eq_true p715; replace q715 := eq_true q715
            go_wp2_with (first | ((with_reducible refine gate_dst (N := 8) rfl ?_); refine box_event ?hg (N := 8) ?hd (cs := #[.int .i64 0, .int .i64 0]) (t := 71) ?hr ?_; (case hd => rfl); (case hg => rfl); (case hr => first | (go_simp; done) | (go_simp; rfl)); intro gb716 hg w20 hbox hb; have n0_ := zA (blk_below (g := gb713) (o := .cells #[.slice (some ad714) l1_0.length c1_0, .slice A1_1 l1_1.length c1_1] 107 (0, 0)) (zqB BK713.out) hb); have n1_ := zA (below_step (zqG HB.out GE713.out) hb); have n2_ := zA (hbox); have n3_ := zA ((by rw [hg]; exact (below_size (zqG HB.out GE713.out)) : w.heap.size ≤ gb716)); have n4_ := zA ((by rw [hg]; exact (below_size (zqG HB.out GE713.out)) : w.heap.size ≤ gb716)); have n5_ := zA ((by rw [hg]; exact Nat.ne_of_lt (blk_lt (g := gb713) (o := .cells #[.slice (some ad714) l1_0.length c1_0, .slice A1_1 l1_1.length c1_1] 107 (0, 0)) (zqB BK713.out)) : gb713 ≠ gb716)); have n6_ := zA ((by rw [hg]; exact Nat.ne_of_gt (blk_lt (g := gb713) (o := .cells #[.slice (some ad714) l1_0.length c1_0, .slice A1_1 l1_1.length c1_1] 107 (0, 0)) (zqB BK713.out)) : gb716 ≠ gb713)); clear BK713; clear HB; have BK713 := n0_; have HB := n1_; have BK716 := n2_; have GW716 := n3_; have GE716 := n4_; have NB713_716 := n5_; have NB716_713 := n6_; clear n0_ n1_ n2_ n3_ n4_ n5_ n6_; clear hb hbox hg; have hnb21 := NB716_713.out; have hnc21 := NB713_716.out; have hcz22_0 : w20.cell? ⟨gb716, 0, none⟩ = some (.int .i64 0) := (blk_cell BK716.out 0).trans rfl; have hcz22_1 : w20.cell? ⟨gb716, 1, none⟩ = some (.int .i64 0) := (blk_cell BK716.out 1).trans rfl; have hfz22_0 := blk_frozen BK716.out 0; have hfz22_1 := blk_frozen BK716.out 1; have hcz23_0 : w20.cell? ⟨gb713, 0, none⟩ = some (.slice (some ad714) l1_0.length c1_0) := (blk_cell BK713.out 0).trans rfl; have hcz23_1 : w20.cell? ⟨gb713, 1, none⟩ = some (.slice A1_1 l1_1.length c1_1) := (blk_cell BK713.out 1).trans rfl; have hfz23_0 := blk_frozen BK713.out 0; have hfz23_1 := blk_frozen BK713.out 1; have p717 : 0 ≤ ((ji12) : Int) := of_decide_eq_true (zqD); have q717 : (ji12) < (l1_0.length : Int) := of_decide_eq_true (zqD); obtain ⟨ad717, e717, hx717_0⟩ := Kd.at_int HR1_0.out (ji12) p717 q717; obtain rfl : ad714 = ad717 := (by injection e717); have hn717_0 : ad714.block ≠ gb716 := Nat.ne_of_lt (Nat.lt_of_lt_of_le (by have := World.block_lt_of_cell? _ _ hx717_0; first | rwa [add_block] at this | exact this) GW716.out); have hn717_1 : ad714.block ≠ gb716 := Nat.ne_of_lt (Nat.lt_of_lt_of_le (by have := World.block_lt_of_cell? _ _ hx717_0; first | rwa [add_block] at this | exact this) GW716.out); replace hx717_0 := (HB.out.cell (World.block_lt_of_cell? w _ hx717_0)).trans hx717_0; replace hx717_0 := (cell_far (p := ⟨gb716, 0, none⟩) (by first | (rw [add_block]; exact hn717_0) | (show (Addr.add _ _).block ≠ _; rw [add_block]; exact hn717_0) | exact hn717_0) (.int .i64 ((rd_T71 l0 x20_1).f0))).trans hx717_0; replace hx717_0 := (cell_far (p := ⟨gb716, 1, none⟩) (by first | (rw [add_block]; exact hn717_1) | (show (Addr.add _ _).block ≠ _; rw [add_block]; exact hn717_1) | exact hn717_1) (.int .i64 ((rd_T71 l0 x20_1).f1))).trans hx717_0; (try have hy717_0 := fun (n_ : Nat) => (show ((((w20.drewN n_).setCell ⟨gb716, 0, none⟩ (.int .i64 ((rd_T71 l0 x20_1).f0))).setCell ⟨gb716, 1, none⟩ (.int .i64 ((rd_T71 l0 x20_1).f1)))).cell? _ = some _ from hx717_0)); clear hn717_0; clear hn717_1; replace p717 := eq_true p717; replace q717 := eq_true q717))
            repeat (go_quiet (fail); try go_wp2)
            go_roundg k1
            case measure => have := HK1.out; omega
            case rel => exact ⟨(x4_1), (x5_1), (wrap64 (x20_1 + 1)), zqQ, zqQ, zqQ, H', ⟨by have := HK1.out; omega⟩, ⟨by (with_reducible repeat (first | refine blk_drewN ?_ _ | refine blk_drew ?_ | refine blk_alloc ?_ _)); refine blk_far ?_ NB713_716.out _; (with_reducible repeat (first | refine blk_drewN ?_ _ | refine blk_drew ?_ | refine blk_alloc ?_ _)); refine blk_far ?_ NB713_716.out _; (with_reducible repeat (first | refine blk_drewN ?_ _ | refine blk_drew ?_ | refine blk_alloc ?_ _)); exact BK713.out⟩, ⟨zqH HB.out GE713.out GE716.out⟩⟩
          ·
           rw [if_neg c14] at H
           exact absurd H (by simp)
         ·
          rw [if_neg c13] at H
          exact absurd H (by simp)
        ·
         rw [if_neg c11] at H
         have c11b0 : decide (((rd_T71 l0 x20_1).f0) ≤ (l1_0.length : Int)) = false := decide_eq_false c11
         clear c11
         have H' := zA H
         clear H
         have p715 : 0 ≤ (x20_1 : Int) := of_decide_eq_true (zqD)
         have q715 : x20_1 < (l0.length : Int) := of_decide_eq_true (zqD)
         obtain ⟨ad715, e715, hx715_0, hx715_1⟩ := at_T71 HR0.out x20_1 p715 q715
         cases e715
         replace hx715_0 := (HB.out.cell (World.block_lt_of_cell? w _ hx715_0)).trans hx715_0
         replace hx715_1 := (HB.out.cell (World.block_lt_of_cell? w _ hx715_1)).trans hx715_1
         replace p715 := eq_true p715; replace q715 := eq_true q715
         go_wp2_with (first | ((with_reducible refine gate_dst (N := 8) rfl ?_); refine box_event ?hg (N := 8) ?hd (cs := #[.int .i64 0, .int .i64 0]) (t := 71) ?hr ?_; (case hd => rfl); (case hg => rfl); (case hr => first | (go_simp; done) | (go_simp; rfl)); intro gb716 hg w24 hbox hb; have n0_ := zA (blk_below (g := gb713) (o := .cells #[.slice (some ad714) l1_0.length c1_0, .slice A1_1 l1_1.length c1_1] 107 (0, 0)) (zqB BK713.out) hb); have n1_ := zA (below_step (zqG HB.out GE713.out) hb); have n2_ := zA (hbox); have n3_ := zA ((by rw [hg]; exact (below_size (zqG HB.out GE713.out)) : w.heap.size ≤ gb716)); have n4_ := zA ((by rw [hg]; exact (below_size (zqG HB.out GE713.out)) : w.heap.size ≤ gb716)); have n5_ := zA ((by rw [hg]; exact Nat.ne_of_lt (blk_lt (g := gb713) (o := .cells #[.slice (some ad714) l1_0.length c1_0, .slice A1_1 l1_1.length c1_1] 107 (0, 0)) (zqB BK713.out)) : gb713 ≠ gb716)); have n6_ := zA ((by rw [hg]; exact Nat.ne_of_gt (blk_lt (g := gb713) (o := .cells #[.slice (some ad714) l1_0.length c1_0, .slice A1_1 l1_1.length c1_1] 107 (0, 0)) (zqB BK713.out)) : gb716 ≠ gb713)); clear BK713; clear HB; have BK713 := n0_; have HB := n1_; have BK716 := n2_; have GW716 := n3_; have GE716 := n4_; have NB713_716 := n5_; have NB716_713 := n6_; clear n0_ n1_ n2_ n3_ n4_ n5_ n6_; clear hb hbox hg; have hnb25 := NB716_713.out; have hnc25 := NB713_716.out; have hcz26_0 : w24.cell? ⟨gb716, 0, none⟩ = some (.int .i64 0) := (blk_cell BK716.out 0).trans rfl; have hcz26_1 : w24.cell? ⟨gb716, 1, none⟩ = some (.int .i64 0) := (blk_cell BK716.out 1).trans rfl; have hfz26_0 := blk_frozen BK716.out 0; have hfz26_1 := blk_frozen BK716.out 1))
         repeat (go_quiet (fail); try go_wp2)
         go_roundg k1
         case measure => have := HK1.out; omega
         case rel => exact ⟨(x4_1), (x5_1), (wrap64 (x20_1 + 1)), zqQ, zqQ, zqQ, H', ⟨by have := HK1.out; omega⟩, ⟨by (with_reducible repeat (first | refine blk_drewN ?_ _ | refine blk_drew ?_ | refine blk_alloc ?_ _)); refine blk_far ?_ NB713_716.out _; (with_reducible repeat (first | refine blk_drewN ?_ _ | refine blk_drew ?_ | refine blk_alloc ?_ _)); refine blk_far ?_ NB713_716.out _; (with_reducible repeat (first | refine blk_drewN ?_ _ | refine blk_drew ?_ | refine blk_alloc ?_ _)); exact BK713.out⟩, ⟨zqH HB.out GE713.out GE716.out⟩⟩
       ·
        rw [if_neg c10] at H
        exact absurd H (by simp)
      ·
       rw [if_neg c9] at H
       exact absurd H (by simp)
     ·
      rw [if_neg c8] at H
      have c8b0 : decide (x20_1 < (l0.length : Int)) = false := decide_eq_false c8
      clear c8
      simp only [Option.some.injEq, Prod.mk.injEq] at H
      obtain ⟨rfl, rfl⟩ := H
      go_wp2
      repeat (go_quiet (fail); try go_wp2)
      go_ret2
      exact ⟨by first | rfl | (simp [errW_none, errW_some] <;> rfl) | (simp only [← hji3]; first | rfl | (simp [errW_none, errW_some] <;> rfl)) | (simp [*, errW_none, errW_some] <;> rfl), zqG HB.out GE713.out⟩
  ·
   rw [if_neg c5] at H
   exact absurd H (by simp)
 ·
  rw [if_neg c4] at H
  exact absurd H (by simp)
end Go.Proofs.Ythoeindopljmkaa.P
end
section
namespace Go.Proofs.Ythoeindopljmkaa.P
open Go.RowKit Go.Proofs.YthoeindopljmkaaW.PrintWords Go.Proofs.YthoeindopljmkaaW.PrintLast Go.Proofs.YthoeindopljmkaaW.PrintMore
attribute [local go_sem] max2_int min2_int max_two min_two max_three min_three max_four min_four
set_option linter.unusedVariables false
set_option linter.unusedSimpArgs false
def pianolalaw04_numbers.l0 : Nat → List Int → List Int → Int → Option (Bool)
  | 0, _, _, _ => none
  | k + 1, x0, x1, x5 => if x5 < (x0.length : Int) then (if 0 ≤ x5 then (if x5 < (x1.length : Int) then (if (rd x0 x5) = (rd x1 x5) then (pianolalaw04_numbers.l0 k x0 x1 (wrap64 (x5 + 1))) else (some false)) else (none)) else (none)) else (some true)
def pianolalaw04_numbers.f (k : Nat) (l0 : List Int) (l1 : List Int) : Option (Bool) := if (l0.length : Int) = (l1.length : Int) then (pianolalaw04_numbers.l0 k l0 l1 0) else (some false)
set_option maxHeartbeats 8000000 in
set_option maxRecDepth 100000 in
theorem pianolalaw04_numbers.calls (k : Nat) (A0 : Option Addr) (c0 : Nat) (l0 : List Int) (A1 : Option Addr) (c1 : Nat) (l1 : List Int) (r : Bool) (w : World) (hr0 : Kd.C (Kd.int .i64) w A0 l0.length l0) (hc0 : l0.length ≤ c0) (hr1 : Kd.C (Kd.int .i64) w A1 l1.length l1) (hc1 : l1.length ≤ c1) (h : pianolalaw04_numbers.f k l0 l1 = some r) :
  Calls Try.prog 39 #[.slice A0 l0.length c0, .slice A1 l1.length c1] w fun e w' => e = .returned (.bool r) ∧ Drawn0 w w' := by
 have HR0 := zA hr0
 have HC0 := zA hc0
 clear hr0 hc0
 have HR1 := zA hr1
 have HC1 := zA hc1
 clear hr1 hc1
 have H : (if (l0.length : Int) = (l1.length : Int) then (pianolalaw04_numbers.l0 k l0 l1 0) else (some false)) = some r := h
 clear h
 by_cases c3 : (l0.length : Int) = (l1.length : Int)
 ·
  rw [if_pos c3] at H
  have c3b0 : ((l0.length : Int) == (l1.length : Int)) = true := beq_iff_eq.mpr c3
  have c3b1 : ((l0.length : Int) != (l1.length : Int)) = false := bne_eq_false_iff_eq.mpr c3
  have c3b2 : (l0.length == l1.length) = true := by first | simpa using c3 | (simp at c3 ⊢; omega)
  clear c3
  have H' := zA H
  clear H
  go_enter Try.func39, Try.ntmps39
  go_wp2
  repeat (go_quiet (fail); try go_wp2)
  go_loopg [5] k (fun kq v5 w' => ∃ (x5_1 : Int), v5 = .int .i64 x5_1 ∧ Aside0 (pianolalaw04_numbers.l0 kq l0 l1 x5_1 = some r) ∧ Aside0 (kq ≤ k) ∧ Drawn0 w w')
  case atStart => exact ⟨(0), zqQ, H', ⟨Nat.le_refl _⟩, by repeat (first | exact Drawn0.refl _ | apply Drawn0.step)⟩
  case round =>
   clear H'
   try clear c1
   try clear p2
   try clear c3
   try clear c3b0
   try clear c3b1
   try clear c3b2
   obtain ⟨x5_1, rfl, HA, HK1, ⟨m1, rfl⟩⟩ := hrel
   cases gk with
   | zero => exact absurd HA.out (by simp [pianolalaw04_numbers.l0])
   | succ k1 =>
    have H := HA.out
    clear HA
    simp only [pianolalaw04_numbers.l0] at H
    by_cases c4 : x5_1 < (l0.length : Int)
    ·
     rw [if_pos c4] at H
     have c4b0 : decide (x5_1 < (l0.length : Int)) = true := decide_eq_true c4
     clear c4
     by_cases c5 : 0 ≤ x5_1
     ·
      rw [if_pos c5] at H
      have c5b0 : decide (0 ≤ x5_1) = true := decide_eq_true c5
      clear c5
      by_cases c6 : x5_1 < (l1.length : Int)
      ·
       rw [if_pos c6] at H
       have c6b0 : decide (x5_1 < (l1.length : Int)) = true := decide_eq_true c6
       clear c6
       by_cases c7 : (rd l0 x5_1) = (rd l1 x5_1)
       ·
        rw [if_pos c7] at H
        have c7b0 : ((rd l0 x5_1) == (rd l1 x5_1)) = true := beq_iff_eq.mpr c7
        have c7b1 : ((rd l0 x5_1) != (rd l1 x5_1)) = false := bne_eq_false_iff_eq.mpr c7
        clear c7
        have H' := zA H
        clear H
        have p440 : 0 ≤ (x5_1 : Int) := of_decide_eq_true (zqD)
        have q440 : x5_1 < (l0.length : Int) := of_decide_eq_true (zqD)
        obtain ⟨ad440, e440, hx440_0⟩ := Kd.at_int HR0.out x5_1 p440 q440
        cases e440; replace p440 := eq_true p440; replace q440 := eq_true q440
        have p441 : 0 ≤ (x5_1 : Int) := of_decide_eq_true (zqD)
        have q441 : x5_1 < (l1.length : Int) := of_decide_eq_true (zqD)
        obtain ⟨ad441, e441, hx441_0⟩ := Kd.at_int HR1.out x5_1 p441 q441
        cases e441; replace p441 := eq_true p441; replace q441 := eq_true q441
        go_wp2
        repeat (go_quiet (fail); try go_wp2)
        go_roundg k1
        case measure => have := HK1.out; omega
        case rel => exact ⟨(wrap64 (x5_1 + 1)), zqQ, H', ⟨by have := HK1.out; omega⟩, by repeat (first | exact Drawn0.refl _ | apply Drawn0.step)⟩
       ·
        rw [if_neg c7] at H
        have c7b0 : ((rd l0 x5_1) == (rd l1 x5_1)) = false := beq_eq_false_iff_ne.mpr c7
        have c7b1 : ((rd l0 x5_1) != (rd l1 x5_1)) = true := bne_iff_ne.mpr c7
        obtain rfl := Option.some.inj H
        have p440 : 0 ≤ (x5_1 : Int) := of_decide_eq_true (zqD)
        have q440 : x5_1 < (l0.length : Int) := of_decide_eq_true (zqD)
        obtain ⟨ad440, e440, hx440_0⟩ := Kd.at_int HR0.out x5_1 p440 q440
        cases e440; replace p440 := eq_true p440; replace q440 := eq_true q440
        have p441 : 0 ≤ (x5_1 : Int) := of_decide_eq_true (zqD)
        have q441 : x5_1 < (l1.length : Int) := of_decide_eq_true (zqD)
        obtain ⟨ad441, e441, hx441_0⟩ := Kd.at_int HR1.out x5_1 p441 q441
        cases e441; replace p441 := eq_true p441; replace q441 := eq_true q441
        go_wp2
        repeat (go_quiet (fail); try go_wp2)
        go_ret
        exact ⟨by first | rfl | (simp; done) | (simp [*]; done), by repeat (first | exact Drawn0.refl _ | apply Drawn0.step)⟩
      ·
       rw [if_neg c6] at H
       exact absurd H (by simp)
     ·
      rw [if_neg c5] at H
      exact absurd H (by simp)
    ·
     rw [if_neg c4] at H
     have c4b0 : decide (x5_1 < (l0.length : Int)) = false := decide_eq_false c4
     clear c4
     obtain rfl := Option.some.inj H
     go_wp2
     repeat (go_quiet (fail); try go_wp2)
     go_ret
     exact ⟨by first | rfl | (simp; done) | (simp [*]; done), by repeat (first | exact Drawn0.refl _ | apply Drawn0.step)⟩
 ·
  rw [if_neg c3] at H
  have c3b0 : ((l0.length : Int) == (l1.length : Int)) = false := beq_eq_false_iff_ne.mpr c3
  have c3b1 : ((l0.length : Int) != (l1.length : Int)) = true := bne_iff_ne.mpr c3
  have c3b2 : (l0.length == l1.length) = false := by first | simpa using c3 | (simp at c3 ⊢; omega)
  obtain rfl := Option.some.inj H
  go_enter Try.func39, Try.ntmps39
  go_wp2
  repeat (go_quiet (fail); try go_wp2)
  go_ret
  exact ⟨by first | rfl | (simp; done) | (simp [*]; done), by repeat (first | exact Drawn0.refl _ | apply Drawn0.step)⟩
end Go.Proofs.Ythoeindopljmkaa.P
end
section
namespace Go.Proofs.Ythoeindopljmkaa.P
open Go.RowKit Go.Proofs.YthoeindopljmkaaW.PrintWords Go.Proofs.YthoeindopljmkaaW.PrintLast Go.Proofs.YthoeindopljmkaaW.PrintMore
attribute [local go_sem] max2_int min2_int max_two min_two max_three min_three max_four min_four
set_option linter.unusedVariables false
set_option linter.unusedSimpArgs false
def pianolalaw04_L.f  : Option ((List (S71))) := some (([(⟨1, 5⟩ : S71), (⟨3, 9⟩ : S71)] : List (S71)))
set_option maxHeartbeats 8000000 in
set_option maxRecDepth 100000 in
theorem pianolalaw04_L.calls  (r : List (S71)) (w : World) (h : pianolalaw04_L.f  = some r) :
    Calls Try.prog 50 #[] w fun e w' => ∃ v0_ : Value, e = .returned (v0_) ∧ Kd.R k71 71 w' w.heap.size (fun _ => True) v0_ r ∧ Below w.heap.size w w' := by
  have hu71 := Try.underlying71
  have HB := zA (Below.refl w.heap.size w)
  have H : (some (([(⟨1, 5⟩ : S71), (⟨3, 9⟩ : S71)] : List (S71)))) = some r := h
  clear h
  obtain ⟨y617, hy617⟩ : ∃ y_ : List (S71), y_ = (([(⟨1, 5⟩ : S71), (⟨3, 9⟩ : S71)] : List (S71))) := ⟨_, rfl⟩
  replace H : (some y617) = some r := zqF hy617 H
  have Ny617 := zA hy617
  clear hy617
  obtain rfl := Option.some.inj H
  go_enter Try.func50, Try.ntmps50
  go_wp2_with (first | ((with_reducible refine gate_dst (N := 3) rfl ?_); refine Kd.R_lit k71 _ 71 ?hg (N := 3) ?hd (xs := ([(⟨1, 5⟩ : S71), (⟨3, 9⟩ : S71)] : List (S71))) (inner := [.int .i64 1, .int .i64 5, .int .i64 3, .int .i64 9]) (ok := fun _ => True) (okp := fun _ => True) ?hr ?hp (fun _ hk => hk) trivial (Below.refl _ _) (Nat.le_refl _) (by simp) ?_; (case hd => rfl); (case hg => rfl); (case hr => first | (go_simp; done) | (go_simp; rfl)); (case hp => exact (Reps.c2 (show Kd.M k71 _ _ _ (⟨1, 5⟩ : S71) [.int .i64 1, .int .i64 5] from (k71_mkM _ _ _ (⟨1, 5⟩ : S71) )) (Reps.c2 (show Kd.M k71 _ _ _ (⟨3, 9⟩ : S71) [.int .i64 3, .int .i64 9] from (k71_mkM _ _ _ (⟨3, 9⟩ : S71) )) (Reps.none _ _)))); intro v618 w1 ho2 hb hg_ hnew_; clear hg_ hnew_; (first | rw [← Ny617.out] at ho2 | (simp only [Int.reduceToNat] at ho2; rw [← Ny617.out] at ho2)); have n0_ := zA (Kd.R_lower ho2 (below_size (zqA HB.out))); have n1_ := zA (below_step (zqA HB.out) hb); clear HB; have HO619 := n0_; have HB := n1_; clear n0_ n1_; clear hb ho2))
  go_ret
  exact ⟨_, zqR, zqC HO619.out, zqA HB.out⟩
def pianolalaw04_K.f  : Option ((List (S71))) := some (([(⟨2, 4⟩ : S71), (⟨5, 15⟩ : S71)] : List (S71)))
set_option maxHeartbeats 8000000 in
set_option maxRecDepth 100000 in
theorem pianolalaw04_K.calls  (r : List (S71)) (w : World) (h : pianolalaw04_K.f  = some r) :
    Calls Try.prog 51 #[] w fun e w' => ∃ v0_ : Value, e = .returned (v0_) ∧ Kd.R k71 71 w' w.heap.size (fun _ => True) v0_ r ∧ Below w.heap.size w w' := by
  have hu71 := Try.underlying71
  have HB := zA (Below.refl w.heap.size w)
  have H : (some (([(⟨2, 4⟩ : S71), (⟨5, 15⟩ : S71)] : List (S71)))) = some r := h
  clear h
  obtain ⟨y620, hy620⟩ : ∃ y_ : List (S71), y_ = (([(⟨2, 4⟩ : S71), (⟨5, 15⟩ : S71)] : List (S71))) := ⟨_, rfl⟩
  replace H : (some y620) = some r := zqF hy620 H
  have Ny620 := zA hy620
  clear hy620
  obtain rfl := Option.some.inj H
  go_enter Try.func51, Try.ntmps51
  go_wp2_with (first | ((with_reducible refine gate_dst (N := 3) rfl ?_); refine Kd.R_lit k71 _ 71 ?hg (N := 3) ?hd (xs := ([(⟨2, 4⟩ : S71), (⟨5, 15⟩ : S71)] : List (S71))) (inner := [.int .i64 2, .int .i64 4, .int .i64 5, .int .i64 15]) (ok := fun _ => True) (okp := fun _ => True) ?hr ?hp (fun _ hk => hk) trivial (Below.refl _ _) (Nat.le_refl _) (by simp) ?_; (case hd => rfl); (case hg => rfl); (case hr => first | (go_simp; done) | (go_simp; rfl)); (case hp => exact (Reps.c2 (show Kd.M k71 _ _ _ (⟨2, 4⟩ : S71) [.int .i64 2, .int .i64 4] from (k71_mkM _ _ _ (⟨2, 4⟩ : S71) )) (Reps.c2 (show Kd.M k71 _ _ _ (⟨5, 15⟩ : S71) [.int .i64 5, .int .i64 15] from (k71_mkM _ _ _ (⟨5, 15⟩ : S71) )) (Reps.none _ _)))); intro v621 w1 ho2 hb hg_ hnew_; clear hg_ hnew_; (first | rw [← Ny620.out] at ho2 | (simp only [Int.reduceToNat] at ho2; rw [← Ny620.out] at ho2)); have n0_ := zA (Kd.R_lower ho2 (below_size (zqA HB.out))); have n1_ := zA (below_step (zqA HB.out) hb); clear HB; have HO622 := n0_; have HB := n1_; clear n0_ n1_; clear hb ho2))
  go_ret
  exact ⟨_, zqR, zqC HO622.out, zqA HB.out⟩
def pianolalaw04_P.f  : Option ((List (List (S71))) × (List (List (S71)))) := (pianolalaw04_L.f).bind fun t624 => ((pianolalaw04_K.f).bind fun t630 => (some ((([t624] : List (List (S71)))), (([t630] : List (List (S71)))))))
set_option maxHeartbeats 8000000 in
set_option maxRecDepth 100000 in
theorem pianolalaw04_P.calls  (r1 : List (List (S71))) (r2 : List (List (S71))) (w : World) (h : pianolalaw04_P.f  = some (r1, r2)) :
  Calls Try.prog 48 #[] w fun e w' => ∃ v0_ v1_ : Value, e = .returned (.agg #[v0_, v1_]) ∧ Kd.N (Kd.slice 71 k71) 22 w' w.heap.size (fun k_ => (w.heap.size ≤ k_) ∧ some k_ ≠ (v1_ : Value).ownBlock) v0_ r1 ∧ Kd.N (Kd.slice 71 k71) 22 w' w.heap.size (fun k_ => (w.heap.size ≤ k_) ∧ some k_ ≠ (v0_ : Value).ownBlock) v1_ r2 ∧ Below w.heap.size w w' := by
 have hu40 := Try.underlying40
 have HB := zA (Below.refl w.heap.size w)
 have H : ((pianolalaw04_L.f).bind fun t624 => ((pianolalaw04_K.f).bind fun t630 => (some ((([t624] : List (List (S71)))), (([t630] : List (List (S71)))))))) = some (r1, r2) := h
 clear h
 replace H := Option.bind_eq_some_iff.mp H
 obtain ⟨t624, A10, H⟩ := H
 replace H : ((pianolalaw04_K.f).bind fun t630 => (some ((([t624] : List (List (S71)))), (([t630] : List (List (S71))))))) = some (r1, r2) := H
 have A1 := zA A10
 clear A10
 obtain ⟨y627, hy627⟩ : ∃ y_ : List (List (S71)), y_ = (([t624] : List (List (S71)))) := ⟨_, rfl⟩
 replace H : ((pianolalaw04_K.f).bind fun t630 => (some (y627, (([t630] : List (List (S71))))))) = some (r1, r2) := zqF hy627 H
 have Ny627 := zA hy627
 clear hy627
 replace H := Option.bind_eq_some_iff.mp H
 obtain ⟨t630, A20, H⟩ := H
 replace H : (some (y627, (([t630] : List (List (S71)))))) = some (r1, r2) := H
 have A2 := zA A20
 clear A20
 obtain ⟨y633, hy633⟩ : ∃ y_ : List (List (S71)), y_ = (([t630] : List (List (S71)))) := ⟨_, rfl⟩
 replace H : (some (y627, y633)) = some (r1, r2) := zqF hy633 H
 have Ny633 := zA hy633
 clear hy633
 simp only [Option.some.injEq, Prod.mk.injEq] at H
 obtain ⟨rfl, rfl⟩ := H
 go_enter Try.func48, Try.ntmps48
 go_wp2_with (first | ((with_reducible refine gate_dst (N := 0) rfl ?_); refine box_event ?hg (N := 0) ?hd (cs := #[.slice none 0 0, .slice none 0 0]) (t := 40) ?hr ?_; (case hd => rfl); (case hg => rfl); (case hr => first | (go_simp; done) | (go_simp; rfl)); intro gb623 hg w3 hbox hb; have n0_ := zA (below_step (zqA HB.out) hb); have n1_ := zA (hbox); have n2_ := zA ((by rw [hg]; exact (below_size (zqA HB.out)) : w.heap.size ≤ gb623)); have n3_ := zA ((by rw [hg]; exact (below_size (zqA HB.out)) : w.heap.size ≤ gb623)); clear HB; have HB := n0_; have BK623 := n1_; have GW623 := n2_; have GE623 := n3_; clear n0_ n1_ n2_ n3_; clear hb hbox hg) | ((with_reducible refine gate_callee (f := 50) rfl ?_); refine goesL_ (some 1) rfl rfl Try.func50 (by kernel_rfl) rfl #[] rfl zqE ?_; (with_reducible refine (pianolalaw04_L.calls  t624 _ A1.out).mono ?_); rintro e w4 ⟨v625, rfl, ho0, hb⟩; refine ⟨_, rfl, ?_⟩; have n0_ := zA (Kd.R_lower (Kd.R_newM (M := fun k_ => (w.heap.size ≤ k_)) ho0 (below_size (zqG HB.out GE623.out)) (fun k_ h_ => h_)) (below_size (zqG HB.out GE623.out))); have n1_ := zA (blk_below (g := gb623) (o := .cells #[.slice none 0 0, .slice none 0 0] 40 (0, 0)) (zqB BK623.out) hb); have n2_ := zA (below_step (zqG HB.out GE623.out) hb); clear BK623; clear HB; have HO626 := n0_; have BK623 := n1_; have HB := n2_; clear n0_ n1_ n2_; (try clear hb); (try clear hb2); (try clear hk); (try clear hi); (try clear ho0); obtain ⟨Ao5, co5, eo5⟩ := Kd.R_slice HO626.out; subst eo5) | ((with_reducible refine gate_dst (N := 2) rfl ?_); refine Kd.N_lit (Kd.slice 71 k71) _ 22 ?hg (N' := 2) ?hd (xs := ([t624] : List (List (S71)))) (inner := [.slice Ao5 t624.length co5]) (ok := (fun k_ => (w.heap.size ≤ k_) ∧ k_ ≠ gb623)) (okp := (fun k_ => (w.heap.size ≤ k_) ∧ k_ ≠ gb623)) ?hr ?hp (fun _ hk => hk) ((show ∀ k_, w4.heap.size ≤ k_ → (fun k_ => (w.heap.size ≤ k_) ∧ k_ ≠ gb623) k_ from fun k_ hk => ⟨(Nat.le_trans (below_size (zqG HB.out GE623.out)) hk), Kd.freshB (g := gb623) (o := .cells #[.slice none 0 0, .slice none 0 0] 40 (0, 0)) (zqB BK623.out) k_ hk⟩) _ (Nat.le_refl _)) (Below.refl _ _) (Nat.le_refl _) (by simp) ?_; (case hd => rfl); (case hg => rfl); (case hr => first | (go_simp; done) | (go_simp; rfl)); (case hp => exact (Reps.one (show Kd.FK (Kd.slice 71 k71) _ _ t624 [.slice Ao5 t624.length co5] from (Kd.FK_slice_mk (Kd.R_reads' (Kd.R_mono (ok' := (fun k_ => (w.heap.size ≤ k_) ∧ k_ ≠ gb623)) (Kd.R_types (HO626.out) BK623.out (by decide)) (fun k_ hk => ⟨hk.1.1, hk.2⟩))).2.1 (Kd.R_F (Kd.R_mono (ok' := (fun k_ => (w.heap.size ≤ k_) ∧ k_ ≠ gb623)) (Kd.R_types (HO626.out) BK623.out (by decide)) (fun k_ hk => ⟨hk.1.1, hk.2⟩))))) (Reps.none _ _))); intro v628 w6 ho7 hb hg_ hnew_; clear hg_ hnew_; (first | rw [← Ny627.out] at ho7 | (simp only [Int.reduceToNat] at ho7; rw [← Ny627.out] at ho7)); have n0_ := zA (Kd.N_lower ho7 (below_size (zqG HB.out GE623.out))); have n1_ := zA (blk_below (g := gb623) (o := .cells #[.slice none 0 0, .slice none 0 0] 40 (0, 0)) (zqB BK623.out) hb); have n2_ := zA (below_step (zqG HB.out GE623.out) hb); clear BK623; clear HB; clear HO626; have HO629 := n0_; have BK623 := n1_; have HB := n2_; clear n0_ n1_ n2_; clear hb ho7) | ((with_reducible refine gate_callee (f := 51) rfl ?_); refine goesL_ (some 3) rfl rfl Try.func51 (by kernel_rfl) rfl #[] rfl zqE ?_; (with_reducible refine (pianolalaw04_K.calls  t630 _ A2.out).mono ?_); rintro e w8 ⟨v631, rfl, ho0, hb⟩; refine ⟨_, rfl, ?_⟩; have n0_ := zA (Kd.N_elder' (zqN HO629.out) (Kd.R_base ho0) hb); have n1_ := zA (Kd.R_lower (Kd.R_newM (M := fun k_ => (w.heap.size ≤ k_)) ho0 (below_size (zqG HB.out GE623.out)) (fun k_ h_ => h_)) (below_size (zqG HB.out GE623.out))); have n2_ := zA (blk_below (g := gb623) (o := .cells #[.slice none 0 0, .slice none 0 0] 40 (0, 0)) (zqB BK623.out) hb); have n3_ := zA (below_step (zqG HB.out GE623.out) hb); clear HO629; clear BK623; clear HB; have HO629 := n0_; have HO632 := n1_; have BK623 := n2_; have HB := n3_; clear n0_ n1_ n2_ n3_; (try clear hb); (try clear hb2); (try clear hk); (try clear hi); (try clear ho0); obtain ⟨Ao9, co9, eo9⟩ := Kd.R_slice HO632.out; subst eo9) | ((with_reducible refine gate_dst (N := 4) rfl ?_); refine Kd.N_lit (Kd.slice 71 k71) _ 22 ?hg (N' := 4) ?hd (xs := ([t630] : List (List (S71)))) (inner := [.slice Ao9 t630.length co9]) (ok := (fun k_ => (w.heap.size ≤ k_) ∧ some k_ ≠ (v628 : Value).ownBlock ∧ k_ ≠ gb623)) (okp := (fun k_ => (w.heap.size ≤ k_) ∧ some k_ ≠ (v628 : Value).ownBlock ∧ k_ ≠ gb623)) ?hr ?hp (fun _ hk => hk) ((show ∀ k_, w8.heap.size ≤ k_ → (fun k_ => (w.heap.size ≤ k_) ∧ some k_ ≠ (v628 : Value).ownBlock ∧ k_ ≠ gb623) k_ from fun k_ hk => ⟨(Nat.le_trans (below_size (zqG HB.out GE623.out)) hk), Kd.fresh' (Kd.N_lt (zqN HO629.out)) k_ hk, Kd.freshB (g := gb623) (o := .cells #[.slice none 0 0, .slice none 0 0] 40 (0, 0)) (zqB BK623.out) k_ hk⟩) _ (Nat.le_refl _)) (Below.refl _ _) (Nat.le_refl _) (by simp) ?_; (case hd => rfl); (case hg => rfl); (case hr => first | (go_simp; done) | (go_simp; rfl)); (case hp => exact (Reps.one (show Kd.FK (Kd.slice 71 k71) _ _ t630 [.slice Ao9 t630.length co9] from (Kd.FK_slice_mk (Kd.R_reads' (Kd.R_mono (ok' := (fun k_ => (w.heap.size ≤ k_) ∧ some k_ ≠ (v628 : Value).ownBlock ∧ k_ ≠ gb623)) (Kd.R_types (Kd.R_apart' (HO632.out) (Kd.N_typed HO629.out) (by decide)) BK623.out (by decide)) (fun k_ hk => ⟨hk.1.1.1, ⟨hk.1.2, hk.2⟩⟩))).2.1 (Kd.R_F (Kd.R_mono (ok' := (fun k_ => (w.heap.size ≤ k_) ∧ some k_ ≠ (v628 : Value).ownBlock ∧ k_ ≠ gb623)) (Kd.R_types (Kd.R_apart' (HO632.out) (Kd.N_typed HO629.out) (by decide)) BK623.out (by decide)) (fun k_ hk => ⟨hk.1.1.1, ⟨hk.1.2, hk.2⟩⟩))))) (Reps.none _ _))); intro v634 w10 ho11 hb hg_ hnew_; clear hg_ hnew_; (first | rw [← Ny633.out] at ho11 | (simp only [Int.reduceToNat] at ho11; rw [← Ny633.out] at ho11)); have n0_ := zA (Kd.N_elder' (zqN HO629.out) (Kd.N_base ho11) hb); have n1_ := zA (Kd.N_lower ho11 (below_size (zqG HB.out GE623.out))); have n2_ := zA (blk_below (g := gb623) (o := .cells #[.slice none 0 0, .slice none 0 0] 40 (0, 0)) (zqB BK623.out) hb); have n3_ := zA (below_step (zqG HB.out GE623.out) hb); clear HO629; clear BK623; clear HB; clear HO632; have HO629 := n0_; have HO635 := n1_; have BK623 := n2_; have HB := n3_; clear n0_ n1_ n2_ n3_; clear hb ho11; obtain ⟨Ao12, co12, eo12⟩ := Kd.N_slice HO635.out; subst eo12; obtain ⟨Ao13, co13, eo13⟩ := Kd.N_slice HO629.out; subst eo13; have hcz14_0 : w10.cell? ⟨gb623, 0, none⟩ = some (.slice none 0 0) := (blk_cell BK623.out 0).trans rfl; have hcz14_1 : w10.cell? ⟨gb623, 1, none⟩ = some (.slice none 0 0) := (blk_cell BK623.out 1).trans rfl; have hfz14_0 := blk_frozen BK623.out 0; have hfz14_1 := blk_frozen BK623.out 1))
 refine bodyPost_ret (results_cell_row rfl _ _ gb623 40 #[.slice Ao13 y627.length co13, .slice Ao12 y633.length co12] (0, 0) _ rfl (by (with_reducible repeat (first | refine blk_drewN ?_ _ | refine blk_drew ?_ | refine blk_alloc ?_ _)); refine blk_put (cs := #[.slice Ao13 y627.length co13, .slice none 0 0]) ?_ 1 _ rfl; (with_reducible repeat (first | refine blk_drewN ?_ _ | refine blk_drew ?_ | refine blk_alloc ?_ _)); refine blk_put (cs := #[.slice none 0 0, .slice none 0 0]) ?_ 0 _ rfl; (with_reducible repeat (first | refine blk_drewN ?_ _ | refine blk_drew ?_ | refine blk_alloc ?_ _)); exact BK623.out) Try.underlying40 rfl (by kernel_rfl)) rfl ?_
 exact ⟨_, _, zqR, by (with_reducible repeat (first | apply Kd.N_alloc | apply Kd.N_drewN | apply Kd.N_drew)); exact Kd.N_mono (Kd.N_far (p := ⟨gb623, 1, none⟩) (Kd.N_far (p := ⟨gb623, 0, none⟩) (Kd.N_mono HO629.out (fun k_ hk => (⟨hk, hk.1.1.2⟩ : _ ∧ k_ ≠ gb623))) (fun _ hk => hk.2) (.slice Ao13 y627.length co13)) (fun _ hk => hk.2) (.slice Ao12 y633.length co12)) (fun _ hk => ⟨hk.1.1.1.1, hk.1.2⟩), by (with_reducible repeat (first | apply Kd.N_alloc | apply Kd.N_drewN | apply Kd.N_drew)); exact Kd.N_mono (Kd.N_far (p := ⟨gb623, 1, none⟩) (Kd.N_far (p := ⟨gb623, 0, none⟩) (Kd.N_mono HO635.out (fun k_ hk => (⟨hk, hk.2.2⟩ : _ ∧ k_ ≠ gb623))) (fun _ hk => hk.2) (.slice Ao13 y627.length co13)) (fun _ hk => hk.2) (.slice Ao12 y633.length co12)) (fun _ hk => ⟨hk.1.1, hk.1.2.1⟩), zqG HB.out GE623.out⟩
end Go.Proofs.Ythoeindopljmkaa.P
end
