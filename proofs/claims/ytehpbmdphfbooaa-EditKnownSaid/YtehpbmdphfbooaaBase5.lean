/- Words and contracts for a claim. -/
import Derived.Test.YtehpbmdphfbooaaBase4
import Derived.Test.YtehpbmdphfbooaaProg
section
namespace Go.Proofs.Ytehpbmdphfbooaa.P
open Go.RowKit Go.Proofs.YtehpbmdphfbooaaW.PrintWords Go.Proofs.YtehpbmdphfbooaaW.PrintLast Go.Proofs.YtehpbmdphfbooaaW.PrintMore
attribute [local go_sem] max2_int min2_int max_two min_two max_three min_three max_four min_four
set_option linter.unusedVariables false
set_option linter.unusedSimpArgs false
def errW : Option Int → Value
  | none => .nilIface
  | some c => .iface 0 (.int .i64 c)
theorem errW_none : errW none = .nilIface := rfl
theorem errW_some (c : Int) : errW (some c) = .iface 0 (.int .i64 c) := rfl
theorem info3 : (Try.prog.info? 3).map (fun i => (i.zero, i.size, i.bytes)) = some (some (.int .i64 0), 1, 8) := by kernel_rfl
theorem info61 : (Try.prog.info? 61).map (fun i => (i.zero, i.size, i.bytes)) = some (some (.agg #[(.int .i64 0), (.int .i64 0), (.int .i64 0)]), 3, 24) := by kernel_rfl
theorem info67 : (Try.prog.info? 67).map (fun i => (i.zero, i.size, i.bytes)) = some (some (.agg #[(.int .i64 0), (.bool false)]), 2, 16) := by kernel_rfl
structure S61 where
  f0 : Int
  f1 : Int
  f2 : Int
def z61 : S61 := ⟨(0 : Int), (0 : Int), (0 : Int)⟩
def k61 : Kd S61 := Kd.iso (Kd.pair (Kd.int .i64) (Kd.pair (Kd.int .i64) (Kd.int .i64))) (fun x : S61 => (x.f0, x.f1, x.f2))
theorem k61_open {w : World} {x : S61} {cs : List Value} (h : k61.K w x cs) : cs = [.int .i64 x.f0, .int .i64 x.f1, .int .i64 x.f2] := by
  obtain ⟨_, _, rfl, rfl, ⟨_, _, rfl, rfl, rfl⟩⟩ := h
  exact rfl
theorem k61_mk (w : World) (x : S61)  : k61.K w x [.int .i64 x.f0, .int .i64 x.f1, .int .i64 x.f2] := ⟨[.int .i64 x.f0], [.int .i64 x.f1, .int .i64 x.f2], rfl, rfl, ⟨[.int .i64 x.f1], [.int .i64 x.f2], rfl, rfl, rfl⟩⟩
theorem k61_mkM (w : World) (base : Nat) (ok : Nat → Prop) (x : S61)  : k61.M w base ok x [.int .i64 x.f0, .int .i64 x.f1, .int .i64 x.f2] := ⟨[.int .i64 x.f0], [.int .i64 x.f1, .int .i64 x.f2], rfl, rfl, ⟨[.int .i64 x.f1], [.int .i64 x.f2], rfl, rfl, rfl⟩⟩
def rd_T61 (xs : List S61) (i : Int) : S61 := xs.getD i.toNat z61
theorem at_T61 {w : World} {A : Option Addr} {n : Nat} {xs : List S61} (h : Kd.C k61 w A n xs) (i : Int) (h0 : 0 ≤ i) (h1 : i < n) : ∃ ad , A = some ad ∧ w.cell? (ad.add (i.toNat * 3)) = some (.int .i64 (rd_T61 xs i).f0) ∧ w.cell? ⟨(ad.add (i.toNat * 3)).block, (ad.add (i.toNat * 3)).off + 1, none⟩ = some (.int .i64 (rd_T61 xs i).f1) ∧ w.cell? ⟨(ad.add (i.toNat * 3)).block, (ad.add (i.toNat * 3)).off + 2, none⟩ = some (.int .i64 (rd_T61 xs i).f2) := by
  obtain ⟨ad, c, e, _, hK, hc0⟩ := Kd.C_get h z61 i h0 h1
  have hc : ∀ j u, c[j]? = some u → w.cell? (ad.add (i.toNat * 3 + j)) = some u := hc0
  obtain rfl := k61_open hK
  exact ⟨ad, e, hc 0 _ rfl, by rw [← add_field _ _ 1 (by omega)]; exact hc 1 _ rfl, by rw [← add_field _ _ 2 (by omega)]; exact hc 2 _ rfl⟩
structure S65 where
  f0 : Int
  f1 : Int
  f2 : Int
  f3 : S61
def z65 : S65 := ⟨(0 : Int), (0 : Int), (0 : Int), z61⟩
def k65 : Kd S65 := Kd.iso (Kd.pair (Kd.int .i64) (Kd.pair (Kd.int .i64) (Kd.pair (Kd.int .i64) k61))) (fun x : S65 => (x.f0, x.f1, x.f2, x.f3))
theorem k65_open {w : World} {x : S65} {cs : List Value} (h : k65.K w x cs) : cs = [.int .i64 x.f0, .int .i64 x.f1, .int .i64 x.f2, .int .i64 x.f3.f0, .int .i64 x.f3.f1, .int .i64 x.f3.f2] := by
  obtain ⟨_, _, rfl, rfl, ⟨_, _, rfl, rfl, ⟨_, _, rfl, rfl, s3⟩⟩⟩ := h
  obtain rfl := k61_open s3
  exact rfl
theorem k65_mk (w : World) (x : S65)  : k65.K w x [.int .i64 x.f0, .int .i64 x.f1, .int .i64 x.f2, .int .i64 x.f3.f0, .int .i64 x.f3.f1, .int .i64 x.f3.f2] := ⟨[.int .i64 x.f0], [.int .i64 x.f1, .int .i64 x.f2, .int .i64 x.f3.f0, .int .i64 x.f3.f1, .int .i64 x.f3.f2], rfl, rfl, ⟨[.int .i64 x.f1], [.int .i64 x.f2, .int .i64 x.f3.f0, .int .i64 x.f3.f1, .int .i64 x.f3.f2], rfl, rfl, ⟨[.int .i64 x.f2], [.int .i64 x.f3.f0, .int .i64 x.f3.f1, .int .i64 x.f3.f2], rfl, rfl, (k61_mk w x.f3 )⟩⟩⟩
theorem k65_mkM (w : World) (base : Nat) (ok : Nat → Prop) (x : S65)  : k65.M w base ok x [.int .i64 x.f0, .int .i64 x.f1, .int .i64 x.f2, .int .i64 x.f3.f0, .int .i64 x.f3.f1, .int .i64 x.f3.f2] := ⟨[.int .i64 x.f0], [.int .i64 x.f1, .int .i64 x.f2, .int .i64 x.f3.f0, .int .i64 x.f3.f1, .int .i64 x.f3.f2], rfl, rfl, ⟨[.int .i64 x.f1], [.int .i64 x.f2, .int .i64 x.f3.f0, .int .i64 x.f3.f1, .int .i64 x.f3.f2], rfl, rfl, ⟨[.int .i64 x.f2], [.int .i64 x.f3.f0, .int .i64 x.f3.f1, .int .i64 x.f3.f2], rfl, rfl, (k61_mkM w base ok x.f3 )⟩⟩⟩
def rd_T65 (xs : List S65) (i : Int) : S65 := xs.getD i.toNat z65
theorem at_T65 {w : World} {A : Option Addr} {n : Nat} {xs : List S65} (h : Kd.C k65 w A n xs) (i : Int) (h0 : 0 ≤ i) (h1 : i < n) : ∃ ad , A = some ad ∧ w.cell? (ad.add (i.toNat * 6)) = some (.int .i64 (rd_T65 xs i).f0) ∧ w.cell? ⟨(ad.add (i.toNat * 6)).block, (ad.add (i.toNat * 6)).off + 1, none⟩ = some (.int .i64 (rd_T65 xs i).f1) ∧ w.cell? ⟨(ad.add (i.toNat * 6)).block, (ad.add (i.toNat * 6)).off + 2, none⟩ = some (.int .i64 (rd_T65 xs i).f2) ∧ w.cell? ⟨(ad.add (i.toNat * 6)).block, (ad.add (i.toNat * 6)).off + 3, none⟩ = some (.int .i64 (rd_T65 xs i).f3.f0) ∧ w.cell? ⟨(ad.add (i.toNat * 6)).block, (ad.add (i.toNat * 6)).off + 4, none⟩ = some (.int .i64 (rd_T65 xs i).f3.f1) ∧ w.cell? ⟨(ad.add (i.toNat * 6)).block, (ad.add (i.toNat * 6)).off + 5, none⟩ = some (.int .i64 (rd_T65 xs i).f3.f2) := by
  obtain ⟨ad, c, e, _, hK, hc0⟩ := Kd.C_get h z65 i h0 h1
  have hc : ∀ j u, c[j]? = some u → w.cell? (ad.add (i.toNat * 6 + j)) = some u := hc0
  obtain rfl := k65_open hK
  exact ⟨ad, e, hc 0 _ rfl, by rw [← add_field _ _ 1 (by omega)]; exact hc 1 _ rfl, by rw [← add_field _ _ 2 (by omega)]; exact hc 2 _ rfl, by rw [← add_field _ _ 3 (by omega)]; exact hc 3 _ rfl, by rw [← add_field _ _ 4 (by omega)]; exact hc 4 _ rfl, by rw [← add_field _ _ 5 (by omega)]; exact hc 5 _ rfl⟩
structure S67 where
  f0 : Int
  f1 : Bool
def z67 : S67 := ⟨(0 : Int), false⟩
def k67 : Kd S67 := Kd.iso (Kd.pair (Kd.int .i64) Kd.bool) (fun x : S67 => (x.f0, x.f1))
theorem k67_open {w : World} {x : S67} {cs : List Value} (h : k67.K w x cs) : cs = [.int .i64 x.f0, .bool x.f1] := by
  obtain ⟨_, _, rfl, rfl, rfl⟩ := h
  exact rfl
theorem k67_mk (w : World) (x : S67)  : k67.K w x [.int .i64 x.f0, .bool x.f1] := ⟨[.int .i64 x.f0], [.bool x.f1], rfl, rfl, rfl⟩
theorem k67_mkM (w : World) (base : Nat) (ok : Nat → Prop) (x : S67)  : k67.M w base ok x [.int .i64 x.f0, .bool x.f1] := ⟨[.int .i64 x.f0], [.bool x.f1], rfl, rfl, rfl⟩
def rd_T67 (xs : List S67) (i : Int) : S67 := xs.getD i.toNat z67
theorem at_T67 {w : World} {A : Option Addr} {n : Nat} {xs : List S67} (h : Kd.C k67 w A n xs) (i : Int) (h0 : 0 ≤ i) (h1 : i < n) : ∃ ad , A = some ad ∧ w.cell? (ad.add (i.toNat * 2)) = some (.int .i64 (rd_T67 xs i).f0) ∧ w.cell? ⟨(ad.add (i.toNat * 2)).block, (ad.add (i.toNat * 2)).off + 1, none⟩ = some (.bool (rd_T67 xs i).f1) := by
  obtain ⟨ad, c, e, _, hK, hc0⟩ := Kd.C_get h z67 i h0 h1
  have hc : ∀ j u, c[j]? = some u → w.cell? (ad.add (i.toNat * 2 + j)) = some u := hc0
  obtain rfl := k67_open hK
  exact ⟨ad, e, hc 0 _ rfl, by rw [← add_field _ _ 1 (by omega)]; exact hc 1 _ rfl⟩
end Go.Proofs.Ytehpbmdphfbooaa.P
end
section
namespace Go.Proofs.Ytehpbmdphfbooaa.P
open Go.RowKit Go.Proofs.YtehpbmdphfbooaaW.PrintWords Go.Proofs.YtehpbmdphfbooaaW.PrintLast Go.Proofs.YtehpbmdphfbooaaW.PrintMore
attribute [local go_sem] max2_int min2_int max_two min_two max_three min_three max_four min_four
set_option linter.unusedVariables false
set_option linter.unusedSimpArgs false
theorem eqA61 (d : Nat) (w : World) (x0 y0 : Int) (x1 y1 : Int) (x2 y2 : Int) :
    (Op.equalIn (d + 2) 61 (.agg #[.int .i64 x0, .int .i64 x1, .int .i64 x2]) (.agg #[.int .i64 y0, .int .i64 y1, .int .i64 y2])).run Try.prog w = .ok (x0 == y0 && (x1 == y1 && (x2 == y2))) w := by
  refine eqA_of Try.underlying61 (by kernel_rfl) ?_
  refine eqf_cons (by rfl) (by go_simp; rfl) (by go_simp; rfl) (by go_simp) ?_
  refine eqf_cons (by rfl) (by go_simp; rfl) (by go_simp; rfl) (by go_simp) ?_
  exact eqf_last (by rfl) (by go_simp; rfl) (by go_simp; rfl) (by go_simp)
end Go.Proofs.Ytehpbmdphfbooaa.P
end
section
namespace Go.Proofs.Ytehpbmdphfbooaa.P
open Go.RowKit Go.Proofs.YtehpbmdphfbooaaW.PrintWords Go.Proofs.YtehpbmdphfbooaaW.PrintLast Go.Proofs.YtehpbmdphfbooaaW.PrintMore
attribute [local go_sem] max2_int min2_int max_two min_two max_three min_three max_four min_four
set_option linter.unusedVariables false
set_option linter.unusedSimpArgs false
theorem eqA67 (d : Nat) (w : World) (x0 y0 : Int) (x1 y1 : Bool) :
    (Op.equalIn (d + 2) 67 (.agg #[.int .i64 x0, .bool x1]) (.agg #[.int .i64 y0, .bool y1])).run Try.prog w = .ok (x0 == y0 && (x1 == y1)) w := by
  refine eqA_of Try.underlying67 (by kernel_rfl) ?_
  refine eqf_cons (by rfl) (by go_simp; rfl) (by go_simp; rfl) (by go_simp) ?_
  exact eqf_last (by rfl) (by go_simp; rfl) (by go_simp; rfl) (by go_simp)
end Go.Proofs.Ytehpbmdphfbooaa.P
end
section
namespace Go.Proofs.Ytehpbmdphfbooaa.P
open Go.RowKit Go.Proofs.YtehpbmdphfbooaaW.PrintWords Go.Proofs.YtehpbmdphfbooaaW.PrintLast Go.Proofs.YtehpbmdphfbooaaW.PrintMore
attribute [local go_sem] max2_int min2_int max_two min_two max_three min_three max_four min_four
set_option linter.unusedVariables false
set_option linter.unusedSimpArgs false
attribute [local go_sem high] eqA61 eqA67
def edit_Note_place.f (a0_0 : Int) (a0_1 : Int) (a0_2 : Int) : Option (Int × Int) := some (a0_0, a0_1)
set_option maxHeartbeats 8000000 in
set_option maxRecDepth 100000 in
theorem edit_Note_place.calls (a0_0 : Int) (a0_1 : Int) (a0_2 : Int) (r1 : Int) (r2 : Int) (w : World) (h : edit_Note_place.f a0_0 a0_1 a0_2 = some (r1, r2)) :
  Calls Try.prog 52 #[.agg #[.int .i64 a0_0, .int .i64 a0_1, .int .i64 a0_2]] w fun e w' => e = .returned (.agg #[.int .i64 r1, .int .i64 r2]) ∧ Below w.heap.size w w' := by
 have hu61 := Try.underlying61
 have hu106 := Try.underlying106
 have HB := zA (Below.refl w.heap.size w)
 have H : (some (a0_0, a0_1)) = some (r1, r2) := h
 clear h
 simp only [Option.some.injEq, Prod.mk.injEq] at H
 obtain ⟨rfl, rfl⟩ := H
 go_enter Try.func52, Try.ntmps52
 go_wp2_with (first | ((with_reducible refine gate_dst (N := 1) rfl ?_); refine box_event ?hg (N := 1) ?hd (cs := #[.int .i64 a0_0, .int .i64 a0_1, .int .i64 a0_2]) (t := 61) ?hr ?_; (case hd => rfl); (case hg => rfl); (case hr => first | (go_simp; done) | (go_simp; rfl)); intro aa hg w2 hbox hb; have ab := zA (hbox); have GW232 := zA ((by rw [hg]; exact (below_size (zqA HB.out)) : w.heap.size ≤ aa)); have ae := zA ((by rw [hg]; exact (below_size (zqA HB.out)) : w.heap.size ≤ aa)); replace HB := zA (below_step (zqA HB.out) hb); clear hb hbox hg) | ((with_reducible refine gate_dst (N := 2) rfl ?_); refine box_event ?hg (N := 2) ?hd (cs := #[.int .i64 0, .int .i64 0]) (t := 106) ?hr ?_; (case hd => rfl); (case hg => rfl); (case hr => first | (go_simp; done) | (go_simp; rfl)); intro ac hg w3 hbox hb; have ad := zA (hbox); have GW233 := zA ((by rw [hg]; exact (below_size (zqG HB.out ae.out)) : w.heap.size ≤ ac)); have GE233 := zA ((by rw [hg]; exact (below_size (zqG HB.out ae.out)) : w.heap.size ≤ ac)); replace HB := zA (below_step (zqG HB.out ae.out) hb); have NB232_233 := zA ((by rw [hg]; exact Nat.ne_of_lt (blk_lt (g := aa) (o := .cells #[.int .i64 a0_0, .int .i64 a0_1, .int .i64 a0_2] 61 (0, 0)) (zqB ab.out)) : aa ≠ ac)); have NB233_232 := zA ((by rw [hg]; exact Nat.ne_of_gt (blk_lt (g := aa) (o := .cells #[.int .i64 a0_0, .int .i64 a0_1, .int .i64 a0_2] 61 (0, 0)) (zqB ab.out)) : ac ≠ aa)); replace ab := zA (blk_below (g := aa) (o := .cells #[.int .i64 a0_0, .int .i64 a0_1, .int .i64 a0_2] 61 (0, 0)) (zqB ab.out) hb); clear hb hbox hg; have hnb4 := NB232_233.out; have hnc4 := NB233_232.out; have hcz5_0 : w3.cell? ⟨aa, 0, none⟩ = some (.int .i64 a0_0) := (blk_cell ab.out 0).trans rfl; have hcz5_1 : w3.cell? ⟨aa, 1, none⟩ = some (.int .i64 a0_1) := (blk_cell ab.out 1).trans rfl; have hcz5_2 : w3.cell? ⟨aa, 2, none⟩ = some (.int .i64 a0_2) := (blk_cell ab.out 2).trans rfl; have hfz5_0 := blk_frozen ab.out 0; have hfz5_1 := blk_frozen ab.out 1; have hfz5_2 := blk_frozen ab.out 2; have hcz6_0 : w3.cell? ⟨ac, 0, none⟩ = some (.int .i64 0) := (blk_cell ad.out 0).trans rfl; have hcz6_1 : w3.cell? ⟨ac, 1, none⟩ = some (.int .i64 0) := (blk_cell ad.out 1).trans rfl; have hfz6_0 := blk_frozen ad.out 0; have hfz6_1 := blk_frozen ad.out 1))
 refine bodyPost_ret (results_cell_row rfl _ _ ac 106 #[.int .i64 a0_0, .int .i64 a0_1] (0, 0) _ rfl (by (with_reducible repeat (first | refine blk_drewN ?_ _ | refine blk_drew ?_ | refine blk_alloc ?_ _)); refine blk_put (cs := #[.int .i64 a0_0, .int .i64 0]) ?_ 1 _ rfl; (with_reducible repeat (first | refine blk_drewN ?_ _ | refine blk_drew ?_ | refine blk_alloc ?_ _)); refine blk_put (cs := #[.int .i64 0, .int .i64 0]) ?_ 0 _ rfl; (with_reducible repeat (first | refine blk_drewN ?_ _ | refine blk_drew ?_ | refine blk_alloc ?_ _)); exact ad.out) Try.underlying106 rfl (by kernel_rfl)) rfl ?_
 exact ⟨zqR, zqH HB.out ae.out GE233.out⟩
def cmp_Or_int.l0 : Nat → Int → List Int → Int → Int → Option (Int)
  | 0, _, _, _, _ => none
  | k + 1, x3, x6, x7, x8 => if x8 < x7 then (if 0 ≤ x8 then (if x8 < (x6.length : Int) then (if (rd x6 x8) = x3 then (cmp_Or_int.l0 k x3 x6 x7 (wrap64 (x8 + 1))) else (some (rd x6 x8))) else (none)) else (none)) else (some x3)
def cmp_Or_int.f (k : Nat) (l0 : List Int) : Option (Int) := cmp_Or_int.l0 k 0 l0 (l0.length : Int) 0
set_option maxHeartbeats 8000000 in
set_option maxRecDepth 100000 in
theorem cmp_Or_int.calls (k : Nat) (A0 : Option Addr) (c0 : Nat) (l0 : List Int) (r : Int) (w : World) (aa : Kd.C (Kd.int .i64) w A0 l0.length l0) (hc0 : l0.length ≤ c0) (h : cmp_Or_int.f k l0 = some r) :
  Calls Try.prog 91 #[.slice A0 l0.length c0] w fun e w' => e = .returned (.int .i64 r) ∧ Drawn0 w w' := by
 have ab := zA aa
 have HC0 := zA hc0
 clear aa hc0
 have H : (cmp_Or_int.l0 k 0 l0 (l0.length : Int) 0) = some r := h
 clear h
 have H' := zA H
 clear H
 go_enter Try.func91, Try.ntmps91
 go_wp2
 go_loopg [8] k (fun kq v8 w' => ∃ (x8_1 : Int), v8 = .int .i64 x8_1 ∧ Aside0 (cmp_Or_int.l0 kq 0 l0 (l0.length : Int) x8_1 = some r) ∧ Aside0 (kq ≤ k) ∧ Drawn0 w w')
 case atStart => exact ⟨(0), zqQ, H', ⟨Nat.le_refl _⟩, by repeat (first | exact Drawn0.refl _ | apply Drawn0.step)⟩
 case round =>
  clear H'
  obtain ⟨x8_1, rfl, HA, HK1, ⟨m1, rfl⟩⟩ := hrel
  cases gk with
  | zero => exact absurd HA.out (by simp [cmp_Or_int.l0])
  | succ k1 =>
   have H := HA.out
   clear HA
   simp only [cmp_Or_int.l0] at H
   by_cases c2 : x8_1 < (l0.length : Int)
   ·
    rw [if_pos c2] at H
    have c2b0 : decide (x8_1 < (l0.length : Int)) = true := decide_eq_true c2
    clear c2
    by_cases c3 : 0 ≤ x8_1
    ·
     rw [if_pos c3] at H
     have c3b0 : decide (0 ≤ x8_1) = true := decide_eq_true c3
     clear c3
     by_cases c4 : x8_1 < (l0.length : Int)
     ·
      rw [if_pos c4] at H
      have c4b0 : decide (x8_1 < (l0.length : Int)) = true := decide_eq_true c4
      clear c4
      by_cases c5 : (rd l0 x8_1) = 0
      ·
       rw [if_pos c5] at H
       have c5b0 : ((rd l0 x8_1) == 0) = true := beq_iff_eq.mpr c5
       have c5b1 : ((rd l0 x8_1) != 0) = false := bne_eq_false_iff_eq.mpr c5
       clear c5
       have H' := zA H
       clear H
       have p234 : 0 ≤ (x8_1 : Int) := of_decide_eq_true (zqD)
       have q234 : x8_1 < (l0.length : Int) := of_decide_eq_true (zqD)
       obtain ⟨ad234, e234, hx234_0⟩ := Kd.at_int ab.out x8_1 p234 q234
       cases e234; replace p234 := eq_true p234; replace q234 := eq_true q234
       go_wp2
       go_roundg k1
       case measure => have := HK1.out; omega
       case rel => exact ⟨(wrap64 (x8_1 + 1)), zqQ, H', ⟨by have := HK1.out; omega⟩, by repeat (first | exact Drawn0.refl _ | apply Drawn0.step)⟩
      ·
       rw [if_neg c5] at H
       have c5b0 : ((rd l0 x8_1) == 0) = false := beq_eq_false_iff_ne.mpr c5
       have c5b1 : ((rd l0 x8_1) != 0) = true := bne_iff_ne.mpr c5
       obtain rfl := Option.some.inj H
       have p234 : 0 ≤ (x8_1 : Int) := of_decide_eq_true (zqD)
       have q234 : x8_1 < (l0.length : Int) := of_decide_eq_true (zqD)
       obtain ⟨ad234, e234, hx234_0⟩ := Kd.at_int ab.out x8_1 p234 q234
       cases e234; replace p234 := eq_true p234; replace q234 := eq_true q234
       go_wp2
       go_ret
       exact ⟨by first | rfl | (simp; done) | (simp [*]; done), by repeat (first | exact Drawn0.refl _ | apply Drawn0.step)⟩
     ·
      rw [if_neg c4] at H
      exact absurd H (by simp)
    ·
     rw [if_neg c3] at H
     exact absurd H (by simp)
   ·
    rw [if_neg c2] at H
    have c2b0 : decide (x8_1 < (l0.length : Int)) = false := decide_eq_false c2
    clear c2
    obtain rfl := Option.some.inj H
    go_wp2
    go_ret
    exact ⟨by first | rfl | (simp; done) | (simp [*]; done), by repeat (first | exact Drawn0.refl _ | apply Drawn0.step)⟩
def cmp_isNaN_int.f (a0 : Int) : Option (Bool) := some (a0 != a0)
set_option maxHeartbeats 8000000 in
set_option maxRecDepth 100000 in
theorem cmp_isNaN_int.calls (a0 : Int) (r : Bool) (w : World) (h : cmp_isNaN_int.f a0 = some r) :
    Calls Try.prog 108 #[.int .i64 a0] w fun e w' => e = .returned (.bool r) ∧ Drawn0 w w' := by
  have H : (some (a0 != a0)) = some r := h
  clear h
  obtain rfl := Option.some.inj H
  go_enter Try.func108, Try.ntmps108
  go_wp2
  go_ret
  exact ⟨by first | rfl | (simp; done) | (simp [*]; done), by repeat (first | exact Drawn0.refl _ | apply Drawn0.step)⟩
def cmp_Compare_int.f (a0 : Int) (a1 : Int) : Option (Int) := (cmp_isNaN_int.f a0).bind fun t235 => ((cmp_isNaN_int.f a1).bind fun t236 => (if t235 = true then (if t236 = true then (some 0) else (some (-1))) else (if t236 = true then (some 1) else (if a0 < a1 then (some (-1)) else (if a0 > a1 then (some 1) else (some 0))))))
set_option maxHeartbeats 8000000 in
set_option maxRecDepth 100000 in
theorem cmp_Compare_int.calls (a0 : Int) (a1 : Int) (r : Int) (w : World) (h : cmp_Compare_int.f a0 a1 = some r) :
  Calls Try.prog 92 #[.int .i64 a0, .int .i64 a1] w fun e w' => e = .returned (.int .i64 r) ∧ Drawn0 w w' := by
 have H : ((cmp_isNaN_int.f a0).bind fun t235 => ((cmp_isNaN_int.f a1).bind fun t236 => (if t235 = true then (if t236 = true then (some 0) else (some (-1))) else (if t236 = true then (some 1) else (if a0 < a1 then (some (-1)) else (if a0 > a1 then (some 1) else (some 0))))))) = some r := h
 clear h
 replace H := Option.bind_eq_some_iff.mp H
 obtain ⟨t235, A30, H⟩ := H
 replace H : ((cmp_isNaN_int.f a1).bind fun t236 => (if t235 = true then (if t236 = true then (some 0) else (some (-1))) else (if t236 = true then (some 1) else (if a0 < a1 then (some (-1)) else (if a0 > a1 then (some 1) else (some 0)))))) = some r := H
 have A3 := zA A30
 clear A30
 replace H := Option.bind_eq_some_iff.mp H
 obtain ⟨t236, A40, H⟩ := H
 replace H : (if t235 = true then (if t236 = true then (some 0) else (some (-1))) else (if t236 = true then (some 1) else (if a0 < a1 then (some (-1)) else (if a0 > a1 then (some 1) else (some 0))))) = some r := H
 have A4 := zA A40
 clear A40
 by_cases c5 : t235 = true
 ·
  subst c5
  have H1 : (if t236 = true then (some 0) else (some (-1))) = some r := by rw [if_pos rfl] at H; exact H
  clear H; have H := H1; clear H1
  by_cases c6 : t236 = true
  ·
   subst c6
   have H1 : (some 0) = some r := by rw [if_pos rfl] at H; exact H
   clear H; have H := H1; clear H1
   obtain rfl := Option.some.inj H
   go_enter Try.func92, Try.ntmps92
   go_wp2_with (first | ((with_reducible refine gate_callee (f := 108) rfl ?_); refine goesL_ (some 8) rfl rfl Try.func108 (by kernel_rfl) rfl #[.int .i64 a0] rfl zqE ?_; (with_reducible refine (cmp_isNaN_int.calls a0 true _ A3.out).mono ?_); rintro e w' ⟨rfl, ⟨nd, rfl⟩⟩; refine ⟨_, rfl, ?_⟩) | ((with_reducible refine gate_callee (f := 108) rfl ?_); refine goesL_ (some 10) rfl rfl Try.func108 (by kernel_rfl) rfl #[.int .i64 a1] rfl zqE ?_; (with_reducible refine (cmp_isNaN_int.calls a1 true _ A4.out).mono ?_); rintro e w' ⟨rfl, ⟨nd, rfl⟩⟩; refine ⟨_, rfl, ?_⟩))
   go_ret
   exact ⟨by first | rfl | (simp; done) | (simp [*]; done), by repeat (first | exact Drawn0.refl _ | apply Drawn0.step)⟩
  ·
   replace c6 := Bool.eq_false_iff.mpr c6
   subst c6
   have H1 : (some (-1)) = some r := by rw [if_neg (show ¬ (false = true) by decide)] at H; exact H
   clear H; have H := H1; clear H1
   obtain rfl := Option.some.inj H
   go_enter Try.func92, Try.ntmps92
   go_wp2_with (first | ((with_reducible refine gate_callee (f := 108) rfl ?_); refine goesL_ (some 8) rfl rfl Try.func108 (by kernel_rfl) rfl #[.int .i64 a0] rfl zqE ?_; (with_reducible refine (cmp_isNaN_int.calls a0 true _ A3.out).mono ?_); rintro e w' ⟨rfl, ⟨nd, rfl⟩⟩; refine ⟨_, rfl, ?_⟩) | ((with_reducible refine gate_callee (f := 108) rfl ?_); refine goesL_ (some 10) rfl rfl Try.func108 (by kernel_rfl) rfl #[.int .i64 a1] rfl zqE ?_; (with_reducible refine (cmp_isNaN_int.calls a1 false _ A4.out).mono ?_); rintro e w' ⟨rfl, ⟨nd, rfl⟩⟩; refine ⟨_, rfl, ?_⟩))
   go_ret
   exact ⟨by first | rfl | (simp; done) | (simp [*]; done), by repeat (first | exact Drawn0.refl _ | apply Drawn0.step)⟩
 ·
  replace c5 := Bool.eq_false_iff.mpr c5
  subst c5
  have H1 : (if t236 = true then (some 1) else (if a0 < a1 then (some (-1)) else (if a0 > a1 then (some 1) else (some 0)))) = some r := by rw [if_neg (show ¬ (false = true) by decide)] at H; exact H
  clear H; have H := H1; clear H1
  by_cases c7 : t236 = true
  ·
   subst c7
   have H1 : (some 1) = some r := by rw [if_pos rfl] at H; exact H
   clear H; have H := H1; clear H1
   obtain rfl := Option.some.inj H
   go_enter Try.func92, Try.ntmps92
   go_wp2_with (first | ((with_reducible refine gate_callee (f := 108) rfl ?_); refine goesL_ (some 8) rfl rfl Try.func108 (by kernel_rfl) rfl #[.int .i64 a0] rfl zqE ?_; (with_reducible refine (cmp_isNaN_int.calls a0 false _ A3.out).mono ?_); rintro e w' ⟨rfl, ⟨nd, rfl⟩⟩; refine ⟨_, rfl, ?_⟩) | ((with_reducible refine gate_callee (f := 108) rfl ?_); refine goesL_ (some 10) rfl rfl Try.func108 (by kernel_rfl) rfl #[.int .i64 a1] rfl zqE ?_; (with_reducible refine (cmp_isNaN_int.calls a1 true _ A4.out).mono ?_); rintro e w' ⟨rfl, ⟨nd, rfl⟩⟩; refine ⟨_, rfl, ?_⟩))
   go_ret
   exact ⟨by first | rfl | (simp; done) | (simp [*]; done), by repeat (first | exact Drawn0.refl _ | apply Drawn0.step)⟩
  ·
   replace c7 := Bool.eq_false_iff.mpr c7
   subst c7
   have H1 : (if a0 < a1 then (some (-1)) else (if a0 > a1 then (some 1) else (some 0))) = some r := by rw [if_neg (show ¬ (false = true) by decide)] at H; exact H
   clear H; have H := H1; clear H1
   by_cases c8 : a0 < a1
   ·
    rw [if_pos c8] at H
    have c8b0 : decide (a0 < a1) = true := decide_eq_true c8
    clear c8
    obtain rfl := Option.some.inj H
    go_enter Try.func92, Try.ntmps92
    go_wp2_with (first | ((with_reducible refine gate_callee (f := 108) rfl ?_); refine goesL_ (some 8) rfl rfl Try.func108 (by kernel_rfl) rfl #[.int .i64 a0] rfl zqE ?_; (with_reducible refine (cmp_isNaN_int.calls a0 false _ A3.out).mono ?_); rintro e w' ⟨rfl, ⟨nd, rfl⟩⟩; refine ⟨_, rfl, ?_⟩) | ((with_reducible refine gate_callee (f := 108) rfl ?_); refine goesL_ (some 10) rfl rfl Try.func108 (by kernel_rfl) rfl #[.int .i64 a1] rfl zqE ?_; (with_reducible refine (cmp_isNaN_int.calls a1 false _ A4.out).mono ?_); rintro e w' ⟨rfl, ⟨nd, rfl⟩⟩; refine ⟨_, rfl, ?_⟩))
    go_ret
    exact ⟨by first | rfl | (simp; done) | (simp [*]; done), by repeat (first | exact Drawn0.refl _ | apply Drawn0.step)⟩
   ·
    rw [if_neg c8] at H
    have c8b0 : decide (a0 < a1) = false := decide_eq_false c8
    clear c8
    by_cases c9 : a0 > a1
    ·
     rw [if_pos c9] at H
     have c9b0 : decide (a1 < a0) = true := decide_eq_true c9
     clear c9
     obtain rfl := Option.some.inj H
     go_enter Try.func92, Try.ntmps92
     go_wp2_with (first | ((with_reducible refine gate_callee (f := 108) rfl ?_); refine goesL_ (some 8) rfl rfl Try.func108 (by kernel_rfl) rfl #[.int .i64 a0] rfl zqE ?_; (with_reducible refine (cmp_isNaN_int.calls a0 false _ A3.out).mono ?_); rintro e w' ⟨rfl, ⟨nd, rfl⟩⟩; refine ⟨_, rfl, ?_⟩) | ((with_reducible refine gate_callee (f := 108) rfl ?_); refine goesL_ (some 10) rfl rfl Try.func108 (by kernel_rfl) rfl #[.int .i64 a1] rfl zqE ?_; (with_reducible refine (cmp_isNaN_int.calls a1 false _ A4.out).mono ?_); rintro e w' ⟨rfl, ⟨nd, rfl⟩⟩; refine ⟨_, rfl, ?_⟩))
     go_ret
     exact ⟨by first | rfl | (simp; done) | (simp [*]; done), by repeat (first | exact Drawn0.refl _ | apply Drawn0.step)⟩
    ·
     rw [if_neg c9] at H
     have c9b0 : decide (a1 < a0) = false := decide_eq_false c9
     clear c9
     obtain rfl := Option.some.inj H
     go_enter Try.func92, Try.ntmps92
     go_wp2_with (first | ((with_reducible refine gate_callee (f := 108) rfl ?_); refine goesL_ (some 8) rfl rfl Try.func108 (by kernel_rfl) rfl #[.int .i64 a0] rfl zqE ?_; (with_reducible refine (cmp_isNaN_int.calls a0 false _ A3.out).mono ?_); rintro e w' ⟨rfl, ⟨nd, rfl⟩⟩; refine ⟨_, rfl, ?_⟩) | ((with_reducible refine gate_callee (f := 108) rfl ?_); refine goesL_ (some 10) rfl rfl Try.func108 (by kernel_rfl) rfl #[.int .i64 a1] rfl zqE ?_; (with_reducible refine (cmp_isNaN_int.calls a1 false _ A4.out).mono ?_); rintro e w' ⟨rfl, ⟨nd, rfl⟩⟩; refine ⟨_, rfl, ?_⟩))
     go_ret
     exact ⟨by first | rfl | (simp; done) | (simp [*]; done), by repeat (first | exact Drawn0.refl _ | apply Drawn0.step)⟩
def edit_place_compare.f (k : Nat) (a0_0 : Int) (a0_1 : Int) (a1_0 : Int) (a1_1 : Int) : Option (Int) := (cmp_Compare_int.f a0_0 a1_0).bind fun t239 => ((cmp_Compare_int.f a0_1 a1_1).bind fun t240 => ((cmp_Or_int.f k (([t239, t240] : List Int))).bind fun t244 => (some t244)))
def edit_place_compare.T1 : Bool × List (List Nat × List Nat) := (true, [([], []), ([0], [0]), ([], []), ([2], [2]), ([1, 3], [1, 3]), ([], []), ([5], [5]), ([], []), ([7], [7]), ([6, 8, 4], [6, 8]), ([4, 9], [4, 9]), ([10, 9], [10]), ([11, 11, 0, 1, 2, 3, 4, 5, 6, 7, 8, 9, 10, 11], [11])])
def edit_place_compare.B1 : List Nat := [0, 1, 0, 4, 15, 0, 32, 0, 128, 511, 1023, 2047, 4095]
theorem edit_place_compare.tab1 : rtab .any (opsOf Try.f53 1) = edit_place_compare.T1 := by kernel_rfl
theorem edit_place_compare.bits1 : waitsOk edit_place_compare.T1.2 edit_place_compare.B1 = true := by kernel_rfl
set_option maxHeartbeats 8000000 in
set_option maxRecDepth 100000 in
theorem edit_place_compare.calls (k : Nat) (a0_0 : Int) (a0_1 : Int) (a1_0 : Int) (a1_1 : Int) (r : Int) (w : World) (h : edit_place_compare.f k a0_0 a0_1 a1_0 a1_1 = some r) :
  Calls Try.prog 53 #[.agg #[.int .i64 a0_0, .int .i64 a0_1], .agg #[.int .i64 a1_0, .int .i64 a1_1]] w fun e w' => e = .returned (.int .i64 r) ∧ Below w.heap.size w w' := by
 have hu106 := Try.underlying106
 have HB := zA (Below.refl w.heap.size w)
 have H : ((cmp_Compare_int.f a0_0 a1_0).bind fun t239 => ((cmp_Compare_int.f a0_1 a1_1).bind fun t240 => ((cmp_Or_int.f k (([t239, t240] : List Int))).bind fun t244 => (some t244)))) = some r := h
 clear h
 replace H := Option.bind_eq_some_iff.mp H
 obtain ⟨t239, A30, H⟩ := H
 replace H : ((cmp_Compare_int.f a0_1 a1_1).bind fun t240 => ((cmp_Or_int.f k (([t239, t240] : List Int))).bind fun t244 => (some t244))) = some r := H
 have A3 := zA A30
 clear A30
 replace H := Option.bind_eq_some_iff.mp H
 obtain ⟨t240, A40, H⟩ := H
 replace H : ((cmp_Or_int.f k (([t239, t240] : List Int))).bind fun t244 => (some t244)) = some r := H
 have A4 := zA A40
 clear A40
 obtain ⟨y241, af⟩ : ∃ y_ : List Int, y_ = (([t239, t240] : List Int)) := ⟨_, rfl⟩
 replace H : ((cmp_Or_int.f k y241).bind fun t244 => (some t244)) = some r := zqF af H
 have ai := zA af
 clear af
 replace H := Option.bind_eq_some_iff.mp H
 obtain ⟨t244, A50, H⟩ := H
 replace H : (some t244) = some r := H
 have A5 := zA A50
 clear A50
 obtain rfl := Option.some.inj H
 go_enter Try.func53, Try.ntmps53
 try go_wp2_with (first | ((with_reducible refine gate_dst (N := 2) rfl ?_); refine box_event ?hg (N := 2) ?hd (cs := #[.int .i64 a0_0, .int .i64 a0_1]) (t := 106) ?hr ?_; (case hd => rfl); (case hg => rfl); (case hr => first | (go_simp; done) | (go_simp; rfl)); intro ac hg w6 hbox hb; have aa := zA (hbox); have GW237 := zA ((by rw [hg]; exact (below_size (zqA HB.out)) : w.heap.size ≤ ac)); have ae := zA ((by rw [hg]; exact (below_size (zqA HB.out)) : w.heap.size ≤ ac)); replace HB := zA (below_step (zqA HB.out) hb); clear hb hbox hg) | ((with_reducible refine gate_dst (N := 3) rfl ?_); refine box_event ?hg (N := 3) ?hd (cs := #[.int .i64 a1_0, .int .i64 a1_1]) (t := 106) ?hr ?_; (case hd => rfl); (case hg => rfl); (case hr => first | (go_simp; done) | (go_simp; rfl)); intro ad hg w7 hbox hb; have ab := zA (hbox); have GW238 := zA ((by rw [hg]; exact (below_size (zqG HB.out ae.out)) : w.heap.size ≤ ad)); have ag := zA ((by rw [hg]; exact (below_size (zqG HB.out ae.out)) : w.heap.size ≤ ad)); replace HB := zA (below_step (zqG HB.out ae.out) hb); have NB237_238 := zA ((by rw [hg]; exact Nat.ne_of_lt (blk_lt (g := ac) (o := .cells #[.int .i64 a0_0, .int .i64 a0_1] 106 (0, 0)) (zqB aa.out)) : ac ≠ ad)); have NB238_237 := zA ((by rw [hg]; exact Nat.ne_of_gt (blk_lt (g := ac) (o := .cells #[.int .i64 a0_0, .int .i64 a0_1] 106 (0, 0)) (zqB aa.out)) : ad ≠ ac)); replace aa := zA (blk_below (g := ac) (o := .cells #[.int .i64 a0_0, .int .i64 a0_1] 106 (0, 0)) (zqB aa.out) hb); clear hb hbox hg))
 replace aa := zA (blk_drew aa.out)
 replace ab := zA (blk_drew ab.out)
 replace HB := zA (below_drew1 HB.out)
 refine start_ (n := 13) (S := fun w' => w'.cell? ⟨ac, 0, none⟩ = some (.int .i64 a0_0) ∧ w'.cell? ⟨ac, 1, none⟩ = some (.int .i64 a0_1) ∧ w'.cell? ⟨ad, 0, none⟩ = some (.int .i64 a1_0) ∧ w'.cell? ⟨ad, 1, none⟩ = some (.int .i64 a1_1)) (ds := []) #[false, false, false, false, false, false, false, false, false, false, false, false, false] (by kernel_rfl) rfl rfl ⟨(blk_cell aa.out 0).trans rfl, (blk_cell aa.out 1).trans rfl, (blk_cell ab.out 0).trans rfl, (blk_cell ab.out 1).trans rfl⟩ (fun hHeld => ?_); refine with_tabW edit_place_compare.tab1 edit_place_compare.bits1 (fun HT_ HW_ => ?_)
 generalize w7.drew = w8 at aa ab HB hHeld ⊢
 refine pureQ 0 (some 5) HT_ ?_
 refine pureQ 2 (some 7) HT_ ?_
 refine pureQ 5 (some 10) HT_ ?_
 refine pureQ 7 (some 12) HT_ ?_
 refine takeQ (v := ?_) (a' := ?_) 1 (some 6) HT_ HW_ hHeld ?_ ?_ ?_
 rotate_left
 ·
  rintro w' ⟨s0, s1, s2, s3⟩
  go_simp
  with_reducible rfl
 rotate_left
 ·
  exact putQ
 refine takeQ (v := ?_) (a' := ?_) 3 (some 8) HT_ HW_ hHeld ?_ ?_ ?_
 rotate_left
 ·
  rintro w' ⟨s0, s1, s2, s3⟩
  go_simp
  with_reducible rfl
 rotate_left
 ·
  exact putQ
 refine takeQ (v := ?_) (a' := ?_) 6 (some 11) HT_ HW_ hHeld ?_ ?_ ?_
 rotate_left
 ·
  rintro w' ⟨s0, s1, s2, s3⟩
  go_simp
  with_reducible rfl
 rotate_left
 ·
  exact putQ
 refine takeQ (v := ?_) (a' := ?_) 8 (some 13) HT_ HW_ hHeld ?_ ?_ ?_
 rotate_left
 ·
  rintro w' ⟨s0, s1, s2, s3⟩
  go_simp
  with_reducible rfl
 rotate_left
 ·
  exact putQ
 refine one_ (i := 4) (N := some 9) #[true, true, true, true, true, true, true, true, true, false, false, false, false] rfl rfl (one_of HT_.out (by kernel_rfl)) (by decide) (fun K hK => ?_)
 refine goes_ Try.func92 (by kernel_rfl) rfl #[.int .i64 a0_0, .int .i64 a1_0] (by rfl) rfl rfl zqE ?_
 with_reducible refine (cmp_Compare_int.calls a0_0 a1_0 t239 _ A3.out).mono ?_
 rintro e w' ⟨rfl, ⟨nd, rfl⟩⟩
 refine ⟨_, rfl, ?_⟩
 refine hK.out _ _ ⟨(blk_cell aa.out 0).trans rfl, (blk_cell aa.out 1).trans rfl, (blk_cell ab.out 0).trans rfl, (blk_cell ab.out 1).trans rfl⟩ (fun hHeld => ?_)
 clear hK K
 refine normQ ?_
 refine one_ (i := 9) (N := some 14) #[true, true, true, true, true, true, true, true, true, true, false, false, false] rfl rfl (one_of HT_.out (by kernel_rfl)) (by decide) (fun K hK => ?_)
 refine goes_ Try.func92 (by kernel_rfl) rfl #[.int .i64 a0_1, .int .i64 a1_1] (by rfl) rfl rfl zqE ?_
 with_reducible refine (cmp_Compare_int.calls a0_1 a1_1 t240 _ A4.out).mono ?_
 rintro e w' ⟨rfl, ⟨nd, rfl⟩⟩
 refine ⟨_, rfl, ?_⟩
 refine hK.out _ _ ⟨(blk_cell aa.out 0).trans rfl, (blk_cell aa.out 1).trans rfl, (blk_cell ab.out 0).trans rfl, (blk_cell ab.out 1).trans rfl⟩ (fun hHeld => ?_)
 clear hK K
 refine normQ ?_
 refine one_ (i := 10) (N := some 15) #[true, true, true, true, true, true, true, true, true, true, true, false, false] rfl rfl (one_of HT_.out (by kernel_rfl)) (by decide) (fun K hK => ?_)
 refine Kd.R_lit_step (Kd.int .i64) _ 3 ?hg (N := 15) ?hd (xs := ([t239, t240] : List Int)) (inner := [.int .i64 t239, .int .i64 t240]) (ok := fun _ => True) (okp := fun _ => True) ?hr ?hp (fun _ hk => hk) trivial (Below.refl _ _) (Nat.le_refl _) (by simp) ?_; (case hd => rfl); (case hg => rfl); (case hr => first | (go_simp; done) | (go_simp; rfl)); (case hp => exact (Reps.one (show Kd.M (Kd.int .i64) _ _ _ t239 [.int .i64 t239] from rfl) (Reps.one (show Kd.M (Kd.int .i64) _ _ _ t240 [.int .i64 t240] from rfl) (Reps.none _ _))))
 intro v242 w9 ho10 hb hg_ hnew_
 clear hg_ hnew_
 (first | rw [← ai.out] at ho10 | (simp only [Int.reduceToNat] at ho10; rw [← ai.out] at ho10))
 have ah := zA (Kd.R_lower ho10 (below_size (zqH HB.out ae.out ag.out)))
 replace aa := zA (blk_below (g := ac) (o := .cells #[.int .i64 a0_0, .int .i64 a0_1] 106 (0, 0)) (zqB aa.out) hb)
 replace ab := zA (blk_below (g := ad) (o := .cells #[.int .i64 a1_0, .int .i64 a1_1] 106 (0, 0)) (zqB ab.out) hb)
 replace HB := zA (below_step (zqH HB.out ae.out ag.out) hb)
 clear hb ho10
 obtain ⟨Ao11, co11, eo11⟩ := Kd.R_slice ah.out
 (first | subst eo11 | (injection eo11 with f1_ f2_ f3_; have f4_ := f1_.symm; have f5_ := f3_.symm; clear f1_ f2_ f3_; subst f4_; subst f5_))
 refine hK.out _ _ ⟨(blk_cell aa.out 0).trans rfl, (blk_cell aa.out 1).trans rfl, (blk_cell ab.out 0).trans rfl, (blk_cell ab.out 1).trans rfl⟩ (fun hHeld => ?_)
 clear hK K
 refine normQ ?_
 refine one_ (i := 11) (N := some 16) #[true, true, true, true, true, true, true, true, true, true, true, true, false] rfl rfl (one_of HT_.out (by kernel_rfl)) (by decide) (fun K hK => ?_)
 refine goes_ Try.func91 (by kernel_rfl) rfl #[.slice Ao11 y241.length co11] (by rfl) rfl rfl zqE ?_
 with_reducible refine (cmp_Or_int.calls k _ _ y241 t244 _ ?side1 ?side2 A5.out).mono ?_
 (case side1 => exact zqK (Kd.R_reads' ah.out).2.2)
 (case side2 => exact (Kd.R_reads' ah.out).2.1)
 rintro e w' ⟨rfl, ⟨nd, rfl⟩⟩
 refine ⟨_, rfl, ?_⟩
 refine hK.out _ _ ⟨(blk_cell aa.out 0).trans rfl, (blk_cell aa.out 1).trans rfl, (blk_cell ab.out 0).trans rfl, (blk_cell ab.out 1).trans rfl⟩ (fun hHeld => ?_)
 clear hK K
 refine normQ ?_
 refine pureQ 12 (some 4) HT_ ?_
 refine done_ (done_of HT_.out (by kernel_rfl)) ?_
 try go_wp2
 go_ret
 exact ⟨zqR, zqH HB.out ae.out ag.out⟩
def edit_between.f (a0 : Int) (a1 : Int) (a2 : Int) : Option (Bool) := if a0 ≤ a1 then (some (decide (a1 ≤ a2))) else (some false)
set_option maxHeartbeats 8000000 in
set_option maxRecDepth 100000 in
theorem edit_between.calls (a0 : Int) (a1 : Int) (a2 : Int) (r : Bool) (w : World) (h : edit_between.f a0 a1 a2 = some r) :
    Calls Try.prog 70 #[.int .i64 a0, .int .i64 a1, .int .i64 a2] w fun e w' => e = .returned (.bool r) ∧ Drawn0 w w' := by
  have H : (if a0 ≤ a1 then (some (decide (a1 ≤ a2))) else (some false)) = some r := h
  clear h
  by_cases c4 : a0 ≤ a1
  · rw [if_pos c4] at H
    have c4b0 : decide (a0 ≤ a1) = true := decide_eq_true c4
    clear c4
    obtain rfl := Option.some.inj H
    go_enter Try.func70, Try.ntmps70
    go_wp2
    go_ret
    exact ⟨by first | rfl | (simp; done) | (simp [*]; done), by repeat (first | exact Drawn0.refl _ | apply Drawn0.step)⟩
  · rw [if_neg c4] at H
    have c4b0 : decide (a0 ≤ a1) = false := decide_eq_false c4
    clear c4
    obtain rfl := Option.some.inj H
    go_enter Try.func70, Try.ntmps70
    go_wp2
    go_ret
    exact ⟨by first | rfl | (simp; done) | (simp [*]; done), by repeat (first | exact Drawn0.refl _ | apply Drawn0.step)⟩
def edit_Note_good.f (a0_0 : Int) (a0_1 : Int) (a0_2 : Int) : Option (Bool) := (edit_between.f 0 a0_0 1000000).bind fun t246 => (if t246 = true then ((edit_between.f 0 a0_1 87).bind fun t247 => (if t247 = true then ((edit_between.f 1 a0_2 1000).bind fun t248 => (some t248)) else (some false))) else (some false))
set_option maxHeartbeats 8000000 in
set_option maxRecDepth 100000 in
theorem edit_Note_good.calls (a0_0 : Int) (a0_1 : Int) (a0_2 : Int) (r : Bool) (w : World) (h : edit_Note_good.f a0_0 a0_1 a0_2 = some r) :
  Calls Try.prog 54 #[.agg #[.int .i64 a0_0, .int .i64 a0_1, .int .i64 a0_2]] w fun e w' => e = .returned (.bool r) ∧ Below w.heap.size w w' := by
 have hu61 := Try.underlying61
 have HB := zA (Below.refl w.heap.size w)
 have H : ((edit_between.f 0 a0_0 1000000).bind fun t246 => (if t246 = true then ((edit_between.f 0 a0_1 87).bind fun t247 => (if t247 = true then ((edit_between.f 1 a0_2 1000).bind fun t248 => (some t248)) else (some false))) else (some false))) = some r := h
 clear h
 replace H := Option.bind_eq_some_iff.mp H
 obtain ⟨t246, A20, H⟩ := H
 replace H : (if t246 = true then ((edit_between.f 0 a0_1 87).bind fun t247 => (if t247 = true then ((edit_between.f 1 a0_2 1000).bind fun t248 => (some t248)) else (some false))) else (some false)) = some r := H
 have A2 := zA A20
 clear A20
 by_cases c3 : t246 = true
 ·
  subst c3
  have H1 : ((edit_between.f 0 a0_1 87).bind fun t247 => (if t247 = true then ((edit_between.f 1 a0_2 1000).bind fun t248 => (some t248)) else (some false))) = some r := by rw [if_pos rfl] at H; exact H
  clear H; have H := H1; clear H1
  replace H := Option.bind_eq_some_iff.mp H
  obtain ⟨t247, A40, H⟩ := H
  replace H : (if t247 = true then ((edit_between.f 1 a0_2 1000).bind fun t248 => (some t248)) else (some false)) = some r := H
  have A4 := zA A40
  clear A40
  by_cases c5 : t247 = true
  ·
   subst c5
   have H1 : ((edit_between.f 1 a0_2 1000).bind fun t248 => (some t248)) = some r := by rw [if_pos rfl] at H; exact H
   clear H; have H := H1; clear H1
   replace H := Option.bind_eq_some_iff.mp H
   obtain ⟨t248, A60, H⟩ := H
   replace H : (some t248) = some r := H
   have A6 := zA A60
   clear A60
   obtain rfl := Option.some.inj H
   go_enter Try.func54, Try.ntmps54
   go_wp2_with (first | ((with_reducible refine gate_dst (N := 1) rfl ?_); refine box_event ?hg (N := 1) ?hd (cs := #[.int .i64 a0_0, .int .i64 a0_1, .int .i64 a0_2]) (t := 61) ?hr ?_; (case hd => rfl); (case hg => rfl); (case hr => first | (go_simp; done) | (go_simp; rfl)); intro ab hg w7 hbox hb; have aa := zA (hbox); have ad := zA ((by rw [hg]; exact (below_size (zqA HB.out)) : w.heap.size ≤ ab)); have ac := zA ((by rw [hg]; exact (below_size (zqA HB.out)) : w.heap.size ≤ ab)); replace HB := zA (below_step (zqA HB.out) hb); clear hb hbox hg; have hcz8_0 : w7.cell? ⟨ab, 0, none⟩ = some (.int .i64 a0_0) := (blk_cell aa.out 0).trans rfl; have hcz8_1 : w7.cell? ⟨ab, 1, none⟩ = some (.int .i64 a0_1) := (blk_cell aa.out 1).trans rfl; have hcz8_2 : w7.cell? ⟨ab, 2, none⟩ = some (.int .i64 a0_2) := (blk_cell aa.out 2).trans rfl; have hfz8_0 := blk_frozen aa.out 0; have hfz8_1 := blk_frozen aa.out 1; have hfz8_2 := blk_frozen aa.out 2) | ((with_reducible refine gate_callee (f := 70) rfl ?_); refine goesL_ (some 5) rfl rfl Try.func70 (by kernel_rfl) rfl #[.int .i64 0, .int .i64 a0_0, .int .i64 1000000] rfl zqE ?_; (with_reducible refine (edit_between.calls 0 a0_0 1000000 true _ A2.out).mono ?_); rintro e w' ⟨rfl, ⟨nd, rfl⟩⟩; refine ⟨_, rfl, ?_⟩) | (go_at_call 70; (with_reducible refine (edit_between.calls 0 a0_1 87 true _ A4.out).mono ?_); rintro e w' ⟨rfl, ⟨nd, rfl⟩⟩) | (go_at_call 70; (with_reducible refine (edit_between.calls 1 a0_2 1000 t248 _ A6.out).mono ?_); rintro e w' ⟨rfl, ⟨nd, rfl⟩⟩))
   go_ret
   exact ⟨zqR, zqG HB.out ac.out⟩
  ·
   replace c5 := Bool.eq_false_iff.mpr c5
   subst c5
   have H1 : (some false) = some r := by rw [if_neg (show ¬ (false = true) by decide)] at H; exact H
   clear H; have H := H1; clear H1
   obtain rfl := Option.some.inj H
   go_enter Try.func54, Try.ntmps54
   go_wp2_with (first | ((with_reducible refine gate_dst (N := 1) rfl ?_); refine box_event ?hg (N := 1) ?hd (cs := #[.int .i64 a0_0, .int .i64 a0_1, .int .i64 a0_2]) (t := 61) ?hr ?_; (case hd => rfl); (case hg => rfl); (case hr => first | (go_simp; done) | (go_simp; rfl)); intro ab hg w9 hbox hb; have aa := zA (hbox); have ad := zA ((by rw [hg]; exact (below_size (zqA HB.out)) : w.heap.size ≤ ab)); have ac := zA ((by rw [hg]; exact (below_size (zqA HB.out)) : w.heap.size ≤ ab)); replace HB := zA (below_step (zqA HB.out) hb); clear hb hbox hg; have hcz10_0 : w9.cell? ⟨ab, 0, none⟩ = some (.int .i64 a0_0) := (blk_cell aa.out 0).trans rfl; have hcz10_1 : w9.cell? ⟨ab, 1, none⟩ = some (.int .i64 a0_1) := (blk_cell aa.out 1).trans rfl; have hcz10_2 : w9.cell? ⟨ab, 2, none⟩ = some (.int .i64 a0_2) := (blk_cell aa.out 2).trans rfl; have hfz10_0 := blk_frozen aa.out 0; have hfz10_1 := blk_frozen aa.out 1; have hfz10_2 := blk_frozen aa.out 2) | ((with_reducible refine gate_callee (f := 70) rfl ?_); refine goesL_ (some 5) rfl rfl Try.func70 (by kernel_rfl) rfl #[.int .i64 0, .int .i64 a0_0, .int .i64 1000000] rfl zqE ?_; (with_reducible refine (edit_between.calls 0 a0_0 1000000 true _ A2.out).mono ?_); rintro e w' ⟨rfl, ⟨nd, rfl⟩⟩; refine ⟨_, rfl, ?_⟩) | (go_at_call 70; (with_reducible refine (edit_between.calls 0 a0_1 87 false _ A4.out).mono ?_); rintro e w' ⟨rfl, ⟨nd, rfl⟩⟩))
   go_ret
   exact ⟨zqR, zqG HB.out ac.out⟩
 ·
  replace c3 := Bool.eq_false_iff.mpr c3
  subst c3
  have H1 : (some false) = some r := by rw [if_neg (show ¬ (false = true) by decide)] at H; exact H
  clear H; have H := H1; clear H1
  obtain rfl := Option.some.inj H
  go_enter Try.func54, Try.ntmps54
  go_wp2_with (first | ((with_reducible refine gate_dst (N := 1) rfl ?_); refine box_event ?hg (N := 1) ?hd (cs := #[.int .i64 a0_0, .int .i64 a0_1, .int .i64 a0_2]) (t := 61) ?hr ?_; (case hd => rfl); (case hg => rfl); (case hr => first | (go_simp; done) | (go_simp; rfl)); intro ab hg w11 hbox hb; have aa := zA (hbox); have ad := zA ((by rw [hg]; exact (below_size (zqA HB.out)) : w.heap.size ≤ ab)); have ac := zA ((by rw [hg]; exact (below_size (zqA HB.out)) : w.heap.size ≤ ab)); replace HB := zA (below_step (zqA HB.out) hb); clear hb hbox hg; have hcz12_0 : w11.cell? ⟨ab, 0, none⟩ = some (.int .i64 a0_0) := (blk_cell aa.out 0).trans rfl; have hcz12_1 : w11.cell? ⟨ab, 1, none⟩ = some (.int .i64 a0_1) := (blk_cell aa.out 1).trans rfl; have hcz12_2 : w11.cell? ⟨ab, 2, none⟩ = some (.int .i64 a0_2) := (blk_cell aa.out 2).trans rfl; have hfz12_0 := blk_frozen aa.out 0; have hfz12_1 := blk_frozen aa.out 1; have hfz12_2 := blk_frozen aa.out 2) | ((with_reducible refine gate_callee (f := 70) rfl ?_); refine goesL_ (some 5) rfl rfl Try.func70 (by kernel_rfl) rfl #[.int .i64 0, .int .i64 a0_0, .int .i64 1000000] rfl zqE ?_; (with_reducible refine (edit_between.calls 0 a0_0 1000000 false _ A2.out).mono ?_); rintro e w' ⟨rfl, ⟨nd, rfl⟩⟩; refine ⟨_, rfl, ?_⟩))
  go_ret
  exact ⟨zqR, zqG HB.out ac.out⟩
def edit_Check.l0 : Nat → List (S61) → Int → Int → Int → Int → Option (Int)
  | 0, _, _, _, _, _ => none
  | k + 1, x11, x12, x13, x250000, x250001 => if x13 < x12 then (if 0 ≤ x13 then (if x13 < (x11.length : Int) then ((edit_Note_place.f ((rd_T61 x11 x13).f0) ((rd_T61 x11 x13).f1) ((rd_T61 x11 x13).f2)).bind fun bt252 => ((edit_place_compare.f k bt252.1 bt252.2 x250000 x250001).bind fun t254 => ((edit_Note_good.f ((rd_T61 x11 x13).f0) ((rd_T61 x11 x13).f1) ((rd_T61 x11 x13).f2)).bind fun t255 => (if t255 = true then (if t254 = 0 then (some 9) else (if t254 < 0 then (some 7) else ((edit_Note_place.f ((rd_T61 x11 x13).f0) ((rd_T61 x11 x13).f1) ((rd_T61 x11 x13).f2)).bind fun bt256 => (edit_Check.l0 k x11 x12 (wrap64 (x13 + 1)) bt256.1 bt256.2)))) else (some 3))))) else (none)) else (none)) else (some 0)
def edit_Check.f (k : Nat) (l0 : List (S61)) : Option (Int) := if (l0.length : Int) > 30 then (some 5) else (edit_Check.l0 k l0 (l0.length : Int) 0 (-1) 0)
set_option maxHeartbeats 8000000 in
set_option maxRecDepth 100000 in
theorem edit_Check.calls (k : Nat) (A0 : Option Addr) (c0 : Nat) (l0 : List (S61)) (r : Int) (w : World) (ak : Kd.C k61 w A0 l0.length l0) (hc0 : l0.length ≤ c0) (h : edit_Check.f k l0 = some r) :
  Calls Try.prog 19 #[.slice A0 l0.length c0] w fun e w' => e = .returned (.int .i64 r) ∧ Below w.heap.size w w' := by
 have hu106 := Try.underlying106
 have hu61 := Try.underlying61
 have ai := zA ak
 have HC0 := zA hc0
 clear ak hc0
 have HB := zA (Below.refl w.heap.size w)
 have H : (if (l0.length : Int) > 30 then (some 5) else (edit_Check.l0 k l0 (l0.length : Int) 0 (-1) 0)) = some r := h
 clear h
 by_cases c2 : (l0.length : Int) > 30
 ·
  rw [if_pos c2] at H
  have c2b0 : decide (30 < (l0.length : Int)) = true := decide_eq_true c2
  have c2b1 : decide (30 < l0.length) = true := decide_eq_true (by omega)
  clear c2
  obtain rfl := Option.some.inj H
  go_enter Try.func19, Try.ntmps19
  go_wp2
  go_ret
  exact ⟨zqR, zqA HB.out⟩
 ·
  rw [if_neg c2] at H
  have c2b0 : decide (30 < (l0.length : Int)) = false := decide_eq_false c2
  have c2b1 : decide (30 < l0.length) = false := decide_eq_false (by omega)
  clear c2
  have H' := zA H
  clear H
  go_enter Try.func19, Try.ntmps19
  go_wp2_with (first | ((with_reducible refine gate_dst (N := 3) rfl ?_); refine box_event ?hg (N := 3) ?hd (cs := #[.int .i64 0, .int .i64 0]) (t := 106) ?hr ?_; (case hd => rfl); (case hg => rfl); (case hr => first | (go_simp; done) | (go_simp; rfl)); intro ad hg w3 hbox hb; have ac := zA (hbox); have GW249 := zA ((by rw [hg]; exact (below_size (zqA HB.out)) : w.heap.size ≤ ad)); have ae := zA ((by rw [hg]; exact (below_size (zqA HB.out)) : w.heap.size ≤ ad)); replace HB := zA (below_step (zqA HB.out) hb); clear hb hbox hg; have hcz4_0 : w3.cell? ⟨ad, 0, none⟩ = some (.int .i64 0) := (blk_cell ac.out 0).trans rfl; have hcz4_1 : w3.cell? ⟨ad, 1, none⟩ = some (.int .i64 0) := (blk_cell ac.out 1).trans rfl; have hfz4_0 := blk_frozen ac.out 0; have hfz4_1 := blk_frozen ac.out 1))
  go_loopg [13] k (fun kq v13 w' => ∃ (x13_1 : Int) (x250000_1 : Int) (x250001_1 : Int), v13 = .int .i64 x13_1 ∧ Aside0 (edit_Check.l0 kq l0 (l0.length : Int) x13_1 x250000_1 x250001_1 = some r) ∧ Aside0 (kq ≤ k) ∧ Aside0 (w'.heap[ad]? = some (.cells #[.int .i64 x250000_1, .int .i64 x250001_1] 106 (0, 0))) ∧ Aside0 (Below w.heap.size w w'))
  case atStart => exact ⟨(0), ((-1)), (0), zqQ, H', ⟨Nat.le_refl _⟩, ⟨by (with_reducible repeat (first | refine blk_drewN ?_ _ | refine blk_drew ?_ | refine blk_alloc ?_ _)); refine blk_put (cs := #[.int .i64 (-1), .int .i64 0]) ?_ 1 _ rfl; (with_reducible repeat (first | refine blk_drewN ?_ _ | refine blk_drew ?_ | refine blk_alloc ?_ _)); refine blk_put (cs := #[.int .i64 0, .int .i64 0]) ?_ 0 _ rfl; (with_reducible repeat (first | refine blk_drewN ?_ _ | refine blk_drew ?_ | refine blk_alloc ?_ _)); exact ac.out⟩, ⟨zqG HB.out ae.out⟩⟩
  case round =>
   clear H'
   obtain ⟨x13_1, x250000_1, x250001_1, rfl, HA, HK1, ac, HB⟩ := hrel
   cases gk with
   | zero => exact absurd HA.out (by simp [edit_Check.l0])
   | succ k1 =>
    have H := HA.out
    clear HA
    simp only [edit_Check.l0] at H
    by_cases c5 : x13_1 < (l0.length : Int)
    ·
     rw [if_pos c5] at H
     have c5b0 : decide (x13_1 < (l0.length : Int)) = true := decide_eq_true c5
     clear c5
     by_cases c6 : 0 ≤ x13_1
     ·
      rw [if_pos c6] at H
      have c6b0 : decide (0 ≤ x13_1) = true := decide_eq_true c6
      clear c6
      by_cases c7 : x13_1 < (l0.length : Int)
      ·
       rw [if_pos c7] at H
       have c7b0 : decide (x13_1 < (l0.length : Int)) = true := decide_eq_true c7
       clear c7
       replace H := Option.bind_eq_some_iff.mp H
       obtain ⟨⟨t252, t253⟩, A80, H⟩ := H
       replace H : ((edit_place_compare.f k1 t252 t253 x250000_1 x250001_1).bind fun t254 => ((edit_Note_good.f ((rd_T61 l0 x13_1).f0) ((rd_T61 l0 x13_1).f1) ((rd_T61 l0 x13_1).f2)).bind fun t255 => (if t255 = true then (if t254 = 0 then (some 9) else (if t254 < 0 then (some 7) else ((edit_Note_place.f ((rd_T61 l0 x13_1).f0) ((rd_T61 l0 x13_1).f1) ((rd_T61 l0 x13_1).f2)).bind fun bt256 => (edit_Check.l0 k1 l0 (l0.length : Int) (wrap64 (x13_1 + 1)) bt256.1 bt256.2)))) else (some 3)))) = some r := H
       have A8 := zA A80
       clear A80
       replace H := Option.bind_eq_some_iff.mp H
       obtain ⟨t254, A90, H⟩ := H
       replace H : ((edit_Note_good.f ((rd_T61 l0 x13_1).f0) ((rd_T61 l0 x13_1).f1) ((rd_T61 l0 x13_1).f2)).bind fun t255 => (if t255 = true then (if t254 = 0 then (some 9) else (if t254 < 0 then (some 7) else ((edit_Note_place.f ((rd_T61 l0 x13_1).f0) ((rd_T61 l0 x13_1).f1) ((rd_T61 l0 x13_1).f2)).bind fun bt256 => (edit_Check.l0 k1 l0 (l0.length : Int) (wrap64 (x13_1 + 1)) bt256.1 bt256.2)))) else (some 3))) = some r := H
       have A9 := zA A90
       clear A90
       replace H := Option.bind_eq_some_iff.mp H
       obtain ⟨t255, A100, H⟩ := H
       replace H : (if t255 = true then (if t254 = 0 then (some 9) else (if t254 < 0 then (some 7) else ((edit_Note_place.f ((rd_T61 l0 x13_1).f0) ((rd_T61 l0 x13_1).f1) ((rd_T61 l0 x13_1).f2)).bind fun bt256 => (edit_Check.l0 k1 l0 (l0.length : Int) (wrap64 (x13_1 + 1)) bt256.1 bt256.2)))) else (some 3)) = some r := H
       have A10 := zA A100
       clear A100
       by_cases c11 : t255 = true
       ·
        subst c11
        have H1 : (if t254 = 0 then (some 9) else (if t254 < 0 then (some 7) else ((edit_Note_place.f ((rd_T61 l0 x13_1).f0) ((rd_T61 l0 x13_1).f1) ((rd_T61 l0 x13_1).f2)).bind fun bt256 => (edit_Check.l0 k1 l0 (l0.length : Int) (wrap64 (x13_1 + 1)) bt256.1 bt256.2)))) = some r := by rw [if_pos rfl] at H; exact H
        clear H; have H := H1; clear H1
        by_cases c12 : t254 = 0
        ·
         rw [if_pos c12] at H
         have c12b0 : (t254 == 0) = true := beq_iff_eq.mpr c12
         have c12b1 : (t254 != 0) = false := bne_eq_false_iff_eq.mpr c12
         clear c12
         obtain rfl := Option.some.inj H
         have p250 : 0 ≤ (x13_1 : Int) := of_decide_eq_true (zqD)
         have q250 : x13_1 < (l0.length : Int) := of_decide_eq_true (zqD)
         obtain ⟨ad250, e250, hx250_0, hx250_1, hx250_2⟩ := at_T61 ai.out x13_1 p250 q250
         cases e250
         replace hx250_0 := (HB.out.cell (World.block_lt_of_cell? w _ hx250_0)).trans hx250_0
         replace hx250_1 := (HB.out.cell (World.block_lt_of_cell? w _ hx250_1)).trans hx250_1
         replace hx250_2 := (HB.out.cell (World.block_lt_of_cell? w _ hx250_2)).trans hx250_2
         replace p250 := eq_true p250; replace q250 := eq_true q250
         try go_wp2_with (first | ((with_reducible refine gate_dst (N := 5) rfl ?_); refine box_event ?hg (N := 5) ?hd (cs := #[.int .i64 0, .int .i64 0, .int .i64 0]) (t := 61) ?hr ?_; (case hd => rfl); (case hg => rfl); (case hr => first | (go_simp; done) | (go_simp; rfl)); intro ab hg w13 hbox hb; have aa := zA (hbox); have aj := zA ((by rw [hg]; exact (below_size (zqG HB.out ae.out)) : w.heap.size ≤ ab)); have af := zA ((by rw [hg]; exact (below_size (zqG HB.out ae.out)) : w.heap.size ≤ ab)); replace HB := zA (below_step (zqG HB.out ae.out) hb); have ag := zA ((by rw [hg]; exact Nat.ne_of_lt (blk_lt (g := ad) (o := .cells #[.int .i64 x250000_1, .int .i64 x250001_1] 106 (0, 0)) (zqB ac.out)) : ad ≠ ab)); have ah := zA ((by rw [hg]; exact Nat.ne_of_gt (blk_lt (g := ad) (o := .cells #[.int .i64 x250000_1, .int .i64 x250001_1] 106 (0, 0)) (zqB ac.out)) : ab ≠ ad)); replace ac := zA (blk_below (g := ad) (o := .cells #[.int .i64 x250000_1, .int .i64 x250001_1] 106 (0, 0)) (zqB ac.out) hb); clear hb hbox hg; have hnb14 := ah.out; have hnc14 := ag.out; have hcz15_0 : w13.cell? ⟨ab, 0, none⟩ = some (.int .i64 0) := (blk_cell aa.out 0).trans rfl; have hcz15_1 : w13.cell? ⟨ab, 1, none⟩ = some (.int .i64 0) := (blk_cell aa.out 1).trans rfl; have hcz15_2 : w13.cell? ⟨ab, 2, none⟩ = some (.int .i64 0) := (blk_cell aa.out 2).trans rfl; have hfz15_0 := blk_frozen aa.out 0; have hfz15_1 := blk_frozen aa.out 1; have hfz15_2 := blk_frozen aa.out 2))
         have n0_ : Aside0 ((((w13.setCell ⟨ab, 0, none⟩ (.int .i64 ((rd_T61 l0 x13_1).f0))).setCell ⟨ab, 1, none⟩ (.int .i64 ((rd_T61 l0 x13_1).f1))).setCell ⟨ab, 2, none⟩ (.int .i64 ((rd_T61 l0 x13_1).f2))).heap[ad]? = some (.cells #[.int .i64 x250000_1, .int .i64 x250001_1] 106 (0, 0))) := ⟨by (with_reducible repeat (first | refine blk_drewN ?_ _ | refine blk_drew ?_ | refine blk_alloc ?_ _)); refine blk_far ?_ ag.out _; (with_reducible repeat (first | refine blk_drewN ?_ _ | refine blk_drew ?_ | refine blk_alloc ?_ _)); refine blk_far ?_ ag.out _; (with_reducible repeat (first | refine blk_drewN ?_ _ | refine blk_drew ?_ | refine blk_alloc ?_ _)); refine blk_far ?_ ag.out _; (with_reducible repeat (first | refine blk_drewN ?_ _ | refine blk_drew ?_ | refine blk_alloc ?_ _)); exact ac.out⟩
         have n1_ : Aside0 ((((w13.setCell ⟨ab, 0, none⟩ (.int .i64 ((rd_T61 l0 x13_1).f0))).setCell ⟨ab, 1, none⟩ (.int .i64 ((rd_T61 l0 x13_1).f1))).setCell ⟨ab, 2, none⟩ (.int .i64 ((rd_T61 l0 x13_1).f2))).heap[ab]? = some (.cells #[.int .i64 ((rd_T61 l0 x13_1).f0), .int .i64 ((rd_T61 l0 x13_1).f1), .int .i64 ((rd_T61 l0 x13_1).f2)] 61 (0, 0))) := ⟨by (with_reducible repeat (first | refine blk_drewN ?_ _ | refine blk_drew ?_ | refine blk_alloc ?_ _)); refine blk_put (cs := #[.int .i64 ((rd_T61 l0 x13_1).f0), .int .i64 ((rd_T61 l0 x13_1).f1), .int .i64 0]) ?_ 2 _ rfl; (with_reducible repeat (first | refine blk_drewN ?_ _ | refine blk_drew ?_ | refine blk_alloc ?_ _)); refine blk_put (cs := #[.int .i64 ((rd_T61 l0 x13_1).f0), .int .i64 0, .int .i64 0]) ?_ 1 _ rfl; (with_reducible repeat (first | refine blk_drewN ?_ _ | refine blk_drew ?_ | refine blk_alloc ?_ _)); refine blk_put (cs := #[.int .i64 0, .int .i64 0, .int .i64 0]) ?_ 0 _ rfl; (with_reducible repeat (first | refine blk_drewN ?_ _ | refine blk_drew ?_ | refine blk_alloc ?_ _)); exact aa.out⟩
         have n2_ : Aside0 (Below w.heap.size w (((w13.setCell ⟨ab, 0, none⟩ (.int .i64 ((rd_T61 l0 x13_1).f0))).setCell ⟨ab, 1, none⟩ (.int .i64 ((rd_T61 l0 x13_1).f1))).setCell ⟨ab, 2, none⟩ (.int .i64 ((rd_T61 l0 x13_1).f2)))) := ⟨zqH HB.out ae.out af.out⟩
         generalize (((w13.setCell ⟨ab, 0, none⟩ (.int .i64 ((rd_T61 l0 x13_1).f0))).setCell ⟨ab, 1, none⟩ (.int .i64 ((rd_T61 l0 x13_1).f1))).setCell ⟨ab, 2, none⟩ (.int .i64 ((rd_T61 l0 x13_1).f2))) = w16 at n0_ n1_ n2_ ⊢; have ac := n0_; have aa := n1_; have HB := n2_; clear n0_ n1_ n2_
         replace ac := zA (blk_drew ac.out)
         replace aa := zA (blk_drew aa.out)
         replace HB := zA (below_drew1 HB.out)
         refine start_ (n := 5) (S := fun w' => w'.cell? ⟨ab, 0, none⟩ = some (.int .i64 ((rd_T61 l0 x13_1).f0)) ∧ w'.cell? ⟨ab, 1, none⟩ = some (.int .i64 ((rd_T61 l0 x13_1).f1)) ∧ w'.cell? ⟨ab, 2, none⟩ = some (.int .i64 ((rd_T61 l0 x13_1).f2)) ∧ w'.cell? ⟨ad, 0, none⟩ = some (.int .i64 x250000_1) ∧ w'.cell? ⟨ad, 1, none⟩ = some (.int .i64 x250001_1)) (ds := []) #[false, false, false, false, false] (by kernel_rfl) rfl rfl ⟨(blk_cell aa.out 0).trans rfl, (blk_cell aa.out 1).trans rfl, (blk_cell aa.out 2).trans rfl, (blk_cell ac.out 0).trans rfl, (blk_cell ac.out 1).trans rfl⟩ (fun hHeld => ?_)
         generalize w16.drew = w17 at ac aa HB hHeld ⊢
         refine take_ (i := 0) (N := some 17) (v := ?_) (a' := ?_) #[true, false, false, false, false] rfl rfl (by kernel_rfl) (fun _ _ _ h => h) (Or.inl ⟨by rfl, ?_⟩) hHeld ?_ ?_
         rotate_left
         ·
          rintro w' ⟨s0, s1, s2, s3, s4⟩
          go_simp
          with_reducible rfl
         rotate_left
         ·
          exact putQ
         refine take_ (i := 2) (N := some 19) (v := ?_) (a' := ?_) #[true, false, true, false, false] rfl rfl (by kernel_rfl) (fun _ _ _ h => h) (Or.inl ⟨by rfl, ?_⟩) hHeld ?_ ?_
         rotate_left
         ·
          rintro w' ⟨s0, s1, s2, s3, s4⟩
          go_simp
          with_reducible rfl
         rotate_left
         ·
          exact putQ
         refine one_ (i := 1) (N := some 18) #[true, true, true, false, false] rfl rfl (by kernel_rfl) (by decide) (fun K hK => ?_)
         refine goes_ Try.func52 (by kernel_rfl) rfl #[.agg #[.int .i64 ((rd_T61 l0 x13_1).f0), .int .i64 ((rd_T61 l0 x13_1).f1), .int .i64 ((rd_T61 l0 x13_1).f2)]] (by rfl) rfl rfl zqE ?_
         with_reducible refine (edit_Note_place.calls ((rd_T61 l0 x13_1).f0) ((rd_T61 l0 x13_1).f1) ((rd_T61 l0 x13_1).f2) t252 t253 _ A8.out).mono ?_
         rintro e w18 ⟨rfl, hb⟩
         refine ⟨_, rfl, ?_⟩
         replace ac := zA (blk_below (g := ad) (o := .cells #[.int .i64 x250000_1, .int .i64 x250001_1] 106 (0, 0)) (zqB ac.out) hb)
         replace aa := zA (blk_below (g := ab) (o := .cells #[.int .i64 ((rd_T61 l0 x13_1).f0), .int .i64 ((rd_T61 l0 x13_1).f1), .int .i64 ((rd_T61 l0 x13_1).f2)] 61 (0, 0)) (zqB aa.out) hb)
         replace HB := zA (below_step (zqH HB.out ae.out af.out) hb)
         refine hK.out _ _ ⟨(blk_cell aa.out 0).trans rfl, (blk_cell aa.out 1).trans rfl, (blk_cell aa.out 2).trans rfl, (blk_cell ac.out 0).trans rfl, (blk_cell ac.out 1).trans rfl⟩ (fun hHeld => ?_)
         clear hK K
         refine normQ ?_
         refine one_ (i := 3) (N := some 20) #[true, true, true, true, false] rfl rfl (by kernel_rfl) (by decide) (fun K hK => ?_)
         refine goes_ Try.func53 (by kernel_rfl) rfl #[.agg #[.int .i64 t252, .int .i64 t253], .agg #[.int .i64 x250000_1, .int .i64 x250001_1]] (by rfl) rfl rfl zqE ?_
         with_reducible refine (edit_place_compare.calls k1 t252 t253 x250000_1 x250001_1 t254 _ A9.out).mono ?_
         rintro e w19 ⟨rfl, hb⟩
         refine ⟨_, rfl, ?_⟩
         replace ac := zA (blk_below (g := ad) (o := .cells #[.int .i64 x250000_1, .int .i64 x250001_1] 106 (0, 0)) (zqB ac.out) hb)
         replace aa := zA (blk_below (g := ab) (o := .cells #[.int .i64 ((rd_T61 l0 x13_1).f0), .int .i64 ((rd_T61 l0 x13_1).f1), .int .i64 ((rd_T61 l0 x13_1).f2)] 61 (0, 0)) (zqB aa.out) hb)
         replace HB := zA (below_step (zqH HB.out ae.out af.out) hb)
         refine hK.out _ _ ⟨(blk_cell aa.out 0).trans rfl, (blk_cell aa.out 1).trans rfl, (blk_cell aa.out 2).trans rfl, (blk_cell ac.out 0).trans rfl, (blk_cell ac.out 1).trans rfl⟩ (fun hHeld => ?_)
         clear hK K
         refine normQ ?_
         refine pure_ (i := 4) (N := some 6) (v := ?_) (a' := ?_) #[true, true, true, true, true] rfl rfl (by kernel_rfl) (fun _ _ _ h => h) (Or.inl ⟨by rfl, ?_⟩) ?_ ?_
         rotate_left
         ·
          intro w'
          go_simp
          with_reducible rfl
         rotate_left
         ·
          exact putQ
         refine done_ (by kernel_rfl) ?_
         have hcz20_0 : w19.cell? ⟨ab, 0, none⟩ = some (.int .i64 ((rd_T61 l0 x13_1).f0)) := (blk_cell aa.out 0).trans rfl
         have hcz20_1 : w19.cell? ⟨ab, 1, none⟩ = some (.int .i64 ((rd_T61 l0 x13_1).f1)) := (blk_cell aa.out 1).trans rfl
         have hcz20_2 : w19.cell? ⟨ab, 2, none⟩ = some (.int .i64 ((rd_T61 l0 x13_1).f2)) := (blk_cell aa.out 2).trans rfl
         have hfz20_0 := blk_frozen aa.out 0
         have hfz20_1 := blk_frozen aa.out 1
         have hfz20_2 := blk_frozen aa.out 2
         try go_wp2_with (first | ((with_reducible refine gate_callee (f := 54) rfl ?_); refine goesL_ (some 23) rfl rfl Try.func54 (by kernel_rfl) rfl #[.agg #[.int .i64 ((rd_T61 l0 x13_1).f0), .int .i64 ((rd_T61 l0 x13_1).f1), .int .i64 ((rd_T61 l0 x13_1).f2)]] rfl zqE ?_; (with_reducible refine (edit_Note_good.calls ((rd_T61 l0 x13_1).f0) ((rd_T61 l0 x13_1).f1) ((rd_T61 l0 x13_1).f2) true _ A10.out).mono ?_); rintro e w21 ⟨rfl, hb⟩; refine ⟨_, rfl, ?_⟩; replace ac := zA (blk_below (g := ad) (o := .cells #[.int .i64 x250000_1, .int .i64 x250001_1] 106 (0, 0)) (zqB ac.out) hb); replace aa := zA (blk_below (g := ab) (o := .cells #[.int .i64 ((rd_T61 l0 x13_1).f0), .int .i64 ((rd_T61 l0 x13_1).f1), .int .i64 ((rd_T61 l0 x13_1).f2)] 61 (0, 0)) (zqB aa.out) hb); replace HB := zA (below_step (zqH HB.out ae.out af.out) hb); (try clear hb); (try clear hb2); (try clear hk); (try clear hi)))
         go_ret
         exact ⟨zqR, zqH HB.out ae.out af.out⟩
        ·
         rw [if_neg c12] at H
         have c12b0 : (t254 == 0) = false := beq_eq_false_iff_ne.mpr c12
         have c12b1 : (t254 != 0) = true := bne_iff_ne.mpr c12
         by_cases c22 : t254 < 0
         ·
          rw [if_pos c22] at H
          have c22b0 : decide (t254 < 0) = true := decide_eq_true c22
          clear c22
          obtain rfl := Option.some.inj H
          have p250 : 0 ≤ (x13_1 : Int) := of_decide_eq_true (zqD)
          have q250 : x13_1 < (l0.length : Int) := of_decide_eq_true (zqD)
          obtain ⟨ad250, e250, hx250_0, hx250_1, hx250_2⟩ := at_T61 ai.out x13_1 p250 q250
          cases e250
          replace hx250_0 := (HB.out.cell (World.block_lt_of_cell? w _ hx250_0)).trans hx250_0
          replace hx250_1 := (HB.out.cell (World.block_lt_of_cell? w _ hx250_1)).trans hx250_1
          replace hx250_2 := (HB.out.cell (World.block_lt_of_cell? w _ hx250_2)).trans hx250_2
          replace p250 := eq_true p250; replace q250 := eq_true q250
          try go_wp2_with (first | ((with_reducible refine gate_dst (N := 5) rfl ?_); refine box_event ?hg (N := 5) ?hd (cs := #[.int .i64 0, .int .i64 0, .int .i64 0]) (t := 61) ?hr ?_; (case hd => rfl); (case hg => rfl); (case hr => first | (go_simp; done) | (go_simp; rfl)); intro ab hg w23 hbox hb; have aa := zA (hbox); have aj := zA ((by rw [hg]; exact (below_size (zqG HB.out ae.out)) : w.heap.size ≤ ab)); have af := zA ((by rw [hg]; exact (below_size (zqG HB.out ae.out)) : w.heap.size ≤ ab)); replace HB := zA (below_step (zqG HB.out ae.out) hb); have ag := zA ((by rw [hg]; exact Nat.ne_of_lt (blk_lt (g := ad) (o := .cells #[.int .i64 x250000_1, .int .i64 x250001_1] 106 (0, 0)) (zqB ac.out)) : ad ≠ ab)); have ah := zA ((by rw [hg]; exact Nat.ne_of_gt (blk_lt (g := ad) (o := .cells #[.int .i64 x250000_1, .int .i64 x250001_1] 106 (0, 0)) (zqB ac.out)) : ab ≠ ad)); replace ac := zA (blk_below (g := ad) (o := .cells #[.int .i64 x250000_1, .int .i64 x250001_1] 106 (0, 0)) (zqB ac.out) hb); clear hb hbox hg; have hnb24 := ah.out; have hnc24 := ag.out; have hcz25_0 : w23.cell? ⟨ab, 0, none⟩ = some (.int .i64 0) := (blk_cell aa.out 0).trans rfl; have hcz25_1 : w23.cell? ⟨ab, 1, none⟩ = some (.int .i64 0) := (blk_cell aa.out 1).trans rfl; have hcz25_2 : w23.cell? ⟨ab, 2, none⟩ = some (.int .i64 0) := (blk_cell aa.out 2).trans rfl; have hfz25_0 := blk_frozen aa.out 0; have hfz25_1 := blk_frozen aa.out 1; have hfz25_2 := blk_frozen aa.out 2))
          have n0_ : Aside0 ((((w23.setCell ⟨ab, 0, none⟩ (.int .i64 ((rd_T61 l0 x13_1).f0))).setCell ⟨ab, 1, none⟩ (.int .i64 ((rd_T61 l0 x13_1).f1))).setCell ⟨ab, 2, none⟩ (.int .i64 ((rd_T61 l0 x13_1).f2))).heap[ad]? = some (.cells #[.int .i64 x250000_1, .int .i64 x250001_1] 106 (0, 0))) := ⟨by (with_reducible repeat (first | refine blk_drewN ?_ _ | refine blk_drew ?_ | refine blk_alloc ?_ _)); refine blk_far ?_ ag.out _; (with_reducible repeat (first | refine blk_drewN ?_ _ | refine blk_drew ?_ | refine blk_alloc ?_ _)); refine blk_far ?_ ag.out _; (with_reducible repeat (first | refine blk_drewN ?_ _ | refine blk_drew ?_ | refine blk_alloc ?_ _)); refine blk_far ?_ ag.out _; (with_reducible repeat (first | refine blk_drewN ?_ _ | refine blk_drew ?_ | refine blk_alloc ?_ _)); exact ac.out⟩
          have n1_ : Aside0 ((((w23.setCell ⟨ab, 0, none⟩ (.int .i64 ((rd_T61 l0 x13_1).f0))).setCell ⟨ab, 1, none⟩ (.int .i64 ((rd_T61 l0 x13_1).f1))).setCell ⟨ab, 2, none⟩ (.int .i64 ((rd_T61 l0 x13_1).f2))).heap[ab]? = some (.cells #[.int .i64 ((rd_T61 l0 x13_1).f0), .int .i64 ((rd_T61 l0 x13_1).f1), .int .i64 ((rd_T61 l0 x13_1).f2)] 61 (0, 0))) := ⟨by (with_reducible repeat (first | refine blk_drewN ?_ _ | refine blk_drew ?_ | refine blk_alloc ?_ _)); refine blk_put (cs := #[.int .i64 ((rd_T61 l0 x13_1).f0), .int .i64 ((rd_T61 l0 x13_1).f1), .int .i64 0]) ?_ 2 _ rfl; (with_reducible repeat (first | refine blk_drewN ?_ _ | refine blk_drew ?_ | refine blk_alloc ?_ _)); refine blk_put (cs := #[.int .i64 ((rd_T61 l0 x13_1).f0), .int .i64 0, .int .i64 0]) ?_ 1 _ rfl; (with_reducible repeat (first | refine blk_drewN ?_ _ | refine blk_drew ?_ | refine blk_alloc ?_ _)); refine blk_put (cs := #[.int .i64 0, .int .i64 0, .int .i64 0]) ?_ 0 _ rfl; (with_reducible repeat (first | refine blk_drewN ?_ _ | refine blk_drew ?_ | refine blk_alloc ?_ _)); exact aa.out⟩
          have n2_ : Aside0 (Below w.heap.size w (((w23.setCell ⟨ab, 0, none⟩ (.int .i64 ((rd_T61 l0 x13_1).f0))).setCell ⟨ab, 1, none⟩ (.int .i64 ((rd_T61 l0 x13_1).f1))).setCell ⟨ab, 2, none⟩ (.int .i64 ((rd_T61 l0 x13_1).f2)))) := ⟨zqH HB.out ae.out af.out⟩
          generalize (((w23.setCell ⟨ab, 0, none⟩ (.int .i64 ((rd_T61 l0 x13_1).f0))).setCell ⟨ab, 1, none⟩ (.int .i64 ((rd_T61 l0 x13_1).f1))).setCell ⟨ab, 2, none⟩ (.int .i64 ((rd_T61 l0 x13_1).f2))) = w26 at n0_ n1_ n2_ ⊢; have ac := n0_; have aa := n1_; have HB := n2_; clear n0_ n1_ n2_
          replace ac := zA (blk_drew ac.out)
          replace aa := zA (blk_drew aa.out)
          replace HB := zA (below_drew1 HB.out)
          refine start_ (n := 5) (S := fun w' => w'.cell? ⟨ab, 0, none⟩ = some (.int .i64 ((rd_T61 l0 x13_1).f0)) ∧ w'.cell? ⟨ab, 1, none⟩ = some (.int .i64 ((rd_T61 l0 x13_1).f1)) ∧ w'.cell? ⟨ab, 2, none⟩ = some (.int .i64 ((rd_T61 l0 x13_1).f2)) ∧ w'.cell? ⟨ad, 0, none⟩ = some (.int .i64 x250000_1) ∧ w'.cell? ⟨ad, 1, none⟩ = some (.int .i64 x250001_1)) (ds := []) #[false, false, false, false, false] (by kernel_rfl) rfl rfl ⟨(blk_cell aa.out 0).trans rfl, (blk_cell aa.out 1).trans rfl, (blk_cell aa.out 2).trans rfl, (blk_cell ac.out 0).trans rfl, (blk_cell ac.out 1).trans rfl⟩ (fun hHeld => ?_)
          generalize w26.drew = w27 at ac aa HB hHeld ⊢
          refine take_ (i := 0) (N := some 17) (v := ?_) (a' := ?_) #[true, false, false, false, false] rfl rfl (by kernel_rfl) (fun _ _ _ h => h) (Or.inl ⟨by rfl, ?_⟩) hHeld ?_ ?_
          rotate_left
          ·
           rintro w' ⟨s0, s1, s2, s3, s4⟩
           go_simp
           with_reducible rfl
          rotate_left
          ·
           exact putQ
          refine take_ (i := 2) (N := some 19) (v := ?_) (a' := ?_) #[true, false, true, false, false] rfl rfl (by kernel_rfl) (fun _ _ _ h => h) (Or.inl ⟨by rfl, ?_⟩) hHeld ?_ ?_
          rotate_left
          ·
           rintro w' ⟨s0, s1, s2, s3, s4⟩
           go_simp
           with_reducible rfl
          rotate_left
          ·
           exact putQ
          refine one_ (i := 1) (N := some 18) #[true, true, true, false, false] rfl rfl (by kernel_rfl) (by decide) (fun K hK => ?_)
          refine goes_ Try.func52 (by kernel_rfl) rfl #[.agg #[.int .i64 ((rd_T61 l0 x13_1).f0), .int .i64 ((rd_T61 l0 x13_1).f1), .int .i64 ((rd_T61 l0 x13_1).f2)]] (by rfl) rfl rfl zqE ?_
          with_reducible refine (edit_Note_place.calls ((rd_T61 l0 x13_1).f0) ((rd_T61 l0 x13_1).f1) ((rd_T61 l0 x13_1).f2) t252 t253 _ A8.out).mono ?_
          rintro e w28 ⟨rfl, hb⟩
          refine ⟨_, rfl, ?_⟩
          replace ac := zA (blk_below (g := ad) (o := .cells #[.int .i64 x250000_1, .int .i64 x250001_1] 106 (0, 0)) (zqB ac.out) hb)
          replace aa := zA (blk_below (g := ab) (o := .cells #[.int .i64 ((rd_T61 l0 x13_1).f0), .int .i64 ((rd_T61 l0 x13_1).f1), .int .i64 ((rd_T61 l0 x13_1).f2)] 61 (0, 0)) (zqB aa.out) hb)
          replace HB := zA (below_step (zqH HB.out ae.out af.out) hb)
          refine hK.out _ _ ⟨(blk_cell aa.out 0).trans rfl, (blk_cell aa.out 1).trans rfl, (blk_cell aa.out 2).trans rfl, (blk_cell ac.out 0).trans rfl, (blk_cell ac.out 1).trans rfl⟩ (fun hHeld => ?_)
          clear hK K
          refine normQ ?_
          refine one_ (i := 3) (N := some 20) #[true, true, true, true, false] rfl rfl (by kernel_rfl) (by decide) (fun K hK => ?_)
          refine goes_ Try.func53 (by kernel_rfl) rfl #[.agg #[.int .i64 t252, .int .i64 t253], .agg #[.int .i64 x250000_1, .int .i64 x250001_1]] (by rfl) rfl rfl zqE ?_
          with_reducible refine (edit_place_compare.calls k1 t252 t253 x250000_1 x250001_1 t254 _ A9.out).mono ?_
          rintro e w29 ⟨rfl, hb⟩
          refine ⟨_, rfl, ?_⟩
          replace ac := zA (blk_below (g := ad) (o := .cells #[.int .i64 x250000_1, .int .i64 x250001_1] 106 (0, 0)) (zqB ac.out) hb)
          replace aa := zA (blk_below (g := ab) (o := .cells #[.int .i64 ((rd_T61 l0 x13_1).f0), .int .i64 ((rd_T61 l0 x13_1).f1), .int .i64 ((rd_T61 l0 x13_1).f2)] 61 (0, 0)) (zqB aa.out) hb)
          replace HB := zA (below_step (zqH HB.out ae.out af.out) hb)
          refine hK.out _ _ ⟨(blk_cell aa.out 0).trans rfl, (blk_cell aa.out 1).trans rfl, (blk_cell aa.out 2).trans rfl, (blk_cell ac.out 0).trans rfl, (blk_cell ac.out 1).trans rfl⟩ (fun hHeld => ?_)
          clear hK K
          refine normQ ?_
          refine pure_ (i := 4) (N := some 6) (v := ?_) (a' := ?_) #[true, true, true, true, true] rfl rfl (by kernel_rfl) (fun _ _ _ h => h) (Or.inl ⟨by rfl, ?_⟩) ?_ ?_
          rotate_left
          ·
           intro w'
           go_simp
           with_reducible rfl
          rotate_left
          ·
           exact putQ
          refine done_ (by kernel_rfl) ?_
          have hcz30_0 : w29.cell? ⟨ab, 0, none⟩ = some (.int .i64 ((rd_T61 l0 x13_1).f0)) := (blk_cell aa.out 0).trans rfl
          have hcz30_1 : w29.cell? ⟨ab, 1, none⟩ = some (.int .i64 ((rd_T61 l0 x13_1).f1)) := (blk_cell aa.out 1).trans rfl
          have hcz30_2 : w29.cell? ⟨ab, 2, none⟩ = some (.int .i64 ((rd_T61 l0 x13_1).f2)) := (blk_cell aa.out 2).trans rfl
          have hfz30_0 := blk_frozen aa.out 0
          have hfz30_1 := blk_frozen aa.out 1
          have hfz30_2 := blk_frozen aa.out 2
          try go_wp2_with (first | ((with_reducible refine gate_callee (f := 54) rfl ?_); refine goesL_ (some 23) rfl rfl Try.func54 (by kernel_rfl) rfl #[.agg #[.int .i64 ((rd_T61 l0 x13_1).f0), .int .i64 ((rd_T61 l0 x13_1).f1), .int .i64 ((rd_T61 l0 x13_1).f2)]] rfl zqE ?_; (with_reducible refine (edit_Note_good.calls ((rd_T61 l0 x13_1).f0) ((rd_T61 l0 x13_1).f1) ((rd_T61 l0 x13_1).f2) true _ A10.out).mono ?_); rintro e w31 ⟨rfl, hb⟩; refine ⟨_, rfl, ?_⟩; replace ac := zA (blk_below (g := ad) (o := .cells #[.int .i64 x250000_1, .int .i64 x250001_1] 106 (0, 0)) (zqB ac.out) hb); replace aa := zA (blk_below (g := ab) (o := .cells #[.int .i64 ((rd_T61 l0 x13_1).f0), .int .i64 ((rd_T61 l0 x13_1).f1), .int .i64 ((rd_T61 l0 x13_1).f2)] 61 (0, 0)) (zqB aa.out) hb); replace HB := zA (below_step (zqH HB.out ae.out af.out) hb); (try clear hb); (try clear hb2); (try clear hk); (try clear hi)))
          go_ret
          exact ⟨zqR, zqH HB.out ae.out af.out⟩
         ·
          rw [if_neg c22] at H
          have c22b0 : decide (t254 < 0) = false := decide_eq_false c22
          clear c22
          replace H := Option.bind_eq_some_iff.mp H
          obtain ⟨⟨t256, t257⟩, A320, H⟩ := H
          replace H : (edit_Check.l0 k1 l0 (l0.length : Int) (wrap64 (x13_1 + 1)) t256 t257) = some r := H
          have A32 := zA A320
          clear A320
          have H' := zA H
          clear H
          have p250 : 0 ≤ (x13_1 : Int) := of_decide_eq_true (zqD)
          have q250 : x13_1 < (l0.length : Int) := of_decide_eq_true (zqD)
          obtain ⟨ad250, e250, hx250_0, hx250_1, hx250_2⟩ := at_T61 ai.out x13_1 p250 q250
          cases e250
          replace hx250_0 := (HB.out.cell (World.block_lt_of_cell? w _ hx250_0)).trans hx250_0
          replace hx250_1 := (HB.out.cell (World.block_lt_of_cell? w _ hx250_1)).trans hx250_1
          replace hx250_2 := (HB.out.cell (World.block_lt_of_cell? w _ hx250_2)).trans hx250_2
          replace p250 := eq_true p250; replace q250 := eq_true q250
          try go_wp2_with (first | ((with_reducible refine gate_dst (N := 5) rfl ?_); refine box_event ?hg (N := 5) ?hd (cs := #[.int .i64 0, .int .i64 0, .int .i64 0]) (t := 61) ?hr ?_; (case hd => rfl); (case hg => rfl); (case hr => first | (go_simp; done) | (go_simp; rfl)); intro ab hg w33 hbox hb; have aa := zA (hbox); have aj := zA ((by rw [hg]; exact (below_size (zqG HB.out ae.out)) : w.heap.size ≤ ab)); have af := zA ((by rw [hg]; exact (below_size (zqG HB.out ae.out)) : w.heap.size ≤ ab)); replace HB := zA (below_step (zqG HB.out ae.out) hb); have ag := zA ((by rw [hg]; exact Nat.ne_of_lt (blk_lt (g := ad) (o := .cells #[.int .i64 x250000_1, .int .i64 x250001_1] 106 (0, 0)) (zqB ac.out)) : ad ≠ ab)); have ah := zA ((by rw [hg]; exact Nat.ne_of_gt (blk_lt (g := ad) (o := .cells #[.int .i64 x250000_1, .int .i64 x250001_1] 106 (0, 0)) (zqB ac.out)) : ab ≠ ad)); replace ac := zA (blk_below (g := ad) (o := .cells #[.int .i64 x250000_1, .int .i64 x250001_1] 106 (0, 0)) (zqB ac.out) hb); clear hb hbox hg; have hnb34 := ah.out; have hnc34 := ag.out; have hcz35_0 : w33.cell? ⟨ab, 0, none⟩ = some (.int .i64 0) := (blk_cell aa.out 0).trans rfl; have hcz35_1 : w33.cell? ⟨ab, 1, none⟩ = some (.int .i64 0) := (blk_cell aa.out 1).trans rfl; have hcz35_2 : w33.cell? ⟨ab, 2, none⟩ = some (.int .i64 0) := (blk_cell aa.out 2).trans rfl; have hfz35_0 := blk_frozen aa.out 0; have hfz35_1 := blk_frozen aa.out 1; have hfz35_2 := blk_frozen aa.out 2))
          have n0_ : Aside0 ((((w33.setCell ⟨ab, 0, none⟩ (.int .i64 ((rd_T61 l0 x13_1).f0))).setCell ⟨ab, 1, none⟩ (.int .i64 ((rd_T61 l0 x13_1).f1))).setCell ⟨ab, 2, none⟩ (.int .i64 ((rd_T61 l0 x13_1).f2))).heap[ad]? = some (.cells #[.int .i64 x250000_1, .int .i64 x250001_1] 106 (0, 0))) := ⟨by (with_reducible repeat (first | refine blk_drewN ?_ _ | refine blk_drew ?_ | refine blk_alloc ?_ _)); refine blk_far ?_ ag.out _; (with_reducible repeat (first | refine blk_drewN ?_ _ | refine blk_drew ?_ | refine blk_alloc ?_ _)); refine blk_far ?_ ag.out _; (with_reducible repeat (first | refine blk_drewN ?_ _ | refine blk_drew ?_ | refine blk_alloc ?_ _)); refine blk_far ?_ ag.out _; (with_reducible repeat (first | refine blk_drewN ?_ _ | refine blk_drew ?_ | refine blk_alloc ?_ _)); exact ac.out⟩
          have n1_ : Aside0 ((((w33.setCell ⟨ab, 0, none⟩ (.int .i64 ((rd_T61 l0 x13_1).f0))).setCell ⟨ab, 1, none⟩ (.int .i64 ((rd_T61 l0 x13_1).f1))).setCell ⟨ab, 2, none⟩ (.int .i64 ((rd_T61 l0 x13_1).f2))).heap[ab]? = some (.cells #[.int .i64 ((rd_T61 l0 x13_1).f0), .int .i64 ((rd_T61 l0 x13_1).f1), .int .i64 ((rd_T61 l0 x13_1).f2)] 61 (0, 0))) := ⟨by (with_reducible repeat (first | refine blk_drewN ?_ _ | refine blk_drew ?_ | refine blk_alloc ?_ _)); refine blk_put (cs := #[.int .i64 ((rd_T61 l0 x13_1).f0), .int .i64 ((rd_T61 l0 x13_1).f1), .int .i64 0]) ?_ 2 _ rfl; (with_reducible repeat (first | refine blk_drewN ?_ _ | refine blk_drew ?_ | refine blk_alloc ?_ _)); refine blk_put (cs := #[.int .i64 ((rd_T61 l0 x13_1).f0), .int .i64 0, .int .i64 0]) ?_ 1 _ rfl; (with_reducible repeat (first | refine blk_drewN ?_ _ | refine blk_drew ?_ | refine blk_alloc ?_ _)); refine blk_put (cs := #[.int .i64 0, .int .i64 0, .int .i64 0]) ?_ 0 _ rfl; (with_reducible repeat (first | refine blk_drewN ?_ _ | refine blk_drew ?_ | refine blk_alloc ?_ _)); exact aa.out⟩
          have n2_ : Aside0 (Below w.heap.size w (((w33.setCell ⟨ab, 0, none⟩ (.int .i64 ((rd_T61 l0 x13_1).f0))).setCell ⟨ab, 1, none⟩ (.int .i64 ((rd_T61 l0 x13_1).f1))).setCell ⟨ab, 2, none⟩ (.int .i64 ((rd_T61 l0 x13_1).f2)))) := ⟨zqH HB.out ae.out af.out⟩
          generalize (((w33.setCell ⟨ab, 0, none⟩ (.int .i64 ((rd_T61 l0 x13_1).f0))).setCell ⟨ab, 1, none⟩ (.int .i64 ((rd_T61 l0 x13_1).f1))).setCell ⟨ab, 2, none⟩ (.int .i64 ((rd_T61 l0 x13_1).f2))) = w36 at n0_ n1_ n2_ ⊢; have ac := n0_; have aa := n1_; have HB := n2_; clear n0_ n1_ n2_
          replace ac := zA (blk_drew ac.out)
          replace aa := zA (blk_drew aa.out)
          replace HB := zA (below_drew1 HB.out)
          refine start_ (n := 5) (S := fun w' => w'.cell? ⟨ab, 0, none⟩ = some (.int .i64 ((rd_T61 l0 x13_1).f0)) ∧ w'.cell? ⟨ab, 1, none⟩ = some (.int .i64 ((rd_T61 l0 x13_1).f1)) ∧ w'.cell? ⟨ab, 2, none⟩ = some (.int .i64 ((rd_T61 l0 x13_1).f2)) ∧ w'.cell? ⟨ad, 0, none⟩ = some (.int .i64 x250000_1) ∧ w'.cell? ⟨ad, 1, none⟩ = some (.int .i64 x250001_1)) (ds := []) #[false, false, false, false, false] (by kernel_rfl) rfl rfl ⟨(blk_cell aa.out 0).trans rfl, (blk_cell aa.out 1).trans rfl, (blk_cell aa.out 2).trans rfl, (blk_cell ac.out 0).trans rfl, (blk_cell ac.out 1).trans rfl⟩ (fun hHeld => ?_)
          generalize w36.drew = w37 at ac aa HB hHeld ⊢
          refine take_ (i := 0) (N := some 17) (v := ?_) (a' := ?_) #[true, false, false, false, false] rfl rfl (by kernel_rfl) (fun _ _ _ h => h) (Or.inl ⟨by rfl, ?_⟩) hHeld ?_ ?_
          rotate_left
          ·
           rintro w' ⟨s0, s1, s2, s3, s4⟩
           go_simp
           with_reducible rfl
          rotate_left
          ·
           exact putQ
          refine take_ (i := 2) (N := some 19) (v := ?_) (a' := ?_) #[true, false, true, false, false] rfl rfl (by kernel_rfl) (fun _ _ _ h => h) (Or.inl ⟨by rfl, ?_⟩) hHeld ?_ ?_
          rotate_left
          ·
           rintro w' ⟨s0, s1, s2, s3, s4⟩
           go_simp
           with_reducible rfl
          rotate_left
          ·
           exact putQ
          refine one_ (i := 1) (N := some 18) #[true, true, true, false, false] rfl rfl (by kernel_rfl) (by decide) (fun K hK => ?_)
          refine goes_ Try.func52 (by kernel_rfl) rfl #[.agg #[.int .i64 ((rd_T61 l0 x13_1).f0), .int .i64 ((rd_T61 l0 x13_1).f1), .int .i64 ((rd_T61 l0 x13_1).f2)]] (by rfl) rfl rfl zqE ?_
          with_reducible refine (edit_Note_place.calls ((rd_T61 l0 x13_1).f0) ((rd_T61 l0 x13_1).f1) ((rd_T61 l0 x13_1).f2) t252 t253 _ A8.out).mono ?_
          rintro e w38 ⟨rfl, hb⟩
          refine ⟨_, rfl, ?_⟩
          replace ac := zA (blk_below (g := ad) (o := .cells #[.int .i64 x250000_1, .int .i64 x250001_1] 106 (0, 0)) (zqB ac.out) hb)
          replace aa := zA (blk_below (g := ab) (o := .cells #[.int .i64 ((rd_T61 l0 x13_1).f0), .int .i64 ((rd_T61 l0 x13_1).f1), .int .i64 ((rd_T61 l0 x13_1).f2)] 61 (0, 0)) (zqB aa.out) hb)
          replace HB := zA (below_step (zqH HB.out ae.out af.out) hb)
          refine hK.out _ _ ⟨(blk_cell aa.out 0).trans rfl, (blk_cell aa.out 1).trans rfl, (blk_cell aa.out 2).trans rfl, (blk_cell ac.out 0).trans rfl, (blk_cell ac.out 1).trans rfl⟩ (fun hHeld => ?_)
          clear hK K
          refine normQ ?_
          refine one_ (i := 3) (N := some 20) #[true, true, true, true, false] rfl rfl (by kernel_rfl) (by decide) (fun K hK => ?_)
          refine goes_ Try.func53 (by kernel_rfl) rfl #[.agg #[.int .i64 t252, .int .i64 t253], .agg #[.int .i64 x250000_1, .int .i64 x250001_1]] (by rfl) rfl rfl zqE ?_
          with_reducible refine (edit_place_compare.calls k1 t252 t253 x250000_1 x250001_1 t254 _ A9.out).mono ?_
          rintro e w39 ⟨rfl, hb⟩
          refine ⟨_, rfl, ?_⟩
          replace ac := zA (blk_below (g := ad) (o := .cells #[.int .i64 x250000_1, .int .i64 x250001_1] 106 (0, 0)) (zqB ac.out) hb)
          replace aa := zA (blk_below (g := ab) (o := .cells #[.int .i64 ((rd_T61 l0 x13_1).f0), .int .i64 ((rd_T61 l0 x13_1).f1), .int .i64 ((rd_T61 l0 x13_1).f2)] 61 (0, 0)) (zqB aa.out) hb)
          replace HB := zA (below_step (zqH HB.out ae.out af.out) hb)
          refine hK.out _ _ ⟨(blk_cell aa.out 0).trans rfl, (blk_cell aa.out 1).trans rfl, (blk_cell aa.out 2).trans rfl, (blk_cell ac.out 0).trans rfl, (blk_cell ac.out 1).trans rfl⟩ (fun hHeld => ?_)
          clear hK K
          refine normQ ?_
          refine pure_ (i := 4) (N := some 6) (v := ?_) (a' := ?_) #[true, true, true, true, true] rfl rfl (by kernel_rfl) (fun _ _ _ h => h) (Or.inl ⟨by rfl, ?_⟩) ?_ ?_
          rotate_left
          ·
           intro w'
           go_simp
           with_reducible rfl
          rotate_left
          ·
           exact putQ
          refine done_ (by kernel_rfl) ?_
          have hcz40_0 : w39.cell? ⟨ab, 0, none⟩ = some (.int .i64 ((rd_T61 l0 x13_1).f0)) := (blk_cell aa.out 0).trans rfl
          have hcz40_1 : w39.cell? ⟨ab, 1, none⟩ = some (.int .i64 ((rd_T61 l0 x13_1).f1)) := (blk_cell aa.out 1).trans rfl
          have hcz40_2 : w39.cell? ⟨ab, 2, none⟩ = some (.int .i64 ((rd_T61 l0 x13_1).f2)) := (blk_cell aa.out 2).trans rfl
          have hfz40_0 := blk_frozen aa.out 0
          have hfz40_1 := blk_frozen aa.out 1
          have hfz40_2 := blk_frozen aa.out 2
          try go_wp2_with (first | ((with_reducible refine gate_callee (f := 54) rfl ?_); refine goesL_ (some 23) rfl rfl Try.func54 (by kernel_rfl) rfl #[.agg #[.int .i64 ((rd_T61 l0 x13_1).f0), .int .i64 ((rd_T61 l0 x13_1).f1), .int .i64 ((rd_T61 l0 x13_1).f2)]] rfl zqE ?_; (with_reducible refine (edit_Note_good.calls ((rd_T61 l0 x13_1).f0) ((rd_T61 l0 x13_1).f1) ((rd_T61 l0 x13_1).f2) true _ A10.out).mono ?_); rintro e w41 ⟨rfl, hb⟩; refine ⟨_, rfl, ?_⟩; replace ac := zA (blk_below (g := ad) (o := .cells #[.int .i64 x250000_1, .int .i64 x250001_1] 106 (0, 0)) (zqB ac.out) hb); replace aa := zA (blk_below (g := ab) (o := .cells #[.int .i64 ((rd_T61 l0 x13_1).f0), .int .i64 ((rd_T61 l0 x13_1).f1), .int .i64 ((rd_T61 l0 x13_1).f2)] 61 (0, 0)) (zqB aa.out) hb); replace HB := zA (below_step (zqH HB.out ae.out af.out) hb); (try clear hb); (try clear hb2); (try clear hk); (try clear hi); have hcz42_0 : w41.cell? ⟨ab, 0, none⟩ = some (.int .i64 ((rd_T61 l0 x13_1).f0)) := (blk_cell aa.out 0).trans rfl; have hcz42_1 : w41.cell? ⟨ab, 1, none⟩ = some (.int .i64 ((rd_T61 l0 x13_1).f1)) := (blk_cell aa.out 1).trans rfl; have hcz42_2 : w41.cell? ⟨ab, 2, none⟩ = some (.int .i64 ((rd_T61 l0 x13_1).f2)) := (blk_cell aa.out 2).trans rfl; have hfz42_0 := blk_frozen aa.out 0; have hfz42_1 := blk_frozen aa.out 1; have hfz42_2 := blk_frozen aa.out 2) | ((with_reducible refine gate_callee (f := 52) rfl ?_); refine goesL_ (some 32) rfl rfl Try.func52 (by kernel_rfl) rfl #[.agg #[.int .i64 ((rd_T61 l0 x13_1).f0), .int .i64 ((rd_T61 l0 x13_1).f1), .int .i64 ((rd_T61 l0 x13_1).f2)]] rfl zqE ?_; (with_reducible refine (edit_Note_place.calls ((rd_T61 l0 x13_1).f0) ((rd_T61 l0 x13_1).f1) ((rd_T61 l0 x13_1).f2) t256 t257 _ A32.out).mono ?_); rintro e w43 ⟨rfl, hb⟩; refine ⟨_, rfl, ?_⟩; replace ac := zA (blk_below (g := ad) (o := .cells #[.int .i64 x250000_1, .int .i64 x250001_1] 106 (0, 0)) (zqB ac.out) hb); replace aa := zA (blk_below (g := ab) (o := .cells #[.int .i64 ((rd_T61 l0 x13_1).f0), .int .i64 ((rd_T61 l0 x13_1).f1), .int .i64 ((rd_T61 l0 x13_1).f2)] 61 (0, 0)) (zqB aa.out) hb); replace HB := zA (below_step (zqH HB.out ae.out af.out) hb); (try clear hb); (try clear hb2); (try clear hk); (try clear hi); have hcz44_0 : w43.cell? ⟨ad, 0, none⟩ = some (.int .i64 x250000_1) := (blk_cell ac.out 0).trans rfl; have hcz44_1 : w43.cell? ⟨ad, 1, none⟩ = some (.int .i64 x250001_1) := (blk_cell ac.out 1).trans rfl; have hfz44_0 := blk_frozen ac.out 0; have hfz44_1 := blk_frozen ac.out 1))
          go_roundg k1
          case measure => have := HK1.out; omega
          case rel => exact ⟨(wrap64 (x13_1 + 1)), (t256), (t257), zqQ, H', ⟨by have := HK1.out; omega⟩, ⟨by (with_reducible repeat (first | refine blk_drewN ?_ _ | refine blk_drew ?_ | refine blk_alloc ?_ _)); refine blk_put (cs := #[.int .i64 t256, .int .i64 x250001_1]) ?_ 1 _ rfl; (with_reducible repeat (first | refine blk_drewN ?_ _ | refine blk_drew ?_ | refine blk_alloc ?_ _)); refine blk_put (cs := #[.int .i64 x250000_1, .int .i64 x250001_1]) ?_ 0 _ rfl; (with_reducible repeat (first | refine blk_drewN ?_ _ | refine blk_drew ?_ | refine blk_alloc ?_ _)); exact ac.out⟩, ⟨zqH HB.out ae.out af.out⟩⟩
       ·
        replace c11 := Bool.eq_false_iff.mpr c11
        subst c11
        have H1 : (some 3) = some r := by rw [if_neg (show ¬ (false = true) by decide)] at H; exact H
        clear H; have H := H1; clear H1
        obtain rfl := Option.some.inj H
        have p250 : 0 ≤ (x13_1 : Int) := of_decide_eq_true (zqD)
        have q250 : x13_1 < (l0.length : Int) := of_decide_eq_true (zqD)
        obtain ⟨ad250, e250, hx250_0, hx250_1, hx250_2⟩ := at_T61 ai.out x13_1 p250 q250
        cases e250
        replace hx250_0 := (HB.out.cell (World.block_lt_of_cell? w _ hx250_0)).trans hx250_0
        replace hx250_1 := (HB.out.cell (World.block_lt_of_cell? w _ hx250_1)).trans hx250_1
        replace hx250_2 := (HB.out.cell (World.block_lt_of_cell? w _ hx250_2)).trans hx250_2
        replace p250 := eq_true p250; replace q250 := eq_true q250
        try go_wp2_with (first | ((with_reducible refine gate_dst (N := 5) rfl ?_); refine box_event ?hg (N := 5) ?hd (cs := #[.int .i64 0, .int .i64 0, .int .i64 0]) (t := 61) ?hr ?_; (case hd => rfl); (case hg => rfl); (case hr => first | (go_simp; done) | (go_simp; rfl)); intro ab hg w45 hbox hb; have aa := zA (hbox); have aj := zA ((by rw [hg]; exact (below_size (zqG HB.out ae.out)) : w.heap.size ≤ ab)); have af := zA ((by rw [hg]; exact (below_size (zqG HB.out ae.out)) : w.heap.size ≤ ab)); replace HB := zA (below_step (zqG HB.out ae.out) hb); have ag := zA ((by rw [hg]; exact Nat.ne_of_lt (blk_lt (g := ad) (o := .cells #[.int .i64 x250000_1, .int .i64 x250001_1] 106 (0, 0)) (zqB ac.out)) : ad ≠ ab)); have ah := zA ((by rw [hg]; exact Nat.ne_of_gt (blk_lt (g := ad) (o := .cells #[.int .i64 x250000_1, .int .i64 x250001_1] 106 (0, 0)) (zqB ac.out)) : ab ≠ ad)); replace ac := zA (blk_below (g := ad) (o := .cells #[.int .i64 x250000_1, .int .i64 x250001_1] 106 (0, 0)) (zqB ac.out) hb); clear hb hbox hg; have hnb46 := ah.out; have hnc46 := ag.out; have hcz47_0 : w45.cell? ⟨ab, 0, none⟩ = some (.int .i64 0) := (blk_cell aa.out 0).trans rfl; have hcz47_1 : w45.cell? ⟨ab, 1, none⟩ = some (.int .i64 0) := (blk_cell aa.out 1).trans rfl; have hcz47_2 : w45.cell? ⟨ab, 2, none⟩ = some (.int .i64 0) := (blk_cell aa.out 2).trans rfl; have hfz47_0 := blk_frozen aa.out 0; have hfz47_1 := blk_frozen aa.out 1; have hfz47_2 := blk_frozen aa.out 2))
        have n0_ : Aside0 ((((w45.setCell ⟨ab, 0, none⟩ (.int .i64 ((rd_T61 l0 x13_1).f0))).setCell ⟨ab, 1, none⟩ (.int .i64 ((rd_T61 l0 x13_1).f1))).setCell ⟨ab, 2, none⟩ (.int .i64 ((rd_T61 l0 x13_1).f2))).heap[ad]? = some (.cells #[.int .i64 x250000_1, .int .i64 x250001_1] 106 (0, 0))) := ⟨by (with_reducible repeat (first | refine blk_drewN ?_ _ | refine blk_drew ?_ | refine blk_alloc ?_ _)); refine blk_far ?_ ag.out _; (with_reducible repeat (first | refine blk_drewN ?_ _ | refine blk_drew ?_ | refine blk_alloc ?_ _)); refine blk_far ?_ ag.out _; (with_reducible repeat (first | refine blk_drewN ?_ _ | refine blk_drew ?_ | refine blk_alloc ?_ _)); refine blk_far ?_ ag.out _; (with_reducible repeat (first | refine blk_drewN ?_ _ | refine blk_drew ?_ | refine blk_alloc ?_ _)); exact ac.out⟩
        have n1_ : Aside0 ((((w45.setCell ⟨ab, 0, none⟩ (.int .i64 ((rd_T61 l0 x13_1).f0))).setCell ⟨ab, 1, none⟩ (.int .i64 ((rd_T61 l0 x13_1).f1))).setCell ⟨ab, 2, none⟩ (.int .i64 ((rd_T61 l0 x13_1).f2))).heap[ab]? = some (.cells #[.int .i64 ((rd_T61 l0 x13_1).f0), .int .i64 ((rd_T61 l0 x13_1).f1), .int .i64 ((rd_T61 l0 x13_1).f2)] 61 (0, 0))) := ⟨by (with_reducible repeat (first | refine blk_drewN ?_ _ | refine blk_drew ?_ | refine blk_alloc ?_ _)); refine blk_put (cs := #[.int .i64 ((rd_T61 l0 x13_1).f0), .int .i64 ((rd_T61 l0 x13_1).f1), .int .i64 0]) ?_ 2 _ rfl; (with_reducible repeat (first | refine blk_drewN ?_ _ | refine blk_drew ?_ | refine blk_alloc ?_ _)); refine blk_put (cs := #[.int .i64 ((rd_T61 l0 x13_1).f0), .int .i64 0, .int .i64 0]) ?_ 1 _ rfl; (with_reducible repeat (first | refine blk_drewN ?_ _ | refine blk_drew ?_ | refine blk_alloc ?_ _)); refine blk_put (cs := #[.int .i64 0, .int .i64 0, .int .i64 0]) ?_ 0 _ rfl; (with_reducible repeat (first | refine blk_drewN ?_ _ | refine blk_drew ?_ | refine blk_alloc ?_ _)); exact aa.out⟩
        have n2_ : Aside0 (Below w.heap.size w (((w45.setCell ⟨ab, 0, none⟩ (.int .i64 ((rd_T61 l0 x13_1).f0))).setCell ⟨ab, 1, none⟩ (.int .i64 ((rd_T61 l0 x13_1).f1))).setCell ⟨ab, 2, none⟩ (.int .i64 ((rd_T61 l0 x13_1).f2)))) := ⟨zqH HB.out ae.out af.out⟩
        generalize (((w45.setCell ⟨ab, 0, none⟩ (.int .i64 ((rd_T61 l0 x13_1).f0))).setCell ⟨ab, 1, none⟩ (.int .i64 ((rd_T61 l0 x13_1).f1))).setCell ⟨ab, 2, none⟩ (.int .i64 ((rd_T61 l0 x13_1).f2))) = w48 at n0_ n1_ n2_ ⊢; have ac := n0_; have aa := n1_; have HB := n2_; clear n0_ n1_ n2_
        replace ac := zA (blk_drew ac.out)
        replace aa := zA (blk_drew aa.out)
        replace HB := zA (below_drew1 HB.out)
        refine start_ (n := 5) (S := fun w' => w'.cell? ⟨ab, 0, none⟩ = some (.int .i64 ((rd_T61 l0 x13_1).f0)) ∧ w'.cell? ⟨ab, 1, none⟩ = some (.int .i64 ((rd_T61 l0 x13_1).f1)) ∧ w'.cell? ⟨ab, 2, none⟩ = some (.int .i64 ((rd_T61 l0 x13_1).f2)) ∧ w'.cell? ⟨ad, 0, none⟩ = some (.int .i64 x250000_1) ∧ w'.cell? ⟨ad, 1, none⟩ = some (.int .i64 x250001_1)) (ds := []) #[false, false, false, false, false] (by kernel_rfl) rfl rfl ⟨(blk_cell aa.out 0).trans rfl, (blk_cell aa.out 1).trans rfl, (blk_cell aa.out 2).trans rfl, (blk_cell ac.out 0).trans rfl, (blk_cell ac.out 1).trans rfl⟩ (fun hHeld => ?_)
        generalize w48.drew = w49 at ac aa HB hHeld ⊢
        refine take_ (i := 0) (N := some 17) (v := ?_) (a' := ?_) #[true, false, false, false, false] rfl rfl (by kernel_rfl) (fun _ _ _ h => h) (Or.inl ⟨by rfl, ?_⟩) hHeld ?_ ?_
        rotate_left
        ·
         rintro w' ⟨s0, s1, s2, s3, s4⟩
         go_simp
         with_reducible rfl
        rotate_left
        ·
         exact putQ
        refine take_ (i := 2) (N := some 19) (v := ?_) (a' := ?_) #[true, false, true, false, false] rfl rfl (by kernel_rfl) (fun _ _ _ h => h) (Or.inl ⟨by rfl, ?_⟩) hHeld ?_ ?_
        rotate_left
        ·
         rintro w' ⟨s0, s1, s2, s3, s4⟩
         go_simp
         with_reducible rfl
        rotate_left
        ·
         exact putQ
        refine one_ (i := 1) (N := some 18) #[true, true, true, false, false] rfl rfl (by kernel_rfl) (by decide) (fun K hK => ?_)
        refine goes_ Try.func52 (by kernel_rfl) rfl #[.agg #[.int .i64 ((rd_T61 l0 x13_1).f0), .int .i64 ((rd_T61 l0 x13_1).f1), .int .i64 ((rd_T61 l0 x13_1).f2)]] (by rfl) rfl rfl zqE ?_
        with_reducible refine (edit_Note_place.calls ((rd_T61 l0 x13_1).f0) ((rd_T61 l0 x13_1).f1) ((rd_T61 l0 x13_1).f2) t252 t253 _ A8.out).mono ?_
        rintro e w50 ⟨rfl, hb⟩
        refine ⟨_, rfl, ?_⟩
        replace ac := zA (blk_below (g := ad) (o := .cells #[.int .i64 x250000_1, .int .i64 x250001_1] 106 (0, 0)) (zqB ac.out) hb)
        replace aa := zA (blk_below (g := ab) (o := .cells #[.int .i64 ((rd_T61 l0 x13_1).f0), .int .i64 ((rd_T61 l0 x13_1).f1), .int .i64 ((rd_T61 l0 x13_1).f2)] 61 (0, 0)) (zqB aa.out) hb)
        replace HB := zA (below_step (zqH HB.out ae.out af.out) hb)
        refine hK.out _ _ ⟨(blk_cell aa.out 0).trans rfl, (blk_cell aa.out 1).trans rfl, (blk_cell aa.out 2).trans rfl, (blk_cell ac.out 0).trans rfl, (blk_cell ac.out 1).trans rfl⟩ (fun hHeld => ?_)
        clear hK K
        refine normQ ?_
        refine one_ (i := 3) (N := some 20) #[true, true, true, true, false] rfl rfl (by kernel_rfl) (by decide) (fun K hK => ?_)
        refine goes_ Try.func53 (by kernel_rfl) rfl #[.agg #[.int .i64 t252, .int .i64 t253], .agg #[.int .i64 x250000_1, .int .i64 x250001_1]] (by rfl) rfl rfl zqE ?_
        with_reducible refine (edit_place_compare.calls k1 t252 t253 x250000_1 x250001_1 t254 _ A9.out).mono ?_
        rintro e w51 ⟨rfl, hb⟩
        refine ⟨_, rfl, ?_⟩
        replace ac := zA (blk_below (g := ad) (o := .cells #[.int .i64 x250000_1, .int .i64 x250001_1] 106 (0, 0)) (zqB ac.out) hb)
        replace aa := zA (blk_below (g := ab) (o := .cells #[.int .i64 ((rd_T61 l0 x13_1).f0), .int .i64 ((rd_T61 l0 x13_1).f1), .int .i64 ((rd_T61 l0 x13_1).f2)] 61 (0, 0)) (zqB aa.out) hb)
        replace HB := zA (below_step (zqH HB.out ae.out af.out) hb)
        refine hK.out _ _ ⟨(blk_cell aa.out 0).trans rfl, (blk_cell aa.out 1).trans rfl, (blk_cell aa.out 2).trans rfl, (blk_cell ac.out 0).trans rfl, (blk_cell ac.out 1).trans rfl⟩ (fun hHeld => ?_)
        clear hK K
        refine normQ ?_
        refine pure_ (i := 4) (N := some 6) (v := ?_) (a' := ?_) #[true, true, true, true, true] rfl rfl (by kernel_rfl) (fun _ _ _ h => h) (Or.inl ⟨by rfl, ?_⟩) ?_ ?_
        rotate_left
        ·
         intro w'
         go_simp
         with_reducible rfl
        rotate_left
        ·
         exact putQ
        refine done_ (by kernel_rfl) ?_
        have hcz52_0 : w51.cell? ⟨ab, 0, none⟩ = some (.int .i64 ((rd_T61 l0 x13_1).f0)) := (blk_cell aa.out 0).trans rfl
        have hcz52_1 : w51.cell? ⟨ab, 1, none⟩ = some (.int .i64 ((rd_T61 l0 x13_1).f1)) := (blk_cell aa.out 1).trans rfl
        have hcz52_2 : w51.cell? ⟨ab, 2, none⟩ = some (.int .i64 ((rd_T61 l0 x13_1).f2)) := (blk_cell aa.out 2).trans rfl
        have hfz52_0 := blk_frozen aa.out 0
        have hfz52_1 := blk_frozen aa.out 1
        have hfz52_2 := blk_frozen aa.out 2
        try go_wp2_with (first | ((with_reducible refine gate_callee (f := 54) rfl ?_); refine goesL_ (some 23) rfl rfl Try.func54 (by kernel_rfl) rfl #[.agg #[.int .i64 ((rd_T61 l0 x13_1).f0), .int .i64 ((rd_T61 l0 x13_1).f1), .int .i64 ((rd_T61 l0 x13_1).f2)]] rfl zqE ?_; (with_reducible refine (edit_Note_good.calls ((rd_T61 l0 x13_1).f0) ((rd_T61 l0 x13_1).f1) ((rd_T61 l0 x13_1).f2) false _ A10.out).mono ?_); rintro e w53 ⟨rfl, hb⟩; refine ⟨_, rfl, ?_⟩; replace ac := zA (blk_below (g := ad) (o := .cells #[.int .i64 x250000_1, .int .i64 x250001_1] 106 (0, 0)) (zqB ac.out) hb); replace aa := zA (blk_below (g := ab) (o := .cells #[.int .i64 ((rd_T61 l0 x13_1).f0), .int .i64 ((rd_T61 l0 x13_1).f1), .int .i64 ((rd_T61 l0 x13_1).f2)] 61 (0, 0)) (zqB aa.out) hb); replace HB := zA (below_step (zqH HB.out ae.out af.out) hb); (try clear hb); (try clear hb2); (try clear hk); (try clear hi)))
        go_ret
        exact ⟨zqR, zqH HB.out ae.out af.out⟩
      ·
       rw [if_neg c7] at H
       exact absurd H (by simp)
     ·
      rw [if_neg c6] at H
      exact absurd H (by simp)
    ·
     rw [if_neg c5] at H
     have c5b0 : decide (x13_1 < (l0.length : Int)) = false := decide_eq_false c5
     clear c5
     obtain rfl := Option.some.inj H
     go_wp2
     go_ret
     exact ⟨zqR, zqG HB.out ae.out⟩
def pianolalaw02_rolls.l0 : Nat → List (S61) → List (S61) → Int → Option (Bool)
  | 0, _, _, _ => none
  | k + 1, x0, x1, x5 => if x5 < (x0.length : Int) then (if 0 ≤ x5 then (if x5 < (x1.length : Int) then (if (!(((rd_T61 x0 x5).f0) == ((rd_T61 x1 x5).f0)) || (!(((rd_T61 x0 x5).f1) == ((rd_T61 x1 x5).f1)) || (!(((rd_T61 x0 x5).f2) == ((rd_T61 x1 x5).f2))))) = true then (some false) else (pianolalaw02_rolls.l0 k x0 x1 (wrap64 (x5 + 1)))) else (none)) else (none)) else (some true)
def pianolalaw02_rolls.f (k : Nat) (l0 : List (S61)) (l1 : List (S61)) : Option (Bool) := if (l0.length : Int) = (l1.length : Int) then (pianolalaw02_rolls.l0 k l0 l1 0) else (some false)
set_option maxHeartbeats 8000000 in
set_option maxRecDepth 100000 in
theorem pianolalaw02_rolls.calls (k : Nat) (A0 : Option Addr) (c0 : Nat) (l0 : List (S61)) (A1 : Option Addr) (c1 : Nat) (l1 : List (S61)) (r : Bool) (w : World) (aa : Kd.C k61 w A0 l0.length l0) (hc0 : l0.length ≤ c0) (ab : Kd.C k61 w A1 l1.length l1) (hc1 : l1.length ≤ c1) (h : pianolalaw02_rolls.f k l0 l1 = some r) :
  Calls Try.prog 36 #[.slice A0 l0.length c0, .slice A1 l1.length c1] w fun e w' => e = .returned (.bool r) ∧ Drawn0 w w' := by
 have hu61 := Try.underlying61
 have ac := zA aa
 have HC0 := zA hc0
 clear aa hc0
 have ad := zA ab
 have HC1 := zA hc1
 clear ab hc1
 have H : (if (l0.length : Int) = (l1.length : Int) then (pianolalaw02_rolls.l0 k l0 l1 0) else (some false)) = some r := h
 clear h
 by_cases c3 : (l0.length : Int) = (l1.length : Int)
 ·
  rw [if_pos c3] at H
  have c3b0 : ((l0.length : Int) == (l1.length : Int)) = true := beq_iff_eq.mpr c3
  have c3b1 : ((l0.length : Int) != (l1.length : Int)) = false := bne_eq_false_iff_eq.mpr c3
  have c3b2 : (l0.length == l1.length) = true := by first | simpa using c3 | (simp at c3 ⊢; omega)
  clear c3
  have H' := zA H
  clear H
  go_enter Try.func36, Try.ntmps36
  go_wp2
  repeat (go_quiet (fail); try go_wp2)
  go_loopg [5] k (fun kq v5 w' => ∃ (x5_1 : Int), v5 = .int .i64 x5_1 ∧ Aside0 (pianolalaw02_rolls.l0 kq l0 l1 x5_1 = some r) ∧ Aside0 (kq ≤ k) ∧ Drawn0 w w')
  case atStart => exact ⟨(0), zqQ, H', ⟨Nat.le_refl _⟩, by repeat (first | exact Drawn0.refl _ | apply Drawn0.step)⟩
  case round =>
   clear H'
   obtain ⟨x5_1, rfl, HA, HK1, ⟨m1, rfl⟩⟩ := hrel
   cases gk with
   | zero => exact absurd HA.out (by simp [pianolalaw02_rolls.l0])
   | succ k1 =>
    have H := HA.out
    clear HA
    simp only [pianolalaw02_rolls.l0] at H
    by_cases c4 : x5_1 < (l0.length : Int)
    ·
     rw [if_pos c4] at H
     have c4b0 : decide (x5_1 < (l0.length : Int)) = true := decide_eq_true c4
     clear c4
     by_cases c5 : 0 ≤ x5_1
     ·
      rw [if_pos c5] at H
      have c5b0 : decide (0 ≤ x5_1) = true := decide_eq_true c5
      clear c5
      by_cases c6 : x5_1 < (l1.length : Int)
      ·
       rw [if_pos c6] at H
       have c6b0 : decide (x5_1 < (l1.length : Int)) = true := decide_eq_true c6
       clear c6
       by_cases c7 : (!(((rd_T61 l0 x5_1).f0) == ((rd_T61 l1 x5_1).f0)) || (!(((rd_T61 l0 x5_1).f1) == ((rd_T61 l1 x5_1).f1)) || (!(((rd_T61 l0 x5_1).f2) == ((rd_T61 l1 x5_1).f2))))) = true
       ·
        rw [if_pos c7] at H
        have c7b0 : (!(((rd_T61 l0 x5_1).f0) == ((rd_T61 l1 x5_1).f0)) || (!(((rd_T61 l0 x5_1).f1) == ((rd_T61 l1 x5_1).f1)) || (!(((rd_T61 l0 x5_1).f2) == ((rd_T61 l1 x5_1).f2))))) = true := c7
        clear c7
        obtain rfl := Option.some.inj H
        have p277 : 0 ≤ (x5_1 : Int) := of_decide_eq_true (zqD)
        have q277 : x5_1 < (l0.length : Int) := of_decide_eq_true (zqD)
        obtain ⟨ad277, e277, hx277_0, hx277_1, hx277_2⟩ := at_T61 ac.out x5_1 p277 q277
        cases e277; replace p277 := eq_true p277; replace q277 := eq_true q277
        have p278 : 0 ≤ (x5_1 : Int) := of_decide_eq_true (zqD)
        have q278 : x5_1 < (l1.length : Int) := of_decide_eq_true (zqD)
        obtain ⟨ad278, e278, hx278_0, hx278_1, hx278_2⟩ := at_T61 ad.out x5_1 p278 q278
        cases e278; replace p278 := eq_true p278; replace q278 := eq_true q278
        go_wp2
        repeat (go_quiet (fail); try go_wp2)
        go_ret
        exact ⟨by first | rfl | (simp; done) | (simp [*]; done), by repeat (first | exact Drawn0.refl _ | apply Drawn0.step)⟩
       ·
        rw [if_neg c7] at H
        have c7b0 : (!(((rd_T61 l0 x5_1).f0) == ((rd_T61 l1 x5_1).f0)) || (!(((rd_T61 l0 x5_1).f1) == ((rd_T61 l1 x5_1).f1)) || (!(((rd_T61 l0 x5_1).f2) == ((rd_T61 l1 x5_1).f2))))) = false := by simpa using c7
        clear c7
        have H' := zA H
        clear H
        have p277 : 0 ≤ (x5_1 : Int) := of_decide_eq_true (zqD)
        have q277 : x5_1 < (l0.length : Int) := of_decide_eq_true (zqD)
        obtain ⟨ad277, e277, hx277_0, hx277_1, hx277_2⟩ := at_T61 ac.out x5_1 p277 q277
        cases e277; replace p277 := eq_true p277; replace q277 := eq_true q277
        have p278 : 0 ≤ (x5_1 : Int) := of_decide_eq_true (zqD)
        have q278 : x5_1 < (l1.length : Int) := of_decide_eq_true (zqD)
        obtain ⟨ad278, e278, hx278_0, hx278_1, hx278_2⟩ := at_T61 ad.out x5_1 p278 q278
        cases e278; replace p278 := eq_true p278; replace q278 := eq_true q278
        go_wp2
        repeat (go_quiet (fail); try go_wp2)
        go_roundg k1
        case measure => have := HK1.out; omega
        case rel => exact ⟨(wrap64 (x5_1 + 1)), zqQ, H', ⟨by have := HK1.out; omega⟩, by repeat (first | exact Drawn0.refl _ | apply Drawn0.step)⟩
      ·
       rw [if_neg c6] at H
       exact absurd H (by simp)
     ·
      rw [if_neg c5] at H
      exact absurd H (by simp)
    ·
     rw [if_neg c4] at H
     have c4b0 : decide (x5_1 < (l0.length : Int)) = false := decide_eq_false c4
     clear c4
     obtain rfl := Option.some.inj H
     go_wp2
     repeat (go_quiet (fail); try go_wp2)
     go_ret
     exact ⟨by first | rfl | (simp; done) | (simp [*]; done), by repeat (first | exact Drawn0.refl _ | apply Drawn0.step)⟩
 ·
  rw [if_neg c3] at H
  have c3b0 : ((l0.length : Int) == (l1.length : Int)) = false := beq_eq_false_iff_ne.mpr c3
  have c3b1 : ((l0.length : Int) != (l1.length : Int)) = true := bne_iff_ne.mpr c3
  have c3b2 : (l0.length == l1.length) = false := by first | simpa using c3 | (simp at c3 ⊢; omega)
  obtain rfl := Option.some.inj H
  go_enter Try.func36, Try.ntmps36
  go_wp2
  repeat (go_quiet (fail); try go_wp2)
  go_ret
  exact ⟨by first | rfl | (simp; done) | (simp [*]; done), by repeat (first | exact Drawn0.refl _ | apply Drawn0.step)⟩
end Go.Proofs.Ytehpbmdphfbooaa.P
end
