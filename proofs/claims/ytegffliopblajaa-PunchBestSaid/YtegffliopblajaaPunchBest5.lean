/- Words and contracts for a claim. -/
import Derived.Test.YtegffliopblajaaPunchBest4
import Derived.OpenShut
import Derived.Deep.Slices
import Derived.ChangeSame
section
namespace Go.Proofs.Ytegffliopblajaa.P
open Go.ChangeShapes Go.WideShapes Go.Deep Go.RowKit Go.Proofs.YtegffliopblajaaW.PrintWords
set_option maxRecDepth 100000
set_option linter.unusedVariables false
set_option linter.unusedSimpArgs false
section
variable {H : Type} {enc : TypeId × Value → H} {w : World} {base : Nat} {spare : Nat → Bool} {held : Bool}
theorem byte_of {fuel : Nat} {u : Value} {x : DataW H × List MemPlace} (h : DataW.trod enc Try.prog w base spare held fuel 5 [u] = some x) : ∃ a : Int, u = .int .u8 a ∧ (Lit.int .u8 a).wf = true := by
  obtain ⟨a, e0, _, w0⟩ := DataW.trod_int Try.underlying5 h
  injection e0 with e0
  exact ⟨a, e0, w0⟩
theorem pair_u8 {fuel : Nat} {cs : List Value} {x : DataW H × List MemPlace} (h : DataW.trod enc Try.prog w base spare held fuel 82 cs = some x) :
    ∃ a b : Int, cs = [.int .u8 a, .int .u8 b] ∧ (Lit.int .u8 a).wf = true ∧ (Lit.int .u8 b).wf = true := by
  obtain ⟨xs, m, _, hx, hcl, hxl, hg⟩ := DataW.trod_array Try.underlying82 h
  have hc : Try.prog.cellsOf 82 = 2 := by kernel_rfl
  have hc5 : Try.prog.cellsOf 5 = 1 := by kernel_rfl
  rw [hc] at hcl
  obtain ⟨c0, c1, rfl⟩ := list_two hcl
  obtain ⟨y0, y1, rfl⟩ := list_two hxl
  have h0 := hg 0 (by omega)
  have h1 := hg 1 (by omega)
  rw [hc5] at h0 h1
  obtain ⟨a, rfl, w0⟩ := byte_of (show DataW.trod enc Try.prog w base spare held m 5 [c0] = some y0 from h0)
  obtain ⟨b, rfl, w1⟩ := byte_of (show DataW.trod enc Try.prog w base spare held m 5 [c1] = some y1 from h1)
  exact ⟨a, b, rfl, w0, w1⟩
theorem open_bytes2_72 {fuel : Nat} {A : Option Addr} {len cap : Nat} {x : DataW H × List MemPlace}
    (h : DataW.trod enc Try.prog w base spare held fuel 72 [.slice A len cap] = some x) :
    ∃ l : List S82, Kd.C k82 w A l.length l ∧ l.length = len ∧ l.length ≤ cap ∧ ∀ s ∈ l, (Lit.int .u8 s.f0).wf = true ∧ (Lit.int .u8 s.f1).wf = true := by
  have hc : Try.prog.cellsOf 82 = 2 := by kernel_rfl
  rcases open_slice Try.underlying72 h with ⟨hcs, _⟩ | ⟨a, len', cap', m, n, D, Pl, hcs, hb, hl, hm, hmm, hx, hi⟩
  · injection hcs with hcs _
    injection hcs with e1 e2 e3
    subst e1 e2 e3
    exact ⟨[], ⟨rfl, by simp, fun h => absurd h (by simp)⟩, rfl, Nat.le_refl _, fun _ h => by cases h⟩
  · injection hcs with hcs _
    injection hcs with e1 e2 e3
    subst e1 e2 e3
    have hlm : len ≤ m := by rw [hmm]; split <;> omega
    have each : ∀ i, i < len → ∃ s : S82, w.cell? (a.add (i * 2)) = some (.int .u8 s.f0) ∧ w.cell? (a.add (i * 2 + 1)) = some (.int .u8 s.f1) ∧ (Lit.int .u8 s.f0).wf = true ∧ (Lit.int .u8 s.f1).wf = true := by
      intro i hlt
      obtain ⟨cs', hcc, ht⟩ := hi i (by omega)
      rw [hc] at hcc
      obtain ⟨y0, y1, e, w0, w1⟩ := pair_u8 ht
      subst e
      obtain ⟨_, _, hat⟩ := World.cells?_some hcc
      have h0 := hat 0 (by omega)
      have h1 := hat 1 (by omega)
      rw [Go.Deep.add_add] at h0 h1
      exact ⟨⟨y0, y1⟩, h0, h1, w0, w1⟩
    obtain ⟨F, hF⟩ : ∃ F : Nat → S82, ∀ i, i < len → w.cell? (a.add (i * 2)) = some (.int .u8 (F i).f0) ∧ w.cell? (a.add (i * 2 + 1)) = some (.int .u8 (F i).f1) ∧ (Lit.int .u8 (F i).f0).wf = true ∧ (Lit.int .u8 (F i).f1).wf = true :=
      ⟨fun i => if h : i < len then Classical.choose (each i h) else z82, fun i h => by simp only [dif_pos h]; exact Classical.choose_spec (each i h)⟩
    have hlen : ((List.range len).map F).length = len := by simp
    refine ⟨(List.range len).map F, ?_, hlen, by rw [hlen]; exact hl, fun s hs => ?_⟩
    · rw [hlen]
      refine ⟨hlen, by unfold maxLen at hm; omega, fun _ => ⟨a, rfl, fun j p hp => ?_⟩⟩
      obtain ⟨hj, rfl⟩ := List.getElem?_eq_some_iff.1 hp
      have hF' := hF j (by simpa using hj)
      refine ⟨_, rfl, k82_mk w _, fun i u hu => ?_⟩
      simp only [List.getElem_map, List.getElem_range] at hu
      show w.cell? (a.add (j * 2 + i)) = _
      match i, hu with
      | 0, hu => cases hu; exact hF'.1
      | 1, hu => cases hu; exact hF'.2.1
      | _ + 2, hu => simp at hu
    · obtain ⟨i, hi, rfl⟩ := List.mem_map.1 hs
      exact (hF i (List.mem_range.1 hi)).2.2
theorem open_72 {fuel : Nat} {cs : List Value} {x : DataW H × List MemPlace} (h : DataW.trod enc Try.prog w base spare held fuel 72 cs = some x) :
    ∃ (l : List S82) (A : Option Addr) (c : Nat), cs = [.slice A l.length c] ∧ l.length ≤ c ∧ Kd.C k82 w A l.length l ∧ ∀ s ∈ l, (Lit.int .u8 s.f0).wf = true ∧ (Lit.int .u8 s.f1).wf = true := by
  rcases DataW.trod_slice Try.underlying72 h with ⟨rfl, _⟩ | ⟨a, len, cap, _, _, _, _, rfl, _⟩
  · exact ⟨[], none, 0, rfl, Nat.le_refl _, ⟨rfl, by simp, fun h => absurd h (by simp)⟩, fun _ h => by cases h⟩
  · obtain ⟨l, h1, h2, h3, h4⟩ := open_bytes2_72 h
    subst h2
    exact ⟨l, some a, cap, rfl, h3, h1, h4⟩
theorem open_lane {r : Reach} {b0 : Nat} {v : Value} {d : DataW H} {p : List MemPlace} (hv : Value.okWide Try.prog w r b0 74 v) (h : DataW.Trod enc Try.prog w base spare held 74 v d p) :
    ∃ (a : Int) (A : Option Addr) (c : Nat) (l : List S82), v = .agg #[.int .u8 a, .slice A l.length c] ∧ Kd.C k82 w A l.length l ∧ l.length ≤ c ∧ (Lit.int .u8 a).wf = true ∧ ∀ s ∈ l, (Lit.int .u8 s.f0).wf = true ∧ (Lit.int .u8 s.f1).wf = true := by
  simp only [Value.okWide, Try.underlying74] at hv
  obtain ⟨cs, rfl, h2, _⟩ := hv
  obtain ⟨fuel, hf⟩ := h
  obtain ⟨xs, m, _, hx, hcl, hxl, hg⟩ := DataW.trod_struct Try.underlying74 hf
  have c74 : Try.prog.cellsOf 74 = 2 := by kernel_rfl
  have c5 : Try.prog.cellsOf 5 = 1 := by kernel_rfl
  have c72 : Try.prog.cellsOf 72 = 1 := by kernel_rfl
  rw [c74] at h2 hcl
  obtain ⟨l⟩ := cs
  obtain ⟨a, b, rfl⟩ := list_two (show l.length = 2 from h2)
  obtain ⟨y0, y1, rfl⟩ := list_two (show xs.length = 2 from hxl)
  have g0 : DataW.trod enc Try.prog w base spare held m 5 (([a, b].drop 0).take (Try.prog.cellsOf 5)) = some y0 := hg 0 _ rfl
  have g1 : DataW.trod enc Try.prog w base spare held m 72 (([a, b].drop 1).take (Try.prog.cellsOf 72)) = some y1 := hg 1 _ rfl
  rw [c5] at g0
  rw [c72] at g1
  obtain ⟨a, rfl, wa⟩ := byte_of (show DataW.trod enc Try.prog w base spare held m 5 [a] = some y0 from g0)
  obtain ⟨l, A, c, e, h3, h4, h5⟩ := open_72 (show DataW.trod enc Try.prog w base spare held m 72 [b] = some y1 from g1)
  injection e with e _
  subst e
  exact ⟨a, A, c, l, rfl, h4, h3, wa, h5⟩
end
end Go.Proofs.Ytegffliopblajaa.P
end
section
open List (setIfInBounds_toArray set_cons_zero set_cons_succ)
section
namespace Go.Proofs.Ytegffliopblajaa.P
open Go.RowKit Go.Proofs.YtegffliopblajaaW.PrintWords Go.Proofs.YtegffliopblajaaW.PrintLast Go.Proofs.YtegffliopblajaaW.PrintMore
attribute [local go_sem] max2_int min2_int max_two min_two max_three min_three max_four min_four
set_option linter.unusedVariables false
set_option linter.unusedSimpArgs false
attribute [local go_sem high] eqA47
def pianolalaw03_Lane_made.l0 : Nat → Int → Int → List (S82) → Int → List (S47) → Option (Int × (List (S47)))
  | 0, _, _, _, _, _ => none
  | k + 1, x4, x380000, x380001, x382000, x382001 => if x4 < (x380001.length : Int) then (if x4 < 7 then (if 0 ≤ x4 then (if x382001.length < 8796093022208 then (pianolalaw03_Lane_made.l0 k (wrap64 (x4 + 1)) x380000 x380001 x382000 (x382001 ++ [(⟨Int.tmod (wrap64 ((rd_T82 x380001 x4).f0)) 40, wrap64 ((wrap64 ((Int.tmod (wrap64 ((rd_T82 x380001 x4).f0)) 40) + 1)) + (Int.tmod (wrap64 ((rd_T82 x380001 x4).f1)) 12))⟩ : S47)])) else (none)) else (none)) else (some (x382000, x382001))) else (some (x382000, x382001))
def pianolalaw03_Lane_made.f (k : Nat) (a0_0 : Int) (l0_1 : List (S82)) : Option (Int × (List (S47))) := pianolalaw03_Lane_made.l0 k 0 a0_0 l0_1 (Int.tmod (wrap64 (a0_0)) 8) ([] : List (S47))
def pianolalaw03_Lane_made.T6 : Bool × List (List Nat × List Nat) := (true, [([], []), ([0], [0]), ([], []), ([], []), ([3], [3]), ([], []), ([5], [5]), ([], []), ([6, 7], [6, 7]), ([8], [8]), ([9], [9]), ([10], [10]), ([11], [11]), ([4, 12], [4, 12]), ([2, 13], [2, 13]), ([14], [14]), ([1, 15], [1, 15]), ([0, 1, 2, 3, 4, 5, 6, 7, 8, 9, 10, 11, 12, 13, 14, 15, 16], []), ([17, 16, 16, 0, 1, 2, 3, 4, 5, 6, 7, 8, 9, 10, 11, 12, 13, 14, 15, 16], [16, 17])])
def pianolalaw03_Lane_made.B6 : List Nat := [0, 1, 0, 0, 8, 0, 32, 0, 224, 480, 992, 2016, 4064, 8184, 16380, 32764, 65535, 131071, 262143]
theorem pianolalaw03_Lane_made.tab6 : rtab .any (opsOf Try.f38 6) = pianolalaw03_Lane_made.T6 := by kernel_rfl
theorem pianolalaw03_Lane_made.bits6 : waitsOk pianolalaw03_Lane_made.T6.2 pianolalaw03_Lane_made.B6 = true := by kernel_rfl
set_option maxHeartbeats 8000000 in
set_option maxRecDepth 100000 in
theorem pianolalaw03_Lane_made.calls (k : Nat) (a0_0 : Int) (A0_1 : Option Addr) (c0_1 : Nat) (l0_1 : List (S82)) (r1 : Int) (r2 : List (S47)) (w : World) (hr0_1 : Kd.C k82 w A0_1 l0_1.length l0_1) (hc0_1 : l0_1.length ≤ c0_1) (h : pianolalaw03_Lane_made.f k a0_0 l0_1 = some (r1, r2)) :
  Calls Try.prog 38 #[.agg #[.int .u8 a0_0, .slice A0_1 l0_1.length c0_1]] w fun e w' => ∃ v1_ : Value, e = .returned (.agg #[.int .i64 r1, v1_]) ∧ Kd.R k47 47 w' w.heap.size (fun _ => True) v1_ r2 ∧ Below w.heap.size w w' := by
 have hu74 := Try.underlying74
 have hu24 := Try.underlying24
 have hu47 := Try.underlying47
 have HR0_1 := zA hr0_1
 have HC0_1 := zA hc0_1
 clear hr0_1 hc0_1
 have HB := zA (Below.refl w.heap.size w)
 have H : (pianolalaw03_Lane_made.l0 k 0 a0_0 l0_1 (Int.tmod (wrap64 (a0_0)) 8) ([] : List (S47))) = some (r1, r2) := h
 clear h
 have H' := zA H
 clear H
 go_enter Try.func38, Try.ntmps38
 go_wp2_with (first | ((with_reducible refine gate_dst (N := 1) rfl ?_); refine box_event ?hg (N := 1) ?hd (cs := #[.int .u8 a0_0, .slice A0_1 l0_1.length c0_1]) (t := 74) ?hr ?_; (case hd => rfl); (case hg => rfl); (case hr => first | (go_simp; done) | (go_simp; rfl)); intro gb379 hg w2 hbox hb; have n0_ := zA (below_step (zqA HB.out) hb); have n1_ := zA (hbox); have n2_ := zA ((by rw [hg]; exact (below_size (zqA HB.out)) : w.heap.size ≤ gb379)); have n3_ := zA ((by rw [hg]; exact (below_size (zqA HB.out)) : w.heap.size ≤ gb379)); clear HB; have HB := n0_; have BK379 := n1_; have GW379 := n2_; have GE379 := n3_; clear n0_ n1_ n2_ n3_; clear hb hbox hg) | ((with_reducible refine gate_dst (N := 2) rfl ?_); refine box_event ?hg (N := 2) ?hd (cs := #[.int .i64 0, .slice none 0 0]) (t := 24) ?hr ?_; (case hd => rfl); (case hg => rfl); (case hr => first | (go_simp; done) | (go_simp; rfl)); intro gb380 hg w3 hbox hb; have n0_ := zA (blk_below (g := gb379) (o := .cells #[.int .u8 a0_0, .slice A0_1 l0_1.length c0_1] 74 (0, 0)) (zqB BK379.out) hb); have n1_ := zA (below_step (zqG HB.out GE379.out) hb); have n2_ := zA (hbox); have n3_ := zA ((by rw [hg]; exact (below_size (zqG HB.out GE379.out)) : w.heap.size ≤ gb380)); have n4_ := zA ((by rw [hg]; exact (below_size (zqG HB.out GE379.out)) : w.heap.size ≤ gb380)); have n5_ := zA ((by rw [hg]; exact Nat.ne_of_lt (blk_lt (g := gb379) (o := .cells #[.int .u8 a0_0, .slice A0_1 l0_1.length c0_1] 74 (0, 0)) (zqB BK379.out)) : gb379 ≠ gb380)); have n6_ := zA ((by rw [hg]; exact Nat.ne_of_gt (blk_lt (g := gb379) (o := .cells #[.int .u8 a0_0, .slice A0_1 l0_1.length c0_1] 74 (0, 0)) (zqB BK379.out)) : gb380 ≠ gb379)); clear BK379; clear HB; have BK379 := n0_; have HB := n1_; have BK380 := n2_; have GW380 := n3_; have GE380 := n4_; have NB379_380 := n5_; have NB380_379 := n6_; clear n0_ n1_ n2_ n3_ n4_ n5_ n6_; clear hb hbox hg; have hnb4 := NB379_380.out; have hnc4 := NB380_379.out; have hcz5_0 : w3.cell? ⟨gb379, 0, none⟩ = some (.int .u8 a0_0) := (blk_cell BK379.out 0).trans rfl; have hcz5_1 : w3.cell? ⟨gb379, 1, none⟩ = some (.slice A0_1 l0_1.length c0_1) := (blk_cell BK379.out 1).trans rfl; have hfz5_0 := blk_frozen BK379.out 0; have hfz5_1 := blk_frozen BK379.out 1) | ((with_reducible refine gate_dst (N := 3) rfl ?_); refine box_event ?hg (N := 3) ?hd (cs := #[.int .i64 0, .slice none 0 0]) (t := 24) ?hr ?_; (case hd => rfl); (case hg => rfl); (case hr => first | (go_simp; done) | (go_simp; rfl)); intro gb381 hg w6 hbox hb; have n0_ := zA (blk_below (g := gb379) (o := .cells #[.int .u8 a0_0, .slice A0_1 l0_1.length c0_1] 74 (0, 0)) (zqB BK379.out) hb); have n1_ := zA (blk_below (g := gb380) (o := .cells #[.int .i64 0, .slice none 0 0] 24 (0, 0)) (zqB BK380.out) hb); have n2_ := zA (below_step (zqH HB.out GE379.out GE380.out) hb); have n3_ := zA (hbox); have n4_ := zA ((by rw [hg]; exact (below_size (zqH HB.out GE379.out GE380.out)) : w.heap.size ≤ gb381)); have n5_ := zA ((by rw [hg]; exact (below_size (zqH HB.out GE379.out GE380.out)) : w.heap.size ≤ gb381)); have n6_ := zA ((by rw [hg]; exact Nat.ne_of_lt (blk_lt (g := gb379) (o := .cells #[.int .u8 a0_0, .slice A0_1 l0_1.length c0_1] 74 (0, 0)) (zqB BK379.out)) : gb379 ≠ gb381)); have n7_ := zA ((by rw [hg]; exact Nat.ne_of_gt (blk_lt (g := gb379) (o := .cells #[.int .u8 a0_0, .slice A0_1 l0_1.length c0_1] 74 (0, 0)) (zqB BK379.out)) : gb381 ≠ gb379)); have n8_ := zA ((by rw [hg]; exact Nat.ne_of_lt (blk_lt (g := gb380) (o := .cells #[.int .i64 0, .slice none 0 0] 24 (0, 0)) (zqB BK380.out)) : gb380 ≠ gb381)); have n9_ := zA ((by rw [hg]; exact Nat.ne_of_gt (blk_lt (g := gb380) (o := .cells #[.int .i64 0, .slice none 0 0] 24 (0, 0)) (zqB BK380.out)) : gb381 ≠ gb380)); clear BK379; clear BK380; clear HB; have BK379 := n0_; have BK380 := n1_; have HB := n2_; have BK381 := n3_; have GW381 := n4_; have GE381 := n5_; have NB379_381 := n6_; have NB381_379 := n7_; have NB380_381 := n8_; have NB381_380 := n9_; clear n0_ n1_ n2_ n3_ n4_ n5_ n6_ n7_ n8_ n9_; clear hb hbox hg; have hnb7 := NB381_379.out; have hnc7 := NB379_381.out; have hnb8 := NB381_380.out; have hnc8 := NB380_381.out; have hcz9_0 : w6.cell? ⟨gb381, 0, none⟩ = some (.int .i64 0) := (blk_cell BK381.out 0).trans rfl; have hcz9_1 : w6.cell? ⟨gb381, 1, none⟩ = some (.slice none 0 0) := (blk_cell BK381.out 1).trans rfl; have hfz9_0 := blk_frozen BK381.out 0; have hfz9_1 := blk_frozen BK381.out 1))
 go_loopg [4] k (fun kq v4 w' => ∃ (x4_1 : Int) (x382001_1 : List (S47)) (u382001 : Value), v4 = .int .i64 x4_1 ∧ Aside0 (pianolalaw03_Lane_made.l0 kq x4_1 a0_0 l0_1 (Int.tmod (wrap64 (a0_0)) 8) x382001_1 = some (r1, r2)) ∧ Aside0 (kq ≤ k) ∧ Aside0 (Kd.R k47 47 w' w.heap.size (fun _ => True) u382001 x382001_1) ∧ Aside0 (w'.heap[gb379]? = some (.cells #[.int .u8 a0_0, (.slice A0_1 l0_1.length c0_1)] 74 (0, 0))) ∧ Aside0 (w'.heap[gb380]? = some (.cells #[.int .i64 0, (.slice none 0 0)] 24 (0, 0))) ∧ Aside0 (w'.heap[gb381]? = some (.cells #[.int .i64 (Int.tmod (wrap64 (a0_0)) 8), u382001] 24 (0, 0))) ∧ Aside0 (Below w.heap.size w w'))
 case atStart => exact ⟨(0), (([] : List (S47))), (.slice none 0 0), zqQ, H', ⟨Nat.le_refl _⟩, ⟨by first | exact Kd.R_nil _ _ _ _ _ | exact Kd.N_nil _ _ _ _ _ | exact Kd.V_nil _ _ _ _ _ | exact Kd.Q_nil _ _ _ _ _ | exact Kd.S_nil _ _ _ _ _⟩, ⟨by (with_reducible repeat (first | refine blk_drewN ?_ _ | refine blk_drew ?_ | refine blk_alloc ?_ _)); refine blk_far ?_ NB379_381.out _; (with_reducible repeat (first | refine blk_drewN ?_ _ | refine blk_drew ?_ | refine blk_alloc ?_ _)); refine blk_far ?_ NB379_381.out _; (with_reducible repeat (first | refine blk_drewN ?_ _ | refine blk_drew ?_ | refine blk_alloc ?_ _)); exact BK379.out⟩, ⟨by (with_reducible repeat (first | refine blk_drewN ?_ _ | refine blk_drew ?_ | refine blk_alloc ?_ _)); refine blk_far ?_ NB380_381.out _; (with_reducible repeat (first | refine blk_drewN ?_ _ | refine blk_drew ?_ | refine blk_alloc ?_ _)); refine blk_far ?_ NB380_381.out _; (with_reducible repeat (first | refine blk_drewN ?_ _ | refine blk_drew ?_ | refine blk_alloc ?_ _)); exact BK380.out⟩, ⟨by (with_reducible repeat (first | refine blk_drewN ?_ _ | refine blk_drew ?_ | refine blk_alloc ?_ _)); refine blk_put (cs := #[.int .i64 (Int.tmod (wrap64 (a0_0)) 8), .slice none 0 0]) ?_ 1 _ rfl; (with_reducible repeat (first | refine blk_drewN ?_ _ | refine blk_drew ?_ | refine blk_alloc ?_ _)); refine blk_put (cs := #[.int .i64 0, .slice none 0 0]) ?_ 0 _ rfl; (with_reducible repeat (first | refine blk_drewN ?_ _ | refine blk_drew ?_ | refine blk_alloc ?_ _)); exact BK381.out⟩, ⟨zqI HB.out GE379.out GE380.out GE381.out⟩⟩
 case round =>
  clear H'
  try clear p2
  try clear c3
  try clear c4
  try clear p6
  try clear c7
  try clear c8
  try clear hcz5_0
  try clear hcz5_1
  try clear hcz9_0
  try clear hcz9_1
  try clear hfz5_0
  try clear hfz5_1
  try clear hfz9_0
  try clear hfz9_1
  obtain ⟨x4_1, x382001_1, u382001, rfl, HA, HK1, HO_382001, BK379, BK380, BK381, HB⟩ := hrel
  cases gk with
  | zero => exact absurd HA.out (by simp [pianolalaw03_Lane_made.l0])
  | succ k1 =>
   have H := HA.out
   clear HA
   simp only [pianolalaw03_Lane_made.l0] at H
   by_cases c10 : x4_1 < (l0_1.length : Int)
   ·
    rw [if_pos c10] at H
    have c10b0 : decide (x4_1 < (l0_1.length : Int)) = true := decide_eq_true c10
    clear c10
    by_cases c11 : x4_1 < 7
    ·
     rw [if_pos c11] at H
     have c11b0 : decide (x4_1 < 7) = true := decide_eq_true c11
     clear c11
     by_cases c12 : 0 ≤ x4_1
     ·
      rw [if_pos c12] at H
      have c12b0 : decide (0 ≤ x4_1) = true := decide_eq_true c12
      clear c12
      by_cases c13 : x382001_1.length < 8796093022208
      ·
       rw [if_pos c13] at H
       have LMc13 := zA c13
       clear c13
       obtain ⟨y384, hy384⟩ : ∃ y_ : List (S47), y_ = (x382001_1 ++ [(⟨Int.tmod (wrap64 ((rd_T82 l0_1 x4_1).f0)) 40, wrap64 ((wrap64 ((Int.tmod (wrap64 ((rd_T82 l0_1 x4_1).f0)) 40) + 1)) + (Int.tmod (wrap64 ((rd_T82 l0_1 x4_1).f1)) 12))⟩ : S47)]) := ⟨_, rfl⟩
       replace H : (pianolalaw03_Lane_made.l0 k1 (wrap64 (x4_1 + 1)) a0_0 l0_1 (Int.tmod (wrap64 (a0_0)) 8) y384) = some (r1, r2) := zqF hy384 H
       have Ny384 := zA hy384
       clear hy384
       have H' := zA H
       clear H
       have hnb14 := NB379_380.out
       have hnc14 := NB380_379.out
       have hnb15 := NB379_381.out
       have hnc15 := NB381_379.out
       have hcz16_0 : wr.cell? ⟨gb379, 0, none⟩ = some (.int .u8 a0_0) := (blk_cell BK379.out 0).trans rfl
       have hcz16_1 : wr.cell? ⟨gb379, 1, none⟩ = some (.slice A0_1 l0_1.length c0_1) := (blk_cell BK379.out 1).trans rfl
       have hfz16_0 := blk_frozen BK379.out 0
       have hfz16_1 := blk_frozen BK379.out 1
       have p382 : 0 ≤ (x4_1 : Int) := of_decide_eq_true (zqD)
       have q382 : x4_1 < (l0_1.length : Int) := of_decide_eq_true (zqD)
       obtain ⟨ad382, e382, hx382_0, hx382_1⟩ := at_T82 HR0_1.out x4_1 p382 q382
       cases e382
       replace hx382_0 := (HB.out.cell (World.block_lt_of_cell? w _ hx382_0)).trans hx382_0
       replace hx382_1 := (HB.out.cell (World.block_lt_of_cell? w _ hx382_1)).trans hx382_1
       replace p382 := eq_true p382; replace q382 := eq_true q382
       try go_wp2
       have n0_ := zA (Kd.R_drew HO_382001.out); have n1_ := zA (blk_drew BK379.out); have n2_ := zA (blk_drew BK380.out); have n3_ := zA (blk_drew BK381.out); have n4_ := zA (below_drew1 HB.out); clear HO_382001 BK379 BK380 BK381 HB; have HO_382001 := n0_; have BK379 := n1_; have BK380 := n2_; have BK381 := n3_; have HB := n4_; clear n0_ n1_ n2_ n3_ n4_
       have p383 : 0 ≤ (x4_1 : Int) := of_decide_eq_true (zqD)
       have q383 : x4_1 < (l0_1.length : Int) := of_decide_eq_true (zqD)
       obtain ⟨ad383, e383, hx383_0, hx383_1⟩ := at_T82 HR0_1.out x4_1 p383 q383
       have hw383_1 := hx383_1; have hw383_0 := hx383_0
       obtain rfl : ad382 = ad383 := (by injection e383)
       replace hx383_0 := (HB.out.cell (World.block_lt_of_cell? w _ hx383_0)).trans hx383_0
       replace hx383_1 := (HB.out.cell (World.block_lt_of_cell? w _ hx383_1)).trans hx383_1
       replace p383 := eq_true p383; replace q383 := eq_true q383
       refine start_ (n := 19) (S := fun w' => w'.cell? ⟨gb381, 0, none⟩ = some (.int .i64 (Int.tmod (wrap64 (a0_0)) 8)) ∧ w'.cell? ⟨gb381, 1, none⟩ = some (u382001) ∧ w'.cell? ⟨gb379, 0, none⟩ = some (.int .u8 a0_0) ∧ w'.cell? ⟨gb379, 1, none⟩ = some (.slice (some ad382) l0_1.length c0_1) ∧ w'.cell? (ad382.add ((x4_1).toNat * 2)) = some (.int .u8 ((rd_T82 l0_1 x4_1).f0)) ∧ w'.cell? ⟨(ad382.add ((x4_1).toNat * 2)).block, (ad382.add ((x4_1).toNat * 2)).off + 1, none⟩ = some (.int .u8 ((rd_T82 l0_1 x4_1).f1))) (ds := [18]) #[false, false, false, false, false, false, false, false, false, false, false, false, false, false, false, false, false, false, false] (by kernel_rfl) rfl rfl ⟨(blk_cell BK381.out 0).trans rfl, (blk_cell BK381.out 1).trans rfl, (blk_cell BK379.out 0).trans rfl, (blk_cell BK379.out 1).trans rfl, ((HB.out.cell (World.block_lt_of_cell? w _ hw383_0)).trans hw383_0), ((HB.out.cell (World.block_lt_of_cell? w _ hw383_1)).trans hw383_1)⟩ (fun hHeld => ?_); refine with_tabW pianolalaw03_Lane_made.tab6 pianolalaw03_Lane_made.bits6 (fun HT_ HW_ => ?_)
       generalize wr.drew = w17 at HO_382001 BK379 BK380 BK381 HB hx383_0 hx383_1 hHeld ⊢
       refine pure_ (i := 0) (N := some 30) (v := ?_) (a' := ?_) #[true, false, false, false, false, false, false, false, false, false, false, false, false, false, false, false, false, false, false] rfl rfl (any_of HT_.out (by kernel_rfl)) (fun _ _ _ h => h) (Or.inl ⟨by rfl, ?_⟩) ?_ ?_
       rotate_left
       ·
        intro w'
        go_simp
        with_reducible rfl
       rotate_left
       · simp only [Act.put, setIfInBounds_toArray, set_cons_zero, set_cons_succ, i64_w, i32_w]; rfl
       refine pure_ (i := 2) (N := some 32) (v := ?_) (a' := ?_) #[true, false, true, false, false, false, false, false, false, false, false, false, false, false, false, false, false, false, false] rfl rfl (any_of HT_.out (by kernel_rfl)) (fun _ _ _ h => h) (Or.inl ⟨by rfl, ?_⟩) ?_ ?_
       rotate_left
       ·
        intro w'
        go_simp
        with_reducible rfl
       rotate_left
       · simp only [Act.put, setIfInBounds_toArray, set_cons_zero, set_cons_succ, i64_w, i32_w]; rfl
       refine pure_ (i := 3) (N := some 33) (v := ?_) (a' := ?_) #[true, false, true, true, false, false, false, false, false, false, false, false, false, false, false, false, false, false, false] rfl rfl (any_of HT_.out (by kernel_rfl)) (fun _ _ _ h => h) (Or.inl ⟨by rfl, ?_⟩) ?_ ?_
       rotate_left
       ·
        intro w'
        go_simp
        with_reducible rfl
       rotate_left
       · simp only [Act.put, setIfInBounds_toArray, set_cons_zero, set_cons_succ, i64_w, i32_w]; rfl
       refine pure_ (i := 4) (N := some 34) (v := ?_) (a' := ?_) #[true, false, true, true, true, false, false, false, false, false, false, false, false, false, false, false, false, false, false] rfl rfl (any_of HT_.out (by kernel_rfl)) (fun _ _ _ h => h) (Or.inl ⟨by rfl, ?_⟩) ?_ ?_
       rotate_left
       ·
        intro w'
        go_simp
        with_reducible rfl
       rotate_left
       · simp only [Act.put, setIfInBounds_toArray, set_cons_zero, set_cons_succ, i64_w, i32_w]; rfl
       refine pure_ (i := 5) (N := some 35) (v := ?_) (a' := ?_) #[true, false, true, true, true, true, false, false, false, false, false, false, false, false, false, false, false, false, false] rfl rfl (any_of HT_.out (by kernel_rfl)) (fun _ _ _ h => h) (Or.inl ⟨by rfl, ?_⟩) ?_ ?_
       rotate_left
       ·
        intro w'
        go_simp
        with_reducible rfl
       rotate_left
       · simp only [Act.put, setIfInBounds_toArray, set_cons_zero, set_cons_succ, i64_w, i32_w]; rfl
       refine pure_ (i := 7) (N := some 37) (v := ?_) (a' := ?_) #[true, false, true, true, true, true, false, true, false, false, false, false, false, false, false, false, false, false, false] rfl rfl (any_of HT_.out (by kernel_rfl)) (fun _ _ _ h => h) (Or.inl ⟨by rfl, ?_⟩) ?_ ?_
       rotate_left
       ·
        intro w'
        go_simp
        with_reducible rfl
       rotate_left
       · simp only [Act.put, setIfInBounds_toArray, set_cons_zero, set_cons_succ, i64_w, i32_w]; rfl
       refine take_ (i := 1) (N := some 31) (v := ?_) (a' := ?_) #[true, true, true, true, true, true, false, true, false, false, false, false, false, false, false, false, false, false, false] rfl rfl (take_ofW HT_.out HW_.out (by kernel_rfl)) (fun _ _ _ h => h) (Or.inl ⟨by rfl, ?_⟩) hHeld ?_ ?_
       rotate_left
       ·
        rintro w' ⟨s0, s1, s2, s3, s4, s5⟩
        go_simp
        with_reducible rfl
       rotate_left
       · simp only [Act.put, setIfInBounds_toArray, set_cons_zero, set_cons_succ, i64_w, i32_w]; rfl
       refine take_ (i := 6) (N := some 36) (v := ?_) (a' := ?_) #[true, true, true, true, true, true, true, true, false, false, false, false, false, false, false, false, false, false, false] rfl rfl (take_ofW HT_.out HW_.out (by kernel_rfl)) (fun _ _ _ h => h) (Or.inl ⟨by rfl, ?_⟩) hHeld ?_ ?_
       rotate_left
       ·
        rintro w' ⟨s0, s1, s2, s3, s4, s5⟩
        go_simp
        with_reducible rfl
       rotate_left
       · simp only [Act.put, setIfInBounds_toArray, set_cons_zero, set_cons_succ, i64_w, i32_w]; rfl
       refine pure_ (i := 8) (N := some 38) (v := ?_) (a' := ?_) #[true, true, true, true, true, true, true, true, true, false, false, false, false, false, false, false, false, false, false] rfl rfl (any_of HT_.out (by kernel_rfl)) (fun _ _ _ h => h) (Or.inl ⟨by rfl, ?_⟩) ?_ ?_
       rotate_left
       ·
        intro w'
        go_simp
        with_reducible rfl
       rotate_left
       · simp only [Act.put, setIfInBounds_toArray, set_cons_zero, set_cons_succ, i64_w, i32_w]; rfl
       refine pure_ (i := 9) (N := some 39) (v := ?_) (a' := ?_) #[true, true, true, true, true, true, true, true, true, true, false, false, false, false, false, false, false, false, false] rfl rfl (any_of HT_.out (by kernel_rfl)) (fun _ _ _ h => h) (Or.inl ⟨by rfl, ?_⟩) ?_ ?_
       rotate_left
       ·
        intro w'
        go_simp
        with_reducible rfl
       rotate_left
       · simp only [Act.put, setIfInBounds_toArray, set_cons_zero, set_cons_succ, i64_w, i32_w]; rfl
       refine take_ (i := 10) (N := some 40) (v := ?_) (a' := ?_) #[true, true, true, true, true, true, true, true, true, true, true, false, false, false, false, false, false, false, false] rfl rfl (take_ofW HT_.out HW_.out (by kernel_rfl)) (fun _ _ _ h => h) (Or.inl ⟨by rfl, ?_⟩) hHeld ?_ ?_
       rotate_left
       ·
        rintro w' ⟨s0, s1, s2, s3, s4, s5⟩
        go_simp
        with_reducible rfl
       rotate_left
       · simp only [Act.put, setIfInBounds_toArray, set_cons_zero, set_cons_succ, i64_w, i32_w]; rfl
       refine pure_ (i := 11) (N := some 41) (v := ?_) (a' := ?_) #[true, true, true, true, true, true, true, true, true, true, true, true, false, false, false, false, false, false, false] rfl rfl (any_of HT_.out (by kernel_rfl)) (fun _ _ _ h => h) (Or.inl ⟨by rfl, ?_⟩) ?_ ?_
       rotate_left
       ·
        intro w'
        go_simp
        with_reducible rfl
       rotate_left
       · simp only [Act.put, setIfInBounds_toArray, set_cons_zero, set_cons_succ, i64_w, i32_w]; rfl
       refine pure_ (i := 12) (N := some 42) (v := ?_) (a' := ?_) #[true, true, true, true, true, true, true, true, true, true, true, true, true, false, false, false, false, false, false] rfl rfl (any_of HT_.out (by kernel_rfl)) (fun _ _ _ h => h) (Or.inl ⟨by rfl, ?_⟩) ?_ ?_
       rotate_left
       ·
        intro w'
        go_simp
        with_reducible rfl
       rotate_left
       · simp only [Act.put, setIfInBounds_toArray, set_cons_zero, set_cons_succ, i64_w, i32_w]; rfl
       refine pure_ (i := 13) (N := some 43) (v := ?_) (a' := ?_) #[true, true, true, true, true, true, true, true, true, true, true, true, true, true, false, false, false, false, false] rfl rfl (any_of HT_.out (by kernel_rfl)) (fun _ _ _ h => h) (Or.inl ⟨by rfl, ?_⟩) ?_ ?_
       rotate_left
       ·
        intro w'
        go_simp
        with_reducible rfl
       rotate_left
       · simp only [Act.put, setIfInBounds_toArray, set_cons_zero, set_cons_succ, i64_w, i32_w]; rfl
       refine pure_ (i := 14) (N := some 44) (v := ?_) (a' := ?_) #[true, true, true, true, true, true, true, true, true, true, true, true, true, true, true, false, false, false, false] rfl rfl (any_of HT_.out (by kernel_rfl)) (fun _ _ _ h => h) (Or.inl ⟨by rfl, ?_⟩) ?_ ?_
       rotate_left
       ·
        intro w'
        go_simp
        with_reducible rfl
       rotate_left
       · simp only [Act.put, setIfInBounds_toArray, set_cons_zero, set_cons_succ, i64_w, i32_w]; rfl
       refine one_ (i := 15) (N := some 45) #[true, true, true, true, true, true, true, true, true, true, true, true, true, true, true, true, false, false, false] rfl rfl (one_of HT_.out (by kernel_rfl)) (by decide) (fun K hK => ?_)
       refine value_ (w1 := ?_) (v := ?_) (by rfl) rfl ?_ ?_
       rotate_left 2
       ·
        go_simp
        constructor
        ·
         rfl
        ·
         rfl
       refine hK.out _ _ ⟨(blk_cell (blk_alloc BK381.out _) 0).trans rfl, (blk_cell (blk_alloc BK381.out _) 1).trans rfl, (blk_cell (blk_alloc BK379.out _) 0).trans rfl, (blk_cell (blk_alloc BK379.out _) 1).trans rfl, (World.cell?_alloc_lt _ _ _ (World.block_lt_of_cell? _ _ (((HB.out.cell (World.block_lt_of_cell? w _ hw383_0)).trans hw383_0)))).trans (((HB.out.cell (World.block_lt_of_cell? w _ hw383_0)).trans hw383_0)), (World.cell?_alloc_lt _ _ _ (World.block_lt_of_cell? _ _ (((HB.out.cell (World.block_lt_of_cell? w _ hw383_1)).trans hw383_1)))).trans (((HB.out.cell (World.block_lt_of_cell? w _ hw383_1)).trans hw383_1))⟩ (fun hHeld => ?_)
       clear hK K; refine norm_ (a' := ?_) ?_ ?_; rotate_left
       · show Act.put _ (some 45) _ = _; simp only [Act.put, setIfInBounds_toArray, set_cons_zero, set_cons_succ, i64_w, i32_w]; rfl
       refine one_ (i := 16) (N := some 46) #[true, true, true, true, true, true, true, true, true, true, true, true, true, true, true, true, true, false, false] rfl rfl (one_of HT_.out (by kernel_rfl)) (by decide) (fun K hK => ?_)
       refine Kd.R_append_step k47 (w0 := w) w.heap.size (by rfl) (.tmp 31) (.tmp 45) 22 47 (.agg #[(.int .i64 0), (.int .i64 0)]) 16 rfl Try.underlying22 info47 rfl (by decide) (by omega) u382001 x382001_1 (⟨Int.tmod (wrap64 ((rd_T82 l0_1 x4_1).f0)) 40, wrap64 ((wrap64 ((Int.tmod (wrap64 ((rd_T82 l0_1 x4_1).f0)) 40) + 1)) + (Int.tmod (wrap64 ((rd_T82 l0_1 x4_1).f1)) 12))⟩ : S47) [.int .i64 (Int.tmod (wrap64 ((rd_T82 l0_1 x4_1).f0)) 40), .int .i64 (wrap64 ((wrap64 ((Int.tmod (wrap64 ((rd_T82 l0_1 x4_1).f0)) 40) + 1)) + (Int.tmod (wrap64 ((rd_T82 l0_1 x4_1).f1)) 12)))] (fun _ => True) (fun _ => False) rfl rfl ?aP (fun _ hk => hk.elim) ?aF ?aO ?aB ?aS ?aL ?_
       (case aP => exact k47_mkM _ _ _ (⟨Int.tmod (wrap64 ((rd_T82 l0_1 x4_1).f0)) 40, wrap64 ((wrap64 ((Int.tmod (wrap64 ((rd_T82 l0_1 x4_1).f0)) 40) + 1)) + (Int.tmod (wrap64 ((rd_T82 l0_1 x4_1).f1)) 12))⟩ : S47))
       (case aB => exact (zqI HB.out GE379.out GE380.out GE381.out))
       (case aF => exact (fun _ _ => trivial))
       (case aO => exact (zqC HO_382001.out))
       (case aS => exact (below_size (zqI HB.out GE379.out GE380.out GE381.out)))
       (case aL => have := LMc13.out; omega)
       intro v385 w18 ho hb hg hat
       rw [← Ny384.out] at ho
       have n0_ := zA (blk_grown (g := gb379) (o := .cells #[.int .u8 a0_0, .slice (some ad382) l0_1.length c0_1] 74 (0, 0)) (zqB BK379.out) hg (Kd.R_ne HO_382001.out BK379.out (by decide))); have n1_ := zA (blk_grown (g := gb380) (o := .cells #[.int .i64 0, .slice none 0 0] 24 (0, 0)) (zqB BK380.out) hg (Kd.R_ne HO_382001.out BK380.out (by decide))); have n2_ := zA (blk_grown (g := gb381) (o := .cells #[.int .i64 (Int.tmod (wrap64 (a0_0)) 8), u382001] 24 (0, 0)) (zqB BK381.out) hg (Kd.R_ne HO_382001.out BK381.out (by decide))); have n3_ := zA (hb); have n4_ := zA (ho); clear BK379 BK380 BK381 HB HO_382001; have BK379 := n0_; have BK380 := n1_; have BK381 := n2_; have HB := n3_; have HO386 := n4_; clear n0_ n1_ n2_ n3_ n4_ ho hb hg hat
       obtain ⟨Ao19, co19, eo19⟩ := Kd.R_slice HO386.out
       (first | subst eo19 | (injection eo19 with f1_ f2_ f3_; have f4_ := f1_.symm; have f5_ := f3_.symm; clear f1_ f2_ f3_; subst f4_; subst f5_))
       refine hK.out _ _ ⟨(blk_cell BK381.out 0).trans rfl, (blk_cell BK381.out 1).trans rfl, (blk_cell BK379.out 0).trans rfl, (blk_cell BK379.out 1).trans rfl, ((HB.out.cell (World.block_lt_of_cell? w _ hw383_0)).trans hw383_0), ((HB.out.cell (World.block_lt_of_cell? w _ hw383_1)).trans hw383_1)⟩ (fun hHeld => ?_)
       clear hK K; refine norm_ (a' := ?_) ?_ ?_; rotate_left
       · show Act.put _ (some 46) _ = _; simp only [Act.put, setIfInBounds_toArray, set_cons_zero, set_cons_succ, i64_w, i32_w]; rfl
       refine pure_ (i := 17) (N := some 47) (v := ?_) (a' := ?_) #[true, true, true, true, true, true, true, true, true, true, true, true, true, true, true, true, true, true, false] rfl rfl (any_of HT_.out (by kernel_rfl)) (fun _ _ _ h => h) (Or.inl ⟨by rfl, ?_⟩) ?_ ?_
       rotate_left
       ·
        intro w'
        go_simp
        with_reducible rfl
       rotate_left
       · simp only [Act.put, setIfInBounds_toArray, set_cons_zero, set_cons_succ, i64_w, i32_w]; rfl
       refine last_ (i := 18) (N := none) #[true, true, true, true, true, true, true, true, true, true, true, true, true, true, true, true, true, true, true] rfl rfl (one_of HT_.out (by kernel_rfl)) (by decide) (fun K hK => ?_)
       have hs20 : w18.cell? ⟨gb381, 1, none⟩ = some (u382001) := (blk_cell BK381.out 1).trans rfl
       have hfs20 := blk_frozen BK381.out 1
       have hns20_0 := NB379_381.out
       have hns20_1 := NB380_381.out
       have hms20_0 := NB381_379.out
       have hms20_1 := NB381_380.out
       refine skip_ (w1 := ?_) (by rfl) rfl ?_ ?_
       rotate_left
       ·
        go_simp
        rfl
       refine hK.out _ _ ?_
       clear hK K
       refine done_ (done_of HT_.out (by kernel_rfl)) ?_
       try go_wp2
       go_roundg k1
       case measure => have := HK1.out; omega
       case rel => exact ⟨(wrap64 (x4_1 + 1)), (y384), (.slice Ao19 y384.length co19), zqQ, H', ⟨by have := HK1.out; omega⟩, ⟨by (with_reducible repeat (first | apply Kd.R_alloc | apply Kd.R_drewN | apply Kd.R_drew)); exact Kd.R_mono (Kd.R_far (p := ⟨gb381, 1, none⟩) (Kd.R_types HO386.out BK381.out (by decide)) (fun _ hk => hk.2) (.slice Ao19 y384.length co19)) (fun _ hk => trivial)⟩, ⟨by (with_reducible repeat (first | refine blk_drewN ?_ _ | refine blk_drew ?_ | refine blk_alloc ?_ _)); refine blk_far ?_ NB379_381.out _; (with_reducible repeat (first | refine blk_drewN ?_ _ | refine blk_drew ?_ | refine blk_alloc ?_ _)); exact BK379.out⟩, ⟨by (with_reducible repeat (first | refine blk_drewN ?_ _ | refine blk_drew ?_ | refine blk_alloc ?_ _)); refine blk_far ?_ NB380_381.out _; (with_reducible repeat (first | refine blk_drewN ?_ _ | refine blk_drew ?_ | refine blk_alloc ?_ _)); exact BK380.out⟩, ⟨by (with_reducible repeat (first | refine blk_drewN ?_ _ | refine blk_drew ?_ | refine blk_alloc ?_ _)); refine blk_put (cs := #[.int .i64 (Int.tmod (wrap64 (a0_0)) 8), u382001]) ?_ 1 _ rfl; (with_reducible repeat (first | refine blk_drewN ?_ _ | refine blk_drew ?_ | refine blk_alloc ?_ _)); exact BK381.out⟩, ⟨zqI HB.out GE379.out GE380.out GE381.out⟩⟩
      ·
       rw [if_neg c13] at H
       exact absurd H (by simp)
     ·
      rw [if_neg c12] at H
      exact absurd H (by simp)
    ·
     rw [if_neg c11] at H
     have c11b0 : decide (x4_1 < 7) = false := decide_eq_false c11
     clear c11
     simp only [Option.some.injEq, Prod.mk.injEq] at H
     obtain ⟨rfl, rfl⟩ := H
     have hnb21 := NB379_380.out
     have hnc21 := NB380_379.out
     have hnb22 := NB379_381.out
     have hnc22 := NB381_379.out
     have hcz23_0 : wr.cell? ⟨gb379, 0, none⟩ = some (.int .u8 a0_0) := (blk_cell BK379.out 0).trans rfl
     have hcz23_1 : wr.cell? ⟨gb379, 1, none⟩ = some (.slice A0_1 l0_1.length c0_1) := (blk_cell BK379.out 1).trans rfl
     have hfz23_0 := blk_frozen BK379.out 0
     have hfz23_1 := blk_frozen BK379.out 1
     have hnb24 := NB381_380.out
     have hnc24 := NB380_381.out
     have hcz25_0 : wr.cell? ⟨gb381, 0, none⟩ = some (.int .i64 (Int.tmod (wrap64 (a0_0)) 8)) := (blk_cell BK381.out 0).trans rfl
     have hcz25_1 : wr.cell? ⟨gb381, 1, none⟩ = some (u382001) := (blk_cell BK381.out 1).trans rfl
     have hfz25_0 := blk_frozen BK381.out 0
     have hfz25_1 := blk_frozen BK381.out 1
     have hcz26_0 : wr.cell? ⟨gb380, 0, none⟩ = some (.int .i64 0) := (blk_cell BK380.out 0).trans rfl
     have hcz26_1 : wr.cell? ⟨gb380, 1, none⟩ = some (.slice none 0 0) := (blk_cell BK380.out 1).trans rfl
     have hfz26_0 := blk_frozen BK380.out 0
     have hfz26_1 := blk_frozen BK380.out 1
     obtain ⟨Ao27, co27, eo27⟩ := Kd.R_slice HO_382001.out
     subst eo27
     go_wp2
     refine bodyPost_ret (results_cell_row rfl _ _ gb380 24 #[.int .i64 (Int.tmod (wrap64 (a0_0)) 8), .slice Ao27 x382001_1.length co27] (0, 0) _ rfl (by (with_reducible repeat (first | refine blk_drewN ?_ _ | refine blk_drew ?_ | refine blk_alloc ?_ _)); refine blk_put (cs := #[.int .i64 (Int.tmod (wrap64 (a0_0)) 8), .slice none 0 0]) ?_ 1 _ rfl; (with_reducible repeat (first | refine blk_drewN ?_ _ | refine blk_drew ?_ | refine blk_alloc ?_ _)); refine blk_put (cs := #[.int .i64 0, .slice none 0 0]) ?_ 0 _ rfl; (with_reducible repeat (first | refine blk_drewN ?_ _ | refine blk_drew ?_ | refine blk_alloc ?_ _)); exact BK380.out) Try.underlying24 rfl (by kernel_rfl)) rfl ?_
     exact ⟨_, zqR, by (with_reducible repeat (first | apply Kd.R_alloc | apply Kd.R_drewN | apply Kd.R_drew)); exact Kd.R_mono (Kd.R_far (p := ⟨gb380, 1, none⟩) (Kd.R_far (p := ⟨gb380, 0, none⟩) (Kd.R_types HO_382001.out BK380.out (by decide)) (fun _ hk => hk.2) (.int .i64 (Int.tmod (wrap64 (a0_0)) 8))) (fun _ hk => hk.2) (.slice Ao27 x382001_1.length co27)) (fun _ hk => trivial), zqI HB.out GE379.out GE380.out GE381.out⟩
   ·
    rw [if_neg c10] at H
    have c10b0 : decide (x4_1 < (l0_1.length : Int)) = false := decide_eq_false c10
    clear c10
    simp only [Option.some.injEq, Prod.mk.injEq] at H
    obtain ⟨rfl, rfl⟩ := H
    have hnb28 := NB379_380.out
    have hnc28 := NB380_379.out
    have hnb29 := NB379_381.out
    have hnc29 := NB381_379.out
    have hcz30_0 : wr.cell? ⟨gb379, 0, none⟩ = some (.int .u8 a0_0) := (blk_cell BK379.out 0).trans rfl
    have hcz30_1 : wr.cell? ⟨gb379, 1, none⟩ = some (.slice A0_1 l0_1.length c0_1) := (blk_cell BK379.out 1).trans rfl
    have hfz30_0 := blk_frozen BK379.out 0
    have hfz30_1 := blk_frozen BK379.out 1
    have hnb31 := NB381_380.out
    have hnc31 := NB380_381.out
    have hcz32_0 : wr.cell? ⟨gb381, 0, none⟩ = some (.int .i64 (Int.tmod (wrap64 (a0_0)) 8)) := (blk_cell BK381.out 0).trans rfl
    have hcz32_1 : wr.cell? ⟨gb381, 1, none⟩ = some (u382001) := (blk_cell BK381.out 1).trans rfl
    have hfz32_0 := blk_frozen BK381.out 0
    have hfz32_1 := blk_frozen BK381.out 1
    have hcz33_0 : wr.cell? ⟨gb380, 0, none⟩ = some (.int .i64 0) := (blk_cell BK380.out 0).trans rfl
    have hcz33_1 : wr.cell? ⟨gb380, 1, none⟩ = some (.slice none 0 0) := (blk_cell BK380.out 1).trans rfl
    have hfz33_0 := blk_frozen BK380.out 0
    have hfz33_1 := blk_frozen BK380.out 1
    obtain ⟨Ao34, co34, eo34⟩ := Kd.R_slice HO_382001.out
    subst eo34
    go_wp2
    refine bodyPost_ret (results_cell_row rfl _ _ gb380 24 #[.int .i64 (Int.tmod (wrap64 (a0_0)) 8), .slice Ao34 x382001_1.length co34] (0, 0) _ rfl (by (with_reducible repeat (first | refine blk_drewN ?_ _ | refine blk_drew ?_ | refine blk_alloc ?_ _)); refine blk_put (cs := #[.int .i64 (Int.tmod (wrap64 (a0_0)) 8), .slice none 0 0]) ?_ 1 _ rfl; (with_reducible repeat (first | refine blk_drewN ?_ _ | refine blk_drew ?_ | refine blk_alloc ?_ _)); refine blk_put (cs := #[.int .i64 0, .slice none 0 0]) ?_ 0 _ rfl; (with_reducible repeat (first | refine blk_drewN ?_ _ | refine blk_drew ?_ | refine blk_alloc ?_ _)); exact BK380.out) Try.underlying24 rfl (by kernel_rfl)) rfl ?_
    exact ⟨_, zqR, by (with_reducible repeat (first | apply Kd.R_alloc | apply Kd.R_drewN | apply Kd.R_drew)); exact Kd.R_mono (Kd.R_far (p := ⟨gb380, 1, none⟩) (Kd.R_far (p := ⟨gb380, 0, none⟩) (Kd.R_types HO_382001.out BK380.out (by decide)) (fun _ hk => hk.2) (.int .i64 (Int.tmod (wrap64 (a0_0)) 8))) (fun _ hk => hk.2) (.slice Ao34 x382001_1.length co34)) (fun _ hk => trivial), zqI HB.out GE379.out GE380.out GE381.out⟩
def pianolalaw03_near.l0 : Nat → Int → Int → Int → Int → Int → Int → Option (Bool)
  | 0, _, _, _, _, _, _ => none
  | k + 1, x2, x7, x388000, x388001, x389000, x389001 => if x7 < 80 then (if x388000 ≤ x7 then (if x7 < (wrap64 (x388001 + x2)) then (if x389000 ≤ x7 then (if x7 < (wrap64 (x389001 + x2)) then (some true) else (pianolalaw03_near.l0 k x2 (wrap64 (x7 + 1)) x388000 x388001 x389000 x389001)) else (pianolalaw03_near.l0 k x2 (wrap64 (x7 + 1)) x388000 x388001 x389000 x389001)) else (pianolalaw03_near.l0 k x2 (wrap64 (x7 + 1)) x388000 x388001 x389000 x389001)) else (pianolalaw03_near.l0 k x2 (wrap64 (x7 + 1)) x388000 x388001 x389000 x389001)) else (some false)
def pianolalaw03_near.f (k : Nat) (a0_0 : Int) (a0_1 : Int) (a1_0 : Int) (a1_1 : Int) (a2 : Int) : Option (Bool) := pianolalaw03_near.l0 k a2 0 a0_0 a0_1 a1_0 a1_1
set_option maxHeartbeats 8000000 in
set_option maxRecDepth 100000 in
theorem pianolalaw03_near.calls (k : Nat) (a0_0 : Int) (a0_1 : Int) (a1_0 : Int) (a1_1 : Int) (a2 : Int) (r : Bool) (w : World) (h : pianolalaw03_near.f k a0_0 a0_1 a1_0 a1_1 a2 = some r) :
  Calls Try.prog 41 #[.agg #[.int .i64 a0_0, .int .i64 a0_1], .agg #[.int .i64 a1_0, .int .i64 a1_1], .int .i64 a2] w fun e w' => e = .returned (.bool r) ∧ Below w.heap.size w w' := by
 have hu47 := Try.underlying47
 have HB := zA (Below.refl w.heap.size w)
 have H : (pianolalaw03_near.l0 k a2 0 a0_0 a0_1 a1_0 a1_1) = some r := h
 clear h
 have H' := zA H
 clear H
 go_enter Try.func41, Try.ntmps41
 go_wp2_with (first | ((with_reducible refine gate_dst (N := 3) rfl ?_); refine box_event ?hg (N := 3) ?hd (cs := #[.int .i64 a0_0, .int .i64 a0_1]) (t := 47) ?hr ?_; (case hd => rfl); (case hg => rfl); (case hr => first | (go_simp; done) | (go_simp; rfl)); intro gb387 hg w4 hbox hb; have n0_ := zA (below_step (zqA HB.out) hb); have n1_ := zA (hbox); have n2_ := zA ((by rw [hg]; exact (below_size (zqA HB.out)) : w.heap.size ≤ gb387)); have n3_ := zA ((by rw [hg]; exact (below_size (zqA HB.out)) : w.heap.size ≤ gb387)); clear HB; have HB := n0_; have BK387 := n1_; have GW387 := n2_; have GE387 := n3_; clear n0_ n1_ n2_ n3_; clear hb hbox hg) | ((with_reducible refine gate_dst (N := 4) rfl ?_); refine box_event ?hg (N := 4) ?hd (cs := #[.int .i64 a1_0, .int .i64 a1_1]) (t := 47) ?hr ?_; (case hd => rfl); (case hg => rfl); (case hr => first | (go_simp; done) | (go_simp; rfl)); intro gb388 hg w5 hbox hb; have n0_ := zA (blk_below (g := gb387) (o := .cells #[.int .i64 a0_0, .int .i64 a0_1] 47 (0, 0)) (zqB BK387.out) hb); have n1_ := zA (below_step (zqG HB.out GE387.out) hb); have n2_ := zA (hbox); have n3_ := zA ((by rw [hg]; exact (below_size (zqG HB.out GE387.out)) : w.heap.size ≤ gb388)); have n4_ := zA ((by rw [hg]; exact (below_size (zqG HB.out GE387.out)) : w.heap.size ≤ gb388)); have n5_ := zA ((by rw [hg]; exact Nat.ne_of_lt (blk_lt (g := gb387) (o := .cells #[.int .i64 a0_0, .int .i64 a0_1] 47 (0, 0)) (zqB BK387.out)) : gb387 ≠ gb388)); have n6_ := zA ((by rw [hg]; exact Nat.ne_of_gt (blk_lt (g := gb387) (o := .cells #[.int .i64 a0_0, .int .i64 a0_1] 47 (0, 0)) (zqB BK387.out)) : gb388 ≠ gb387)); clear BK387; clear HB; have BK387 := n0_; have HB := n1_; have BK388 := n2_; have GW388 := n3_; have GE388 := n4_; have NB387_388 := n5_; have NB388_387 := n6_; clear n0_ n1_ n2_ n3_ n4_ n5_ n6_; clear hb hbox hg))
 go_loopg [7] k (fun kq v7 w' => ∃ (x7_1 : Int), v7 = .int .i64 x7_1 ∧ Aside0 (pianolalaw03_near.l0 kq a2 x7_1 a0_0 a0_1 a1_0 a1_1 = some r) ∧ Aside0 (kq ≤ k) ∧ Aside0 (w'.heap[gb387]? = some (.cells #[.int .i64 a0_0, .int .i64 a0_1] 47 (0, 0))) ∧ Aside0 (w'.heap[gb388]? = some (.cells #[.int .i64 a1_0, .int .i64 a1_1] 47 (0, 0))) ∧ Aside0 (Below w.heap.size w w'))
 case atStart => exact ⟨(0), zqQ, H', ⟨Nat.le_refl _⟩, ⟨zqB BK387.out⟩, ⟨zqB BK388.out⟩, ⟨zqH HB.out GE387.out GE388.out⟩⟩
 case round =>
  clear H'
  try clear p2
  try clear c4
  obtain ⟨x7_1, rfl, HA, HK1, BK387, BK388, HB⟩ := hrel
  cases gk with
  | zero => exact absurd HA.out (by simp [pianolalaw03_near.l0])
  | succ k1 =>
   have H := HA.out
   clear HA
   simp only [pianolalaw03_near.l0] at H
   by_cases c6 : x7_1 < 80
   ·
    rw [if_pos c6] at H
    have c6b0 : decide (x7_1 < 80) = true := decide_eq_true c6
    clear c6
    by_cases c7 : a0_0 ≤ x7_1
    ·
     rw [if_pos c7] at H
     have c7b0 : decide (a0_0 ≤ x7_1) = true := decide_eq_true c7
     clear c7
     by_cases c8 : x7_1 < (wrap64 (a0_1 + a2))
     ·
      rw [if_pos c8] at H
      have c8b0 : decide (x7_1 < (wrap64 (a0_1 + a2))) = true := decide_eq_true c8
      clear c8
      by_cases c9 : a1_0 ≤ x7_1
      ·
       rw [if_pos c9] at H
       have c9b0 : decide (a1_0 ≤ x7_1) = true := decide_eq_true c9
       clear c9
       by_cases c10 : x7_1 < (wrap64 (a1_1 + a2))
       ·
        rw [if_pos c10] at H
        have c10b0 : decide (x7_1 < (wrap64 (a1_1 + a2))) = true := decide_eq_true c10
        clear c10
        obtain rfl := Option.some.inj H
        have hnb11 := NB387_388.out
        have hnc11 := NB388_387.out
        have hcz12_0 : wr.cell? ⟨gb387, 0, none⟩ = some (.int .i64 a0_0) := (blk_cell BK387.out 0).trans rfl
        have hcz12_1 : wr.cell? ⟨gb387, 1, none⟩ = some (.int .i64 a0_1) := (blk_cell BK387.out 1).trans rfl
        have hfz12_0 := blk_frozen BK387.out 0
        have hfz12_1 := blk_frozen BK387.out 1
        have hcz13_0 : wr.cell? ⟨gb388, 0, none⟩ = some (.int .i64 a1_0) := (blk_cell BK388.out 0).trans rfl
        have hcz13_1 : wr.cell? ⟨gb388, 1, none⟩ = some (.int .i64 a1_1) := (blk_cell BK388.out 1).trans rfl
        have hfz13_0 := blk_frozen BK388.out 0
        have hfz13_1 := blk_frozen BK388.out 1
        go_wp2
        go_ret
        exact ⟨zqR, zqH HB.out GE387.out GE388.out⟩
       ·
        rw [if_neg c10] at H
        have c10b0 : decide (x7_1 < (wrap64 (a1_1 + a2))) = false := decide_eq_false c10
        clear c10
        have H' := zA H
        clear H
        have hnb14 := NB387_388.out
        have hnc14 := NB388_387.out
        have hcz15_0 : wr.cell? ⟨gb387, 0, none⟩ = some (.int .i64 a0_0) := (blk_cell BK387.out 0).trans rfl
        have hcz15_1 : wr.cell? ⟨gb387, 1, none⟩ = some (.int .i64 a0_1) := (blk_cell BK387.out 1).trans rfl
        have hfz15_0 := blk_frozen BK387.out 0
        have hfz15_1 := blk_frozen BK387.out 1
        have hcz16_0 : wr.cell? ⟨gb388, 0, none⟩ = some (.int .i64 a1_0) := (blk_cell BK388.out 0).trans rfl
        have hcz16_1 : wr.cell? ⟨gb388, 1, none⟩ = some (.int .i64 a1_1) := (blk_cell BK388.out 1).trans rfl
        have hfz16_0 := blk_frozen BK388.out 0
        have hfz16_1 := blk_frozen BK388.out 1
        go_wp2
        go_roundg k1
        case measure => have := HK1.out; omega
        case rel => exact ⟨(wrap64 (x7_1 + 1)), zqQ, H', ⟨by have := HK1.out; omega⟩, ⟨zqB BK387.out⟩, ⟨zqB BK388.out⟩, ⟨zqH HB.out GE387.out GE388.out⟩⟩
      ·
       rw [if_neg c9] at H
       have c9b0 : decide (a1_0 ≤ x7_1) = false := decide_eq_false c9
       clear c9
       have H' := zA H
       clear H
       have hnb17 := NB387_388.out
       have hnc17 := NB388_387.out
       have hcz18_0 : wr.cell? ⟨gb387, 0, none⟩ = some (.int .i64 a0_0) := (blk_cell BK387.out 0).trans rfl
       have hcz18_1 : wr.cell? ⟨gb387, 1, none⟩ = some (.int .i64 a0_1) := (blk_cell BK387.out 1).trans rfl
       have hfz18_0 := blk_frozen BK387.out 0
       have hfz18_1 := blk_frozen BK387.out 1
       have hcz19_0 : wr.cell? ⟨gb388, 0, none⟩ = some (.int .i64 a1_0) := (blk_cell BK388.out 0).trans rfl
       have hcz19_1 : wr.cell? ⟨gb388, 1, none⟩ = some (.int .i64 a1_1) := (blk_cell BK388.out 1).trans rfl
       have hfz19_0 := blk_frozen BK388.out 0
       have hfz19_1 := blk_frozen BK388.out 1
       go_wp2
       go_roundg k1
       case measure => have := HK1.out; omega
       case rel => exact ⟨(wrap64 (x7_1 + 1)), zqQ, H', ⟨by have := HK1.out; omega⟩, ⟨zqB BK387.out⟩, ⟨zqB BK388.out⟩, ⟨zqH HB.out GE387.out GE388.out⟩⟩
     ·
      rw [if_neg c8] at H
      have c8b0 : decide (x7_1 < (wrap64 (a0_1 + a2))) = false := decide_eq_false c8
      clear c8
      have H' := zA H
      clear H
      have hnb20 := NB387_388.out
      have hnc20 := NB388_387.out
      have hcz21_0 : wr.cell? ⟨gb387, 0, none⟩ = some (.int .i64 a0_0) := (blk_cell BK387.out 0).trans rfl
      have hcz21_1 : wr.cell? ⟨gb387, 1, none⟩ = some (.int .i64 a0_1) := (blk_cell BK387.out 1).trans rfl
      have hfz21_0 := blk_frozen BK387.out 0
      have hfz21_1 := blk_frozen BK387.out 1
      go_wp2
      go_roundg k1
      case measure => have := HK1.out; omega
      case rel => exact ⟨(wrap64 (x7_1 + 1)), zqQ, H', ⟨by have := HK1.out; omega⟩, ⟨zqB BK387.out⟩, ⟨zqB BK388.out⟩, ⟨zqH HB.out GE387.out GE388.out⟩⟩
    ·
     rw [if_neg c7] at H
     have c7b0 : decide (a0_0 ≤ x7_1) = false := decide_eq_false c7
     clear c7
     have H' := zA H
     clear H
     have hnb22 := NB387_388.out
     have hnc22 := NB388_387.out
     have hcz23_0 : wr.cell? ⟨gb387, 0, none⟩ = some (.int .i64 a0_0) := (blk_cell BK387.out 0).trans rfl
     have hcz23_1 : wr.cell? ⟨gb387, 1, none⟩ = some (.int .i64 a0_1) := (blk_cell BK387.out 1).trans rfl
     have hfz23_0 := blk_frozen BK387.out 0
     have hfz23_1 := blk_frozen BK387.out 1
     go_wp2
     go_roundg k1
     case measure => have := HK1.out; omega
     case rel => exact ⟨(wrap64 (x7_1 + 1)), zqQ, H', ⟨by have := HK1.out; omega⟩, ⟨zqB BK387.out⟩, ⟨zqB BK388.out⟩, ⟨zqH HB.out GE387.out GE388.out⟩⟩
   ·
    rw [if_neg c6] at H
    have c6b0 : decide (x7_1 < 80) = false := decide_eq_false c6
    clear c6
    obtain rfl := Option.some.inj H
    go_wp2
    go_ret
    exact ⟨zqR, zqH HB.out GE387.out GE388.out⟩
mutual
def pianolalaw03_good.l0 : Nat → List Int → Int → Int → Int → List (S47) → Option (Bool)
  | 0, _, _, _, _, _ => none
  | k + 1, x1, x8, x9, x390000, x390001 => if x9 < x8 then (pianolalaw03_good.l1 k x1 x9 0 x8 x9 x390000 x390001) else (some true)
def pianolalaw03_good.l1 : Nat → List Int → Int → Int → Int → Int → Int → List (S47) → Option (Bool)
  | 0, _, _, _, _, _, _, _ => none
  | k + 1, x1, x5, x6, x8, x9, x390000, x390001 => if x6 < x5 then (if 0 ≤ x5 then (if x5 < (x1.length : Int) then (if 0 ≤ x6 then (if x6 < (x1.length : Int) then (if (rd x1 x5) = (rd x1 x6) then (if x5 < (x390001.length : Int) then (if x6 < (x390001.length : Int) then ((pianolalaw03_near.f k ((rd_T47 x390001 x5).f0) ((rd_T47 x390001 x5).f1) ((rd_T47 x390001 x6).f0) ((rd_T47 x390001 x6).f1) x390000).bind fun t394 => (if t394 = true then (some false) else (pianolalaw03_good.l1 k x1 x5 (wrap64 (x6 + 1)) x8 x9 x390000 x390001))) else (none)) else (none)) else (pianolalaw03_good.l1 k x1 x5 (wrap64 (x6 + 1)) x8 x9 x390000 x390001)) else (none)) else (none)) else (none)) else (none)) else (pianolalaw03_good.l0 k x1 x8 (wrap64 (x9 + 1)) x390000 x390001)
end
def pianolalaw03_good.f (k : Nat) (a0_0 : Int) (l0_1 : List (S47)) (l1 : List Int) : Option (Bool) := pianolalaw03_good.l0 k l1 (l1.length : Int) 0 a0_0 l0_1
def pianolalaw03_good.T7 : Bool × List (List Nat × List Nat) := (true, [([], []), ([], []), ([0, 1], [0, 1]), ([2], [2]), ([], []), ([], []), ([4, 5], [4, 5]), ([6], [6]), ([3, 7], [3, 7]), ([8], [8]), ([9], [9]), ([10, 9], [9, 10]), ([9], [9]), ([11, 12, 9], [9, 11, 12]), ([13, 9], [9, 13]), ([9], [9]), ([15, 9], [9, 15]), ([9], [9]), ([16, 17, 9], [9, 16, 17]), ([18, 9], [9, 18]), ([9], [9]), ([20, 9], [9, 20]), ([14, 19, 21, 9, 9], [9, 14, 19, 21]), ([9, 22], [9, 22])])
def pianolalaw03_good.B7 : List Nat := [0, 0, 3, 7, 0, 0, 48, 112, 255, 511, 1023, 2047, 1023, 8191, 16383, 1023, 33791, 1023, 230399, 492543, 1023, 1049599, 4194303, 8388607]
theorem pianolalaw03_good.tab7 : rtab .any (opsOf Try.f39 7) = pianolalaw03_good.T7 := by kernel_rfl
theorem pianolalaw03_good.bits7 : waitsOk pianolalaw03_good.T7.2 pianolalaw03_good.B7 = true := by kernel_rfl
set_option maxHeartbeats 8000000 in
set_option maxRecDepth 100000 in
theorem pianolalaw03_good.calls (k : Nat) (a0_0 : Int) (A0_1 : Option Addr) (c0_1 : Nat) (l0_1 : List (S47)) (A1 : Option Addr) (c1 : Nat) (l1 : List Int) (r : Bool) (w : World) (hr0_1 : Kd.C k47 w A0_1 l0_1.length l0_1) (hc0_1 : l0_1.length ≤ c0_1) (hr1 : Kd.C (Kd.int .i64) w A1 l1.length l1) (hc1 : l1.length ≤ c1) (h : pianolalaw03_good.f k a0_0 l0_1 l1 = some r) :
  Calls Try.prog 39 #[.agg #[.int .i64 a0_0, .slice A0_1 l0_1.length c0_1], .slice A1 l1.length c1] w fun e w' => e = .returned (.bool r) ∧ Below w.heap.size w w' := by
 have hu24 := Try.underlying24
 have hu47 := Try.underlying47
 have HR0_1 := zA hr0_1
 have HC0_1 := zA hc0_1
 clear hr0_1 hc0_1
 have HR1 := zA hr1
 have HC1 := zA hc1
 clear hr1 hc1
 have HB := zA (Below.refl w.heap.size w)
 have H : (pianolalaw03_good.l0 k l1 (l1.length : Int) 0 a0_0 l0_1) = some r := h
 clear h
 have H' := zA H
 clear H
 go_enter Try.func39, Try.ntmps39
 go_wp2_with (first | ((with_reducible refine gate_dst (N := 2) rfl ?_); refine box_event ?hg (N := 2) ?hd (cs := #[.int .i64 a0_0, .slice A0_1 l0_1.length c0_1]) (t := 24) ?hr ?_; (case hd => rfl); (case hg => rfl); (case hr => first | (go_simp; done) | (go_simp; rfl)); intro gb389 hg w3 hbox hb; have n0_ := zA (below_step (zqA HB.out) hb); have n1_ := zA (hbox); have n2_ := zA ((by rw [hg]; exact (below_size (zqA HB.out)) : w.heap.size ≤ gb389)); have n3_ := zA ((by rw [hg]; exact (below_size (zqA HB.out)) : w.heap.size ≤ gb389)); clear HB; have HB := n0_; have BK389 := n1_; have GW389 := n2_; have GE389 := n3_; clear n0_ n1_ n2_ n3_; clear hb hbox hg))
 go_loopg [9] k (fun kq v9 w' => ∃ (x9_1 : Int), v9 = .int .i64 x9_1 ∧ Aside0 (pianolalaw03_good.l0 kq l1 (l1.length : Int) x9_1 a0_0 l0_1 = some r) ∧ Aside0 (kq ≤ k) ∧ Aside0 (w'.heap[gb389]? = some (.cells #[.int .i64 a0_0, (.slice A0_1 l0_1.length c0_1)] 24 (0, 0))) ∧ Aside0 (Below w.heap.size w w'))
 case atStart => exact ⟨(0), zqQ, H', ⟨Nat.le_refl _⟩, ⟨zqB BK389.out⟩, ⟨zqG HB.out GE389.out⟩⟩
 case round =>
  clear H'
  try clear c1
  try clear p2
  try clear c3
  obtain ⟨x9_1, rfl, HA, HK1, BK389, HB⟩ := hrel
  cases gk with
  | zero => exact absurd HA.out (by simp [pianolalaw03_good.l0])
  | succ k1 =>
   have H := HA.out
   clear HA
   simp only [pianolalaw03_good.l0] at H
   by_cases c4 : x9_1 < (l1.length : Int)
   ·
    rw [if_pos c4] at H
    have c4b0 : decide (x9_1 < (l1.length : Int)) = true := decide_eq_true c4
    clear c4
    have H' := zA H
    clear H
    go_wp2
    go_loopg [6] k1 (fun kq v6 w' => ∃ (x6_2 : Int), v6 = .int .i64 x6_2 ∧ Aside0 (pianolalaw03_good.l1 kq l1 x9_1 x6_2 (l1.length : Int) x9_1 a0_0 l0_1 = some r) ∧ Aside0 (kq ≤ k1) ∧ Aside0 (w'.heap[gb389]? = some (.cells #[.int .i64 a0_0, (.slice A0_1 l0_1.length c0_1)] 24 (0, 0))) ∧ Aside0 (Below w.heap.size w w'))
    case atStart => exact ⟨(0), zqQ, H', ⟨Nat.le_refl _⟩, ⟨zqB BK389.out⟩, ⟨zqG HB.out GE389.out⟩⟩
    case round =>
     clear H'
     try clear c1
     try clear p2
     try clear c3
     try clear c4
     try clear c4b0
     try clear p2
     obtain ⟨x6_2, rfl, HA, HK2, BK389, HB⟩ := hrel
     cases gk with
     | zero => exact absurd HA.out (by simp [pianolalaw03_good.l1])
     | succ k2 =>
      have H := HA.out
      clear HA
      simp only [pianolalaw03_good.l1] at H
      by_cases c5 : x6_2 < x9_1
      ·
       rw [if_pos c5] at H
       have c5b0 : decide (x6_2 < x9_1) = true := decide_eq_true c5
       clear c5
       by_cases c6 : 0 ≤ x9_1
       ·
        rw [if_pos c6] at H
        have c6b0 : decide (0 ≤ x9_1) = true := decide_eq_true c6
        clear c6
        by_cases c7 : x9_1 < (l1.length : Int)
        ·
         rw [if_pos c7] at H
         have c7b0 : decide (x9_1 < (l1.length : Int)) = true := decide_eq_true c7
         clear c7
         by_cases c8 : 0 ≤ x6_2
         ·
          rw [if_pos c8] at H
          have c8b0 : decide (0 ≤ x6_2) = true := decide_eq_true c8
          clear c8
          by_cases c9 : x6_2 < (l1.length : Int)
          ·
           rw [if_pos c9] at H
           have c9b0 : decide (x6_2 < (l1.length : Int)) = true := decide_eq_true c9
           clear c9
           by_cases c10 : (rd l1 x9_1) = (rd l1 x6_2)
           ·
            rw [if_pos c10] at H
            have c10b0 : ((rd l1 x9_1) == (rd l1 x6_2)) = true := beq_iff_eq.mpr c10
            have c10b1 : ((rd l1 x9_1) != (rd l1 x6_2)) = false := bne_eq_false_iff_eq.mpr c10
            clear c10
            by_cases c11 : x9_1 < (l0_1.length : Int)
            ·
             rw [if_pos c11] at H
             have c11b0 : decide (x9_1 < (l0_1.length : Int)) = true := decide_eq_true c11
             clear c11
             by_cases c12 : x6_2 < (l0_1.length : Int)
             ·
              rw [if_pos c12] at H
              have c12b0 : decide (x6_2 < (l0_1.length : Int)) = true := decide_eq_true c12
              clear c12
              replace H := Option.bind_eq_some_iff.mp H
              obtain ⟨t394, A130, H⟩ := H
              replace H : (if t394 = true then (some false) else (pianolalaw03_good.l1 k2 l1 x9_1 (wrap64 (x6_2 + 1)) (l1.length : Int) x9_1 a0_0 l0_1)) = some r := H
              have A13 := zA A130
              clear A130
              by_cases c14 : t394 = true
              ·
               subst c14
               have H1 : (some false) = some r := by rw [if_pos rfl] at H; exact H
               clear H; have H := H1; clear H1
               obtain rfl := Option.some.inj H
               try go_wp2
               have n0_ := zA (blk_drew BK389.out); have n1_ := zA (below_drew1 HB.out); clear BK389 HB; have BK389 := n0_; have HB := n1_; clear n0_ n1_
               have p390 : 0 ≤ (x9_1 : Int) := of_decide_eq_true (zqD)
               have q390 : x9_1 < (l1.length : Int) := of_decide_eq_true (zqD)
               obtain ⟨ad390, e390, hx390_0⟩ := Kd.at_int HR1.out x9_1 p390 q390
               have hw390_0 := hx390_0; cases e390
               replace hx390_0 := (HB.out.cell (World.block_lt_of_cell? w _ hx390_0)).trans hx390_0
               replace p390 := eq_true p390; replace q390 := eq_true q390
               have p391 : 0 ≤ (x6_2 : Int) := of_decide_eq_true (zqD)
               have q391 : x6_2 < (l1.length : Int) := of_decide_eq_true (zqD)
               obtain ⟨ad391, e391, hx391_0⟩ := Kd.at_int HR1.out x6_2 p391 q391
               have hw391_0 := hx391_0
               obtain rfl : ad390 = ad391 := (by injection e391)
               replace hx391_0 := (HB.out.cell (World.block_lt_of_cell? w _ hx391_0)).trans hx391_0
               replace p391 := eq_true p391; replace q391 := eq_true q391
               have p392 : 0 ≤ (x9_1 : Int) := of_decide_eq_true (zqD)
               have q392 : x9_1 < (l0_1.length : Int) := of_decide_eq_true (zqD)
               obtain ⟨ad392, e392, hx392_0, hx392_1⟩ := at_T47 HR0_1.out x9_1 p392 q392
               have hw392_1 := hx392_1; have hw392_0 := hx392_0; cases e392
               replace hx392_0 := (HB.out.cell (World.block_lt_of_cell? w _ hx392_0)).trans hx392_0
               replace hx392_1 := (HB.out.cell (World.block_lt_of_cell? w _ hx392_1)).trans hx392_1
               replace p392 := eq_true p392; replace q392 := eq_true q392
               have p393 : 0 ≤ (x6_2 : Int) := of_decide_eq_true (zqD)
               have q393 : x6_2 < (l0_1.length : Int) := of_decide_eq_true (zqD)
               obtain ⟨ad393, e393, hx393_0, hx393_1⟩ := at_T47 HR0_1.out x6_2 p393 q393
               have hw393_1 := hx393_1; have hw393_0 := hx393_0
               obtain rfl : ad392 = ad393 := (by injection e393)
               replace hx393_0 := (HB.out.cell (World.block_lt_of_cell? w _ hx393_0)).trans hx393_0
               replace hx393_1 := (HB.out.cell (World.block_lt_of_cell? w _ hx393_1)).trans hx393_1
               replace p393 := eq_true p393; replace q393 := eq_true q393
               refine start_ (n := 24) (S := fun w' => w'.cell? ⟨gb389, 0, none⟩ = some (.int .i64 a0_0) ∧ w'.cell? ⟨gb389, 1, none⟩ = some (.slice (some ad392) l0_1.length c0_1) ∧ w'.cell? (ad390.add (x9_1).toNat) = some (.int .i64 (rd l1 x9_1)) ∧ w'.cell? (ad390.add (x6_2).toNat) = some (.int .i64 (rd l1 x6_2)) ∧ w'.cell? (ad392.add ((x9_1).toNat * 2)) = some (.int .i64 ((rd_T47 l0_1 x9_1).f0)) ∧ w'.cell? ⟨(ad392.add ((x9_1).toNat * 2)).block, (ad392.add ((x9_1).toNat * 2)).off + 1, none⟩ = some (.int .i64 ((rd_T47 l0_1 x9_1).f1)) ∧ w'.cell? (ad392.add ((x6_2).toNat * 2)) = some (.int .i64 ((rd_T47 l0_1 x6_2).f0)) ∧ w'.cell? ⟨(ad392.add ((x6_2).toNat * 2)).block, (ad392.add ((x6_2).toNat * 2)).off + 1, none⟩ = some (.int .i64 ((rd_T47 l0_1 x6_2).f1))) (ds := []) #[false, false, false, false, false, false, false, false, false, false, false, false, false, false, false, false, false, false, false, false, false, false, false, false] (by kernel_rfl) rfl rfl ⟨(blk_cell BK389.out 0).trans rfl, (blk_cell BK389.out 1).trans rfl, ((HB.out.cell (World.block_lt_of_cell? w _ hw390_0)).trans hw390_0), ((HB.out.cell (World.block_lt_of_cell? w _ hw391_0)).trans hw391_0), ((HB.out.cell (World.block_lt_of_cell? w _ hw392_0)).trans hw392_0), ((HB.out.cell (World.block_lt_of_cell? w _ hw392_1)).trans hw392_1), ((HB.out.cell (World.block_lt_of_cell? w _ hw393_0)).trans hw393_0), ((HB.out.cell (World.block_lt_of_cell? w _ hw393_1)).trans hw393_1)⟩ (fun hHeld => ?_); refine with_tabW pianolalaw03_good.tab7 pianolalaw03_good.bits7 (fun HT_ HW_ => ?_)
               generalize wr.drew = w15 at BK389 HB hx390_0 hx391_0 hx392_0 hx392_1 hx393_0 hx393_1 hHeld ⊢
               refine pure_ (i := 0) (N := some 17) (v := ?_) (a' := ?_) #[true, false, false, false, false, false, false, false, false, false, false, false, false, false, false, false, false, false, false, false, false, false, false, false] rfl rfl (any_of HT_.out (by kernel_rfl)) (fun _ _ _ h => h) (Or.inl ⟨by rfl, ?_⟩) ?_ ?_
               rotate_left
               ·
                intro w'
                go_simp
                with_reducible rfl
               rotate_left
               · simp only [Act.put, setIfInBounds_toArray, set_cons_zero, set_cons_succ, i64_w, i32_w]; rfl
               refine pure_ (i := 1) (N := some 18) (v := ?_) (a' := ?_) #[true, true, false, false, false, false, false, false, false, false, false, false, false, false, false, false, false, false, false, false, false, false, false, false] rfl rfl (any_of HT_.out (by kernel_rfl)) (fun _ _ _ h => h) (Or.inl ⟨by rfl, ?_⟩) ?_ ?_
               rotate_left
               ·
                intro w'
                go_simp
                with_reducible rfl
               rotate_left
               · simp only [Act.put, setIfInBounds_toArray, set_cons_zero, set_cons_succ, i64_w, i32_w]; rfl
               refine pure_ (i := 2) (N := some 19) (v := ?_) (a' := ?_) #[true, true, true, false, false, false, false, false, false, false, false, false, false, false, false, false, false, false, false, false, false, false, false, false] rfl rfl (any_of HT_.out (by kernel_rfl)) (fun _ _ _ h => h) (Or.inl ⟨by rfl, ?_⟩) ?_ ?_
               rotate_left
               ·
                intro w'
                go_simp
                with_reducible rfl
               rotate_left
               · simp only [Act.put, setIfInBounds_toArray, set_cons_zero, set_cons_succ, i64_w, i32_w]; rfl
               refine pure_ (i := 4) (N := some 21) (v := ?_) (a' := ?_) #[true, true, true, false, true, false, false, false, false, false, false, false, false, false, false, false, false, false, false, false, false, false, false, false] rfl rfl (any_of HT_.out (by kernel_rfl)) (fun _ _ _ h => h) (Or.inl ⟨by rfl, ?_⟩) ?_ ?_
               rotate_left
               ·
                intro w'
                go_simp
                with_reducible rfl
               rotate_left
               · simp only [Act.put, setIfInBounds_toArray, set_cons_zero, set_cons_succ, i64_w, i32_w]; rfl
               refine pure_ (i := 5) (N := some 22) (v := ?_) (a' := ?_) #[true, true, true, false, true, true, false, false, false, false, false, false, false, false, false, false, false, false, false, false, false, false, false, false] rfl rfl (any_of HT_.out (by kernel_rfl)) (fun _ _ _ h => h) (Or.inl ⟨by rfl, ?_⟩) ?_ ?_
               rotate_left
               ·
                intro w'
                go_simp
                with_reducible rfl
               rotate_left
               · simp only [Act.put, setIfInBounds_toArray, set_cons_zero, set_cons_succ, i64_w, i32_w]; rfl
               refine pure_ (i := 6) (N := some 23) (v := ?_) (a' := ?_) #[true, true, true, false, true, true, true, false, false, false, false, false, false, false, false, false, false, false, false, false, false, false, false, false] rfl rfl (any_of HT_.out (by kernel_rfl)) (fun _ _ _ h => h) (Or.inl ⟨by rfl, ?_⟩) ?_ ?_
               rotate_left
               ·
                intro w'
                go_simp
                with_reducible rfl
               rotate_left
               · simp only [Act.put, setIfInBounds_toArray, set_cons_zero, set_cons_succ, i64_w, i32_w]; rfl
               refine take_ (i := 3) (N := some 20) (v := ?_) (a' := ?_) #[true, true, true, true, true, true, true, false, false, false, false, false, false, false, false, false, false, false, false, false, false, false, false, false] rfl rfl (take_ofW HT_.out HW_.out (by kernel_rfl)) (fun _ _ _ h => h) (Or.inl ⟨by rfl, ?_⟩) hHeld ?_ ?_
               rotate_left
               ·
                rintro w' ⟨s0, s1, s2, s3, s4, s5, s6, s7⟩
                go_simp
                with_reducible rfl
               rotate_left
               · simp only [Act.put, setIfInBounds_toArray, set_cons_zero, set_cons_succ, i64_w, i32_w]; rfl
               refine take_ (i := 7) (N := some 24) (v := ?_) (a' := ?_) #[true, true, true, true, true, true, true, true, false, false, false, false, false, false, false, false, false, false, false, false, false, false, false, false] rfl rfl (take_ofW HT_.out HW_.out (by kernel_rfl)) (fun _ _ _ h => h) (Or.inl ⟨by rfl, ?_⟩) hHeld ?_ ?_
               rotate_left
               ·
                rintro w' ⟨s0, s1, s2, s3, s4, s5, s6, s7⟩
                go_simp
                with_reducible rfl
               rotate_left
               · simp only [Act.put, setIfInBounds_toArray, set_cons_zero, set_cons_succ, i64_w, i32_w]; rfl
               refine pure_ (i := 8) (N := some 25) (v := ?_) (a' := ?_) #[true, true, true, true, true, true, true, true, true, false, false, false, false, false, false, false, false, false, false, false, false, false, false, false] rfl rfl (any_of HT_.out (by kernel_rfl)) (fun _ _ _ h => h) (Or.inl ⟨by rfl, ?_⟩) ?_ ?_
               rotate_left
               ·
                intro w'
                go_simp
                with_reducible rfl
               rotate_left
               · simp only [Act.put, setIfInBounds_toArray, set_cons_zero, set_cons_succ, i64_w, i32_w]; rfl
               refine pure_ (i := 9) (N := some 26) (v := ?_) (a' := ?_) #[true, true, true, true, true, true, true, true, true, true, false, false, false, false, false, false, false, false, false, false, false, false, false, false] rfl rfl (any_of HT_.out (by kernel_rfl)) (fun _ _ _ h => h) (Or.inl ⟨by rfl, ?_⟩) ?_ ?_
               rotate_left
               ·
                intro w'
                go_simp
                with_reducible rfl
               rotate_left
               · simp only [Act.put, setIfInBounds_toArray, set_cons_zero, set_cons_succ, i64_w, i32_w]; rfl
               refine pure_ (i := 10) (N := some 27) (v := ?_) (a' := ?_) #[true, true, true, true, true, true, true, true, true, true, true, false, false, false, false, false, false, false, false, false, false, false, false, false] rfl rfl (any_of HT_.out (by kernel_rfl)) (fun _ _ _ h => h) (Or.inl ⟨by rfl, ?_⟩) ?_ ?_
               rotate_left
               ·
                intro w'
                go_simp
                with_reducible rfl
               rotate_left
               · simp only [Act.put, setIfInBounds_toArray, set_cons_zero, set_cons_succ, i64_w, i32_w]; rfl
               refine pure_ (i := 12) (N := some 29) (v := ?_) (a' := ?_) #[true, true, true, true, true, true, true, true, true, true, true, false, true, false, false, false, false, false, false, false, false, false, false, false] rfl rfl (any_of HT_.out (by kernel_rfl)) (fun _ _ _ h => h) (Or.inl ⟨by rfl, ?_⟩) ?_ ?_
               rotate_left
               ·
                intro w'
                go_simp
                with_reducible rfl
               rotate_left
               · simp only [Act.put, setIfInBounds_toArray, set_cons_zero, set_cons_succ, i64_w, i32_w]; rfl
               refine pure_ (i := 15) (N := some 32) (v := ?_) (a' := ?_) #[true, true, true, true, true, true, true, true, true, true, true, false, true, false, false, true, false, false, false, false, false, false, false, false] rfl rfl (any_of HT_.out (by kernel_rfl)) (fun _ _ _ h => h) (Or.inl ⟨by rfl, ?_⟩) ?_ ?_
               rotate_left
               ·
                intro w'
                go_simp
                with_reducible rfl
               rotate_left
               · simp only [Act.put, setIfInBounds_toArray, set_cons_zero, set_cons_succ, i64_w, i32_w]; rfl
               refine pure_ (i := 17) (N := some 34) (v := ?_) (a' := ?_) #[true, true, true, true, true, true, true, true, true, true, true, false, true, false, false, true, false, true, false, false, false, false, false, false] rfl rfl (any_of HT_.out (by kernel_rfl)) (fun _ _ _ h => h) (Or.inl ⟨by rfl, ?_⟩) ?_ ?_
               rotate_left
               ·
                intro w'
                go_simp
                with_reducible rfl
               rotate_left
               · simp only [Act.put, setIfInBounds_toArray, set_cons_zero, set_cons_succ, i64_w, i32_w]; rfl
               refine pure_ (i := 20) (N := some 37) (v := ?_) (a' := ?_) #[true, true, true, true, true, true, true, true, true, true, true, false, true, false, false, true, false, true, false, false, true, false, false, false] rfl rfl (any_of HT_.out (by kernel_rfl)) (fun _ _ _ h => h) (Or.inl ⟨by rfl, ?_⟩) ?_ ?_
               rotate_left
               ·
                intro w'
                go_simp
                with_reducible rfl
               rotate_left
               · simp only [Act.put, setIfInBounds_toArray, set_cons_zero, set_cons_succ, i64_w, i32_w]; rfl
               refine take_ (i := 11) (N := some 28) (v := ?_) (a' := ?_) #[true, true, true, true, true, true, true, true, true, true, true, true, true, false, false, true, false, true, false, false, true, false, false, false] rfl rfl (take_ofW HT_.out HW_.out (by kernel_rfl)) (fun _ _ _ h => h) (Or.inl ⟨by rfl, ?_⟩) hHeld ?_ ?_
               rotate_left
               ·
                rintro w' ⟨s0, s1, s2, s3, s4, s5, s6, s7⟩
                go_simp
                with_reducible rfl
               rotate_left
               · simp only [Act.put, setIfInBounds_toArray, set_cons_zero, set_cons_succ, i64_w, i32_w]; rfl
               refine pure_ (i := 13) (N := some 30) (v := ?_) (a' := ?_) #[true, true, true, true, true, true, true, true, true, true, true, true, true, true, false, true, false, true, false, false, true, false, false, false] rfl rfl (any_of HT_.out (by kernel_rfl)) (fun _ _ _ h => h) (Or.inl ⟨by rfl, ?_⟩) ?_ ?_
               rotate_left
               ·
                intro w'
                go_simp
                with_reducible rfl
               rotate_left
               · simp only [Act.put, setIfInBounds_toArray, set_cons_zero, set_cons_succ, i64_w, i32_w]; rfl
               refine take_ (i := 14) (N := some 31) (v := ?_) (a' := ?_) #[true, true, true, true, true, true, true, true, true, true, true, true, true, true, true, true, false, true, false, false, true, false, false, false] rfl rfl (take_ofW HT_.out HW_.out (by kernel_rfl)) (fun _ _ _ h => h) (Or.inl ⟨by rfl, ?_⟩) hHeld ?_ ?_
               rotate_left
               ·
                rintro w' ⟨s0, s1, s2, s3, s4, s5, s6, s7⟩
                go_simp
                with_reducible rfl
               rotate_left
               · simp only [Act.put, setIfInBounds_toArray, set_cons_zero, set_cons_succ, i64_w, i32_w]; rfl
               refine take_ (i := 16) (N := some 33) (v := ?_) (a' := ?_) #[true, true, true, true, true, true, true, true, true, true, true, true, true, true, true, true, true, true, false, false, true, false, false, false] rfl rfl (take_ofW HT_.out HW_.out (by kernel_rfl)) (fun _ _ _ h => h) (Or.inl ⟨by rfl, ?_⟩) hHeld ?_ ?_
               rotate_left
               ·
                rintro w' ⟨s0, s1, s2, s3, s4, s5, s6, s7⟩
                go_simp
                with_reducible rfl
               rotate_left
               · simp only [Act.put, setIfInBounds_toArray, set_cons_zero, set_cons_succ, i64_w, i32_w]; rfl
               refine pure_ (i := 18) (N := some 35) (v := ?_) (a' := ?_) #[true, true, true, true, true, true, true, true, true, true, true, true, true, true, true, true, true, true, true, false, true, false, false, false] rfl rfl (any_of HT_.out (by kernel_rfl)) (fun _ _ _ h => h) (Or.inl ⟨by rfl, ?_⟩) ?_ ?_
               rotate_left
               ·
                intro w'
                go_simp
                with_reducible rfl
               rotate_left
               · simp only [Act.put, setIfInBounds_toArray, set_cons_zero, set_cons_succ, i64_w, i32_w]; rfl
               refine take_ (i := 19) (N := some 36) (v := ?_) (a' := ?_) #[true, true, true, true, true, true, true, true, true, true, true, true, true, true, true, true, true, true, true, true, true, false, false, false] rfl rfl (take_ofW HT_.out HW_.out (by kernel_rfl)) (fun _ _ _ h => h) (Or.inl ⟨by rfl, ?_⟩) hHeld ?_ ?_
               rotate_left
               ·
                rintro w' ⟨s0, s1, s2, s3, s4, s5, s6, s7⟩
                go_simp
                with_reducible rfl
               rotate_left
               · simp only [Act.put, setIfInBounds_toArray, set_cons_zero, set_cons_succ, i64_w, i32_w]; rfl
               refine take_ (i := 21) (N := some 38) (v := ?_) (a' := ?_) #[true, true, true, true, true, true, true, true, true, true, true, true, true, true, true, true, true, true, true, true, true, true, false, false] rfl rfl (take_ofW HT_.out HW_.out (by kernel_rfl)) (fun _ _ _ h => h) (Or.inl ⟨by rfl, ?_⟩) hHeld ?_ ?_
               rotate_left
               ·
                rintro w' ⟨s0, s1, s2, s3, s4, s5, s6, s7⟩
                go_simp
                with_reducible rfl
               rotate_left
               · simp only [Act.put, setIfInBounds_toArray, set_cons_zero, set_cons_succ, i64_w, i32_w]; rfl
               refine one_ (i := 22) (N := some 39) #[true, true, true, true, true, true, true, true, true, true, true, true, true, true, true, true, true, true, true, true, true, true, true, false] rfl rfl (one_of HT_.out (by kernel_rfl)) (by decide) (fun K hK => ?_)
               refine goes_ Try.func41 (by kernel_rfl) rfl #[.agg #[.int .i64 ((rd_T47 l0_1 x9_1).f0), .int .i64 ((rd_T47 l0_1 x9_1).f1)], .agg #[.int .i64 ((rd_T47 l0_1 x6_2).f0), .int .i64 ((rd_T47 l0_1 x6_2).f1)], .int .i64 a0_0] (by rfl) rfl rfl zqE ?_
               with_reducible refine (pianolalaw03_near.calls k2 ((rd_T47 l0_1 x9_1).f0) ((rd_T47 l0_1 x9_1).f1) ((rd_T47 l0_1 x6_2).f0) ((rd_T47 l0_1 x6_2).f1) a0_0 true _ A13.out).mono ?_
               rintro e w16 ⟨rfl, hb⟩
               refine ⟨_, rfl, ?_⟩
               have n0_ := zA (blk_below (g := gb389) (o := .cells #[.int .i64 a0_0, .slice (some ad392) l0_1.length c0_1] 24 (0, 0)) (zqB BK389.out) hb); have n1_ := zA (below_step (zqG HB.out GE389.out) hb); clear BK389 HB; have BK389 := n0_; have HB := n1_; clear n0_ n1_
               (try clear hb); (try clear hb2); (try clear hk); (try clear hi)
               refine hK.out _ _ ⟨(blk_cell BK389.out 0).trans rfl, (blk_cell BK389.out 1).trans rfl, ((HB.out.cell (World.block_lt_of_cell? w _ hw390_0)).trans hw390_0), ((HB.out.cell (World.block_lt_of_cell? w _ hw391_0)).trans hw391_0), ((HB.out.cell (World.block_lt_of_cell? w _ hw392_0)).trans hw392_0), ((HB.out.cell (World.block_lt_of_cell? w _ hw392_1)).trans hw392_1), ((HB.out.cell (World.block_lt_of_cell? w _ hw393_0)).trans hw393_0), ((HB.out.cell (World.block_lt_of_cell? w _ hw393_1)).trans hw393_1)⟩ (fun hHeld => ?_)
               clear hK K; refine norm_ (a' := ?_) ?_ ?_; rotate_left
               · show Act.put _ (some 39) _ = _; simp only [Act.put, setIfInBounds_toArray, set_cons_zero, set_cons_succ, i64_w, i32_w]; rfl
               refine pure_ (i := 23) (N := some 40) (v := ?_) (a' := ?_) #[true, true, true, true, true, true, true, true, true, true, true, true, true, true, true, true, true, true, true, true, true, true, true, true] rfl rfl (any_of HT_.out (by kernel_rfl)) (fun _ _ _ h => h) (Or.inl ⟨by rfl, ?_⟩) ?_ ?_
               rotate_left
               ·
                intro w'
                go_simp
                with_reducible rfl
               rotate_left
               · simp only [Act.put, setIfInBounds_toArray, set_cons_zero, set_cons_succ, i64_w, i32_w]; rfl
               refine done_ (done_of HT_.out (by kernel_rfl)) ?_
               try go_wp2
               go_ret
               exact ⟨zqR, zqG HB.out GE389.out⟩
              ·
               replace c14 := Bool.eq_false_iff.mpr c14
               subst c14
               have H1 : (pianolalaw03_good.l1 k2 l1 x9_1 (wrap64 (x6_2 + 1)) (l1.length : Int) x9_1 a0_0 l0_1) = some r := by rw [if_neg (show ¬ (false = true) by decide)] at H; exact H
               clear H; have H := H1; clear H1
               have H' := zA H
               clear H
               try go_wp2
               have n0_ := zA (blk_drew BK389.out); have n1_ := zA (below_drew1 HB.out); clear BK389 HB; have BK389 := n0_; have HB := n1_; clear n0_ n1_
               have p390 : 0 ≤ (x9_1 : Int) := of_decide_eq_true (zqD)
               have q390 : x9_1 < (l1.length : Int) := of_decide_eq_true (zqD)
               obtain ⟨ad390, e390, hx390_0⟩ := Kd.at_int HR1.out x9_1 p390 q390
               have hw390_0 := hx390_0; cases e390
               replace hx390_0 := (HB.out.cell (World.block_lt_of_cell? w _ hx390_0)).trans hx390_0
               replace p390 := eq_true p390; replace q390 := eq_true q390
               have p391 : 0 ≤ (x6_2 : Int) := of_decide_eq_true (zqD)
               have q391 : x6_2 < (l1.length : Int) := of_decide_eq_true (zqD)
               obtain ⟨ad391, e391, hx391_0⟩ := Kd.at_int HR1.out x6_2 p391 q391
               have hw391_0 := hx391_0
               obtain rfl : ad390 = ad391 := (by injection e391)
               replace hx391_0 := (HB.out.cell (World.block_lt_of_cell? w _ hx391_0)).trans hx391_0
               replace p391 := eq_true p391; replace q391 := eq_true q391
               have p392 : 0 ≤ (x9_1 : Int) := of_decide_eq_true (zqD)
               have q392 : x9_1 < (l0_1.length : Int) := of_decide_eq_true (zqD)
               obtain ⟨ad392, e392, hx392_0, hx392_1⟩ := at_T47 HR0_1.out x9_1 p392 q392
               have hw392_1 := hx392_1; have hw392_0 := hx392_0; cases e392
               replace hx392_0 := (HB.out.cell (World.block_lt_of_cell? w _ hx392_0)).trans hx392_0
               replace hx392_1 := (HB.out.cell (World.block_lt_of_cell? w _ hx392_1)).trans hx392_1
               replace p392 := eq_true p392; replace q392 := eq_true q392
               have p393 : 0 ≤ (x6_2 : Int) := of_decide_eq_true (zqD)
               have q393 : x6_2 < (l0_1.length : Int) := of_decide_eq_true (zqD)
               obtain ⟨ad393, e393, hx393_0, hx393_1⟩ := at_T47 HR0_1.out x6_2 p393 q393
               have hw393_1 := hx393_1; have hw393_0 := hx393_0
               obtain rfl : ad392 = ad393 := (by injection e393)
               replace hx393_0 := (HB.out.cell (World.block_lt_of_cell? w _ hx393_0)).trans hx393_0
               replace hx393_1 := (HB.out.cell (World.block_lt_of_cell? w _ hx393_1)).trans hx393_1
               replace p393 := eq_true p393; replace q393 := eq_true q393
               refine start_ (n := 24) (S := fun w' => w'.cell? ⟨gb389, 0, none⟩ = some (.int .i64 a0_0) ∧ w'.cell? ⟨gb389, 1, none⟩ = some (.slice (some ad392) l0_1.length c0_1) ∧ w'.cell? (ad390.add (x9_1).toNat) = some (.int .i64 (rd l1 x9_1)) ∧ w'.cell? (ad390.add (x6_2).toNat) = some (.int .i64 (rd l1 x6_2)) ∧ w'.cell? (ad392.add ((x9_1).toNat * 2)) = some (.int .i64 ((rd_T47 l0_1 x9_1).f0)) ∧ w'.cell? ⟨(ad392.add ((x9_1).toNat * 2)).block, (ad392.add ((x9_1).toNat * 2)).off + 1, none⟩ = some (.int .i64 ((rd_T47 l0_1 x9_1).f1)) ∧ w'.cell? (ad392.add ((x6_2).toNat * 2)) = some (.int .i64 ((rd_T47 l0_1 x6_2).f0)) ∧ w'.cell? ⟨(ad392.add ((x6_2).toNat * 2)).block, (ad392.add ((x6_2).toNat * 2)).off + 1, none⟩ = some (.int .i64 ((rd_T47 l0_1 x6_2).f1))) (ds := []) #[false, false, false, false, false, false, false, false, false, false, false, false, false, false, false, false, false, false, false, false, false, false, false, false] (by kernel_rfl) rfl rfl ⟨(blk_cell BK389.out 0).trans rfl, (blk_cell BK389.out 1).trans rfl, ((HB.out.cell (World.block_lt_of_cell? w _ hw390_0)).trans hw390_0), ((HB.out.cell (World.block_lt_of_cell? w _ hw391_0)).trans hw391_0), ((HB.out.cell (World.block_lt_of_cell? w _ hw392_0)).trans hw392_0), ((HB.out.cell (World.block_lt_of_cell? w _ hw392_1)).trans hw392_1), ((HB.out.cell (World.block_lt_of_cell? w _ hw393_0)).trans hw393_0), ((HB.out.cell (World.block_lt_of_cell? w _ hw393_1)).trans hw393_1)⟩ (fun hHeld => ?_); refine with_tabW pianolalaw03_good.tab7 pianolalaw03_good.bits7 (fun HT_ HW_ => ?_)
               generalize wr.drew = w17 at BK389 HB hx390_0 hx391_0 hx392_0 hx392_1 hx393_0 hx393_1 hHeld ⊢
               refine pure_ (i := 0) (N := some 17) (v := ?_) (a' := ?_) #[true, false, false, false, false, false, false, false, false, false, false, false, false, false, false, false, false, false, false, false, false, false, false, false] rfl rfl (any_of HT_.out (by kernel_rfl)) (fun _ _ _ h => h) (Or.inl ⟨by rfl, ?_⟩) ?_ ?_
               rotate_left
               ·
                intro w'
                go_simp
                with_reducible rfl
               rotate_left
               · simp only [Act.put, setIfInBounds_toArray, set_cons_zero, set_cons_succ, i64_w, i32_w]; rfl
               refine pure_ (i := 1) (N := some 18) (v := ?_) (a' := ?_) #[true, true, false, false, false, false, false, false, false, false, false, false, false, false, false, false, false, false, false, false, false, false, false, false] rfl rfl (any_of HT_.out (by kernel_rfl)) (fun _ _ _ h => h) (Or.inl ⟨by rfl, ?_⟩) ?_ ?_
               rotate_left
               ·
                intro w'
                go_simp
                with_reducible rfl
               rotate_left
               · simp only [Act.put, setIfInBounds_toArray, set_cons_zero, set_cons_succ, i64_w, i32_w]; rfl
               refine pure_ (i := 2) (N := some 19) (v := ?_) (a' := ?_) #[true, true, true, false, false, false, false, false, false, false, false, false, false, false, false, false, false, false, false, false, false, false, false, false] rfl rfl (any_of HT_.out (by kernel_rfl)) (fun _ _ _ h => h) (Or.inl ⟨by rfl, ?_⟩) ?_ ?_
               rotate_left
               ·
                intro w'
                go_simp
                with_reducible rfl
               rotate_left
               · simp only [Act.put, setIfInBounds_toArray, set_cons_zero, set_cons_succ, i64_w, i32_w]; rfl
               refine pure_ (i := 4) (N := some 21) (v := ?_) (a' := ?_) #[true, true, true, false, true, false, false, false, false, false, false, false, false, false, false, false, false, false, false, false, false, false, false, false] rfl rfl (any_of HT_.out (by kernel_rfl)) (fun _ _ _ h => h) (Or.inl ⟨by rfl, ?_⟩) ?_ ?_
               rotate_left
               ·
                intro w'
                go_simp
                with_reducible rfl
               rotate_left
               · simp only [Act.put, setIfInBounds_toArray, set_cons_zero, set_cons_succ, i64_w, i32_w]; rfl
               refine pure_ (i := 5) (N := some 22) (v := ?_) (a' := ?_) #[true, true, true, false, true, true, false, false, false, false, false, false, false, false, false, false, false, false, false, false, false, false, false, false] rfl rfl (any_of HT_.out (by kernel_rfl)) (fun _ _ _ h => h) (Or.inl ⟨by rfl, ?_⟩) ?_ ?_
               rotate_left
               ·
                intro w'
                go_simp
                with_reducible rfl
               rotate_left
               · simp only [Act.put, setIfInBounds_toArray, set_cons_zero, set_cons_succ, i64_w, i32_w]; rfl
               refine pure_ (i := 6) (N := some 23) (v := ?_) (a' := ?_) #[true, true, true, false, true, true, true, false, false, false, false, false, false, false, false, false, false, false, false, false, false, false, false, false] rfl rfl (any_of HT_.out (by kernel_rfl)) (fun _ _ _ h => h) (Or.inl ⟨by rfl, ?_⟩) ?_ ?_
               rotate_left
               ·
                intro w'
                go_simp
                with_reducible rfl
               rotate_left
               · simp only [Act.put, setIfInBounds_toArray, set_cons_zero, set_cons_succ, i64_w, i32_w]; rfl
               refine take_ (i := 3) (N := some 20) (v := ?_) (a' := ?_) #[true, true, true, true, true, true, true, false, false, false, false, false, false, false, false, false, false, false, false, false, false, false, false, false] rfl rfl (take_ofW HT_.out HW_.out (by kernel_rfl)) (fun _ _ _ h => h) (Or.inl ⟨by rfl, ?_⟩) hHeld ?_ ?_
               rotate_left
               ·
                rintro w' ⟨s0, s1, s2, s3, s4, s5, s6, s7⟩
                go_simp
                with_reducible rfl
               rotate_left
               · simp only [Act.put, setIfInBounds_toArray, set_cons_zero, set_cons_succ, i64_w, i32_w]; rfl
               refine take_ (i := 7) (N := some 24) (v := ?_) (a' := ?_) #[true, true, true, true, true, true, true, true, false, false, false, false, false, false, false, false, false, false, false, false, false, false, false, false] rfl rfl (take_ofW HT_.out HW_.out (by kernel_rfl)) (fun _ _ _ h => h) (Or.inl ⟨by rfl, ?_⟩) hHeld ?_ ?_
               rotate_left
               ·
                rintro w' ⟨s0, s1, s2, s3, s4, s5, s6, s7⟩
                go_simp
                with_reducible rfl
               rotate_left
               · simp only [Act.put, setIfInBounds_toArray, set_cons_zero, set_cons_succ, i64_w, i32_w]; rfl
               refine pure_ (i := 8) (N := some 25) (v := ?_) (a' := ?_) #[true, true, true, true, true, true, true, true, true, false, false, false, false, false, false, false, false, false, false, false, false, false, false, false] rfl rfl (any_of HT_.out (by kernel_rfl)) (fun _ _ _ h => h) (Or.inl ⟨by rfl, ?_⟩) ?_ ?_
               rotate_left
               ·
                intro w'
                go_simp
                with_reducible rfl
               rotate_left
               · simp only [Act.put, setIfInBounds_toArray, set_cons_zero, set_cons_succ, i64_w, i32_w]; rfl
               refine pure_ (i := 9) (N := some 26) (v := ?_) (a' := ?_) #[true, true, true, true, true, true, true, true, true, true, false, false, false, false, false, false, false, false, false, false, false, false, false, false] rfl rfl (any_of HT_.out (by kernel_rfl)) (fun _ _ _ h => h) (Or.inl ⟨by rfl, ?_⟩) ?_ ?_
               rotate_left
               ·
                intro w'
                go_simp
                with_reducible rfl
               rotate_left
               · simp only [Act.put, setIfInBounds_toArray, set_cons_zero, set_cons_succ, i64_w, i32_w]; rfl
               refine pure_ (i := 10) (N := some 27) (v := ?_) (a' := ?_) #[true, true, true, true, true, true, true, true, true, true, true, false, false, false, false, false, false, false, false, false, false, false, false, false] rfl rfl (any_of HT_.out (by kernel_rfl)) (fun _ _ _ h => h) (Or.inl ⟨by rfl, ?_⟩) ?_ ?_
               rotate_left
               ·
                intro w'
                go_simp
                with_reducible rfl
               rotate_left
               · simp only [Act.put, setIfInBounds_toArray, set_cons_zero, set_cons_succ, i64_w, i32_w]; rfl
               refine pure_ (i := 12) (N := some 29) (v := ?_) (a' := ?_) #[true, true, true, true, true, true, true, true, true, true, true, false, true, false, false, false, false, false, false, false, false, false, false, false] rfl rfl (any_of HT_.out (by kernel_rfl)) (fun _ _ _ h => h) (Or.inl ⟨by rfl, ?_⟩) ?_ ?_
               rotate_left
               ·
                intro w'
                go_simp
                with_reducible rfl
               rotate_left
               · simp only [Act.put, setIfInBounds_toArray, set_cons_zero, set_cons_succ, i64_w, i32_w]; rfl
               refine pure_ (i := 15) (N := some 32) (v := ?_) (a' := ?_) #[true, true, true, true, true, true, true, true, true, true, true, false, true, false, false, true, false, false, false, false, false, false, false, false] rfl rfl (any_of HT_.out (by kernel_rfl)) (fun _ _ _ h => h) (Or.inl ⟨by rfl, ?_⟩) ?_ ?_
               rotate_left
               ·
                intro w'
                go_simp
                with_reducible rfl
               rotate_left
               · simp only [Act.put, setIfInBounds_toArray, set_cons_zero, set_cons_succ, i64_w, i32_w]; rfl
               refine pure_ (i := 17) (N := some 34) (v := ?_) (a' := ?_) #[true, true, true, true, true, true, true, true, true, true, true, false, true, false, false, true, false, true, false, false, false, false, false, false] rfl rfl (any_of HT_.out (by kernel_rfl)) (fun _ _ _ h => h) (Or.inl ⟨by rfl, ?_⟩) ?_ ?_
               rotate_left
               ·
                intro w'
                go_simp
                with_reducible rfl
               rotate_left
               · simp only [Act.put, setIfInBounds_toArray, set_cons_zero, set_cons_succ, i64_w, i32_w]; rfl
               refine pure_ (i := 20) (N := some 37) (v := ?_) (a' := ?_) #[true, true, true, true, true, true, true, true, true, true, true, false, true, false, false, true, false, true, false, false, true, false, false, false] rfl rfl (any_of HT_.out (by kernel_rfl)) (fun _ _ _ h => h) (Or.inl ⟨by rfl, ?_⟩) ?_ ?_
               rotate_left
               ·
                intro w'
                go_simp
                with_reducible rfl
               rotate_left
               · simp only [Act.put, setIfInBounds_toArray, set_cons_zero, set_cons_succ, i64_w, i32_w]; rfl
               refine take_ (i := 11) (N := some 28) (v := ?_) (a' := ?_) #[true, true, true, true, true, true, true, true, true, true, true, true, true, false, false, true, false, true, false, false, true, false, false, false] rfl rfl (take_ofW HT_.out HW_.out (by kernel_rfl)) (fun _ _ _ h => h) (Or.inl ⟨by rfl, ?_⟩) hHeld ?_ ?_
               rotate_left
               ·
                rintro w' ⟨s0, s1, s2, s3, s4, s5, s6, s7⟩
                go_simp
                with_reducible rfl
               rotate_left
               · simp only [Act.put, setIfInBounds_toArray, set_cons_zero, set_cons_succ, i64_w, i32_w]; rfl
               refine pure_ (i := 13) (N := some 30) (v := ?_) (a' := ?_) #[true, true, true, true, true, true, true, true, true, true, true, true, true, true, false, true, false, true, false, false, true, false, false, false] rfl rfl (any_of HT_.out (by kernel_rfl)) (fun _ _ _ h => h) (Or.inl ⟨by rfl, ?_⟩) ?_ ?_
               rotate_left
               ·
                intro w'
                go_simp
                with_reducible rfl
               rotate_left
               · simp only [Act.put, setIfInBounds_toArray, set_cons_zero, set_cons_succ, i64_w, i32_w]; rfl
               refine take_ (i := 14) (N := some 31) (v := ?_) (a' := ?_) #[true, true, true, true, true, true, true, true, true, true, true, true, true, true, true, true, false, true, false, false, true, false, false, false] rfl rfl (take_ofW HT_.out HW_.out (by kernel_rfl)) (fun _ _ _ h => h) (Or.inl ⟨by rfl, ?_⟩) hHeld ?_ ?_
               rotate_left
               ·
                rintro w' ⟨s0, s1, s2, s3, s4, s5, s6, s7⟩
                go_simp
                with_reducible rfl
               rotate_left
               · simp only [Act.put, setIfInBounds_toArray, set_cons_zero, set_cons_succ, i64_w, i32_w]; rfl
               refine take_ (i := 16) (N := some 33) (v := ?_) (a' := ?_) #[true, true, true, true, true, true, true, true, true, true, true, true, true, true, true, true, true, true, false, false, true, false, false, false] rfl rfl (take_ofW HT_.out HW_.out (by kernel_rfl)) (fun _ _ _ h => h) (Or.inl ⟨by rfl, ?_⟩) hHeld ?_ ?_
               rotate_left
               ·
                rintro w' ⟨s0, s1, s2, s3, s4, s5, s6, s7⟩
                go_simp
                with_reducible rfl
               rotate_left
               · simp only [Act.put, setIfInBounds_toArray, set_cons_zero, set_cons_succ, i64_w, i32_w]; rfl
               refine pure_ (i := 18) (N := some 35) (v := ?_) (a' := ?_) #[true, true, true, true, true, true, true, true, true, true, true, true, true, true, true, true, true, true, true, false, true, false, false, false] rfl rfl (any_of HT_.out (by kernel_rfl)) (fun _ _ _ h => h) (Or.inl ⟨by rfl, ?_⟩) ?_ ?_
               rotate_left
               ·
                intro w'
                go_simp
                with_reducible rfl
               rotate_left
               · simp only [Act.put, setIfInBounds_toArray, set_cons_zero, set_cons_succ, i64_w, i32_w]; rfl
               refine take_ (i := 19) (N := some 36) (v := ?_) (a' := ?_) #[true, true, true, true, true, true, true, true, true, true, true, true, true, true, true, true, true, true, true, true, true, false, false, false] rfl rfl (take_ofW HT_.out HW_.out (by kernel_rfl)) (fun _ _ _ h => h) (Or.inl ⟨by rfl, ?_⟩) hHeld ?_ ?_
               rotate_left
               ·
                rintro w' ⟨s0, s1, s2, s3, s4, s5, s6, s7⟩
                go_simp
                with_reducible rfl
               rotate_left
               · simp only [Act.put, setIfInBounds_toArray, set_cons_zero, set_cons_succ, i64_w, i32_w]; rfl
               refine take_ (i := 21) (N := some 38) (v := ?_) (a' := ?_) #[true, true, true, true, true, true, true, true, true, true, true, true, true, true, true, true, true, true, true, true, true, true, false, false] rfl rfl (take_ofW HT_.out HW_.out (by kernel_rfl)) (fun _ _ _ h => h) (Or.inl ⟨by rfl, ?_⟩) hHeld ?_ ?_
               rotate_left
               ·
                rintro w' ⟨s0, s1, s2, s3, s4, s5, s6, s7⟩
                go_simp
                with_reducible rfl
               rotate_left
               · simp only [Act.put, setIfInBounds_toArray, set_cons_zero, set_cons_succ, i64_w, i32_w]; rfl
               refine one_ (i := 22) (N := some 39) #[true, true, true, true, true, true, true, true, true, true, true, true, true, true, true, true, true, true, true, true, true, true, true, false] rfl rfl (one_of HT_.out (by kernel_rfl)) (by decide) (fun K hK => ?_)
               refine goes_ Try.func41 (by kernel_rfl) rfl #[.agg #[.int .i64 ((rd_T47 l0_1 x9_1).f0), .int .i64 ((rd_T47 l0_1 x9_1).f1)], .agg #[.int .i64 ((rd_T47 l0_1 x6_2).f0), .int .i64 ((rd_T47 l0_1 x6_2).f1)], .int .i64 a0_0] (by rfl) rfl rfl zqE ?_
               with_reducible refine (pianolalaw03_near.calls k2 ((rd_T47 l0_1 x9_1).f0) ((rd_T47 l0_1 x9_1).f1) ((rd_T47 l0_1 x6_2).f0) ((rd_T47 l0_1 x6_2).f1) a0_0 false _ A13.out).mono ?_
               rintro e w18 ⟨rfl, hb⟩
               refine ⟨_, rfl, ?_⟩
               have n0_ := zA (blk_below (g := gb389) (o := .cells #[.int .i64 a0_0, .slice (some ad392) l0_1.length c0_1] 24 (0, 0)) (zqB BK389.out) hb); have n1_ := zA (below_step (zqG HB.out GE389.out) hb); clear BK389 HB; have BK389 := n0_; have HB := n1_; clear n0_ n1_
               (try clear hb); (try clear hb2); (try clear hk); (try clear hi)
               refine hK.out _ _ ⟨(blk_cell BK389.out 0).trans rfl, (blk_cell BK389.out 1).trans rfl, ((HB.out.cell (World.block_lt_of_cell? w _ hw390_0)).trans hw390_0), ((HB.out.cell (World.block_lt_of_cell? w _ hw391_0)).trans hw391_0), ((HB.out.cell (World.block_lt_of_cell? w _ hw392_0)).trans hw392_0), ((HB.out.cell (World.block_lt_of_cell? w _ hw392_1)).trans hw392_1), ((HB.out.cell (World.block_lt_of_cell? w _ hw393_0)).trans hw393_0), ((HB.out.cell (World.block_lt_of_cell? w _ hw393_1)).trans hw393_1)⟩ (fun hHeld => ?_)
               clear hK K; refine norm_ (a' := ?_) ?_ ?_; rotate_left
               · show Act.put _ (some 39) _ = _; simp only [Act.put, setIfInBounds_toArray, set_cons_zero, set_cons_succ, i64_w, i32_w]; rfl
               refine pure_ (i := 23) (N := some 40) (v := ?_) (a' := ?_) #[true, true, true, true, true, true, true, true, true, true, true, true, true, true, true, true, true, true, true, true, true, true, true, true] rfl rfl (any_of HT_.out (by kernel_rfl)) (fun _ _ _ h => h) (Or.inl ⟨by rfl, ?_⟩) ?_ ?_
               rotate_left
               ·
                intro w'
                go_simp
                with_reducible rfl
               rotate_left
               · simp only [Act.put, setIfInBounds_toArray, set_cons_zero, set_cons_succ, i64_w, i32_w]; rfl
               refine done_ (done_of HT_.out (by kernel_rfl)) ?_
               try go_wp2
               go_roundg k2
               case measure => have := HK1.out; have := HK2.out; omega
               case rel => exact ⟨(wrap64 (x6_2 + 1)), zqQ, H', ⟨by have := HK1.out; have := HK2.out; omega⟩, ⟨zqB BK389.out⟩, ⟨zqG HB.out GE389.out⟩⟩
             ·
              rw [if_neg c12] at H
              exact absurd H (by simp)
            ·
             rw [if_neg c11] at H
             exact absurd H (by simp)
           ·
            rw [if_neg c10] at H
            have c10b0 : ((rd l1 x9_1) == (rd l1 x6_2)) = false := beq_eq_false_iff_ne.mpr c10
            have c10b1 : ((rd l1 x9_1) != (rd l1 x6_2)) = true := bne_iff_ne.mpr c10
            have H' := zA H
            clear H
            try go_wp2
            have n0_ := zA (blk_drew BK389.out); have n1_ := zA (below_drew1 HB.out); clear BK389 HB; have BK389 := n0_; have HB := n1_; clear n0_ n1_
            have p390 : 0 ≤ (x9_1 : Int) := of_decide_eq_true (zqD)
            have q390 : x9_1 < (l1.length : Int) := of_decide_eq_true (zqD)
            obtain ⟨ad390, e390, hx390_0⟩ := Kd.at_int HR1.out x9_1 p390 q390
            have hw390_0 := hx390_0; cases e390
            replace hx390_0 := (HB.out.cell (World.block_lt_of_cell? w _ hx390_0)).trans hx390_0
            replace p390 := eq_true p390; replace q390 := eq_true q390
            have p391 : 0 ≤ (x6_2 : Int) := of_decide_eq_true (zqD)
            have q391 : x6_2 < (l1.length : Int) := of_decide_eq_true (zqD)
            obtain ⟨ad391, e391, hx391_0⟩ := Kd.at_int HR1.out x6_2 p391 q391
            have hw391_0 := hx391_0
            obtain rfl : ad390 = ad391 := (by injection e391)
            replace hx391_0 := (HB.out.cell (World.block_lt_of_cell? w _ hx391_0)).trans hx391_0
            replace p391 := eq_true p391; replace q391 := eq_true q391
            refine start_ (n := 24) (S := fun w' => w'.cell? (ad390.add (x9_1).toNat) = some (.int .i64 (rd l1 x9_1)) ∧ w'.cell? (ad390.add (x6_2).toNat) = some (.int .i64 (rd l1 x6_2))) (ds := []) #[false, false, false, false, false, false, false, false, false, false, false, false, false, false, false, false, false, false, false, false, false, false, false, false] (by kernel_rfl) rfl rfl ⟨((HB.out.cell (World.block_lt_of_cell? w _ hw390_0)).trans hw390_0), ((HB.out.cell (World.block_lt_of_cell? w _ hw391_0)).trans hw391_0)⟩ (fun hHeld => ?_); refine with_tabW pianolalaw03_good.tab7 pianolalaw03_good.bits7 (fun HT_ HW_ => ?_)
            generalize wr.drew = w19 at BK389 HB hx390_0 hx391_0 hHeld ⊢
            refine pure_ (i := 0) (N := some 17) (v := ?_) (a' := ?_) #[true, false, false, false, false, false, false, false, false, false, false, false, false, false, false, false, false, false, false, false, false, false, false, false] rfl rfl (any_of HT_.out (by kernel_rfl)) (fun _ _ _ h => h) (Or.inl ⟨by rfl, ?_⟩) ?_ ?_
            rotate_left
            ·
             intro w'
             go_simp
             with_reducible rfl
            rotate_left
            · simp only [Act.put, setIfInBounds_toArray, set_cons_zero, set_cons_succ, i64_w, i32_w]; rfl
            refine pure_ (i := 1) (N := some 18) (v := ?_) (a' := ?_) #[true, true, false, false, false, false, false, false, false, false, false, false, false, false, false, false, false, false, false, false, false, false, false, false] rfl rfl (any_of HT_.out (by kernel_rfl)) (fun _ _ _ h => h) (Or.inl ⟨by rfl, ?_⟩) ?_ ?_
            rotate_left
            ·
             intro w'
             go_simp
             with_reducible rfl
            rotate_left
            · simp only [Act.put, setIfInBounds_toArray, set_cons_zero, set_cons_succ, i64_w, i32_w]; rfl
            refine pure_ (i := 2) (N := some 19) (v := ?_) (a' := ?_) #[true, true, true, false, false, false, false, false, false, false, false, false, false, false, false, false, false, false, false, false, false, false, false, false] rfl rfl (any_of HT_.out (by kernel_rfl)) (fun _ _ _ h => h) (Or.inl ⟨by rfl, ?_⟩) ?_ ?_
            rotate_left
            ·
             intro w'
             go_simp
             with_reducible rfl
            rotate_left
            · simp only [Act.put, setIfInBounds_toArray, set_cons_zero, set_cons_succ, i64_w, i32_w]; rfl
            refine pure_ (i := 4) (N := some 21) (v := ?_) (a' := ?_) #[true, true, true, false, true, false, false, false, false, false, false, false, false, false, false, false, false, false, false, false, false, false, false, false] rfl rfl (any_of HT_.out (by kernel_rfl)) (fun _ _ _ h => h) (Or.inl ⟨by rfl, ?_⟩) ?_ ?_
            rotate_left
            ·
             intro w'
             go_simp
             with_reducible rfl
            rotate_left
            · simp only [Act.put, setIfInBounds_toArray, set_cons_zero, set_cons_succ, i64_w, i32_w]; rfl
            refine pure_ (i := 5) (N := some 22) (v := ?_) (a' := ?_) #[true, true, true, false, true, true, false, false, false, false, false, false, false, false, false, false, false, false, false, false, false, false, false, false] rfl rfl (any_of HT_.out (by kernel_rfl)) (fun _ _ _ h => h) (Or.inl ⟨by rfl, ?_⟩) ?_ ?_
            rotate_left
            ·
             intro w'
             go_simp
             with_reducible rfl
            rotate_left
            · simp only [Act.put, setIfInBounds_toArray, set_cons_zero, set_cons_succ, i64_w, i32_w]; rfl
            refine pure_ (i := 6) (N := some 23) (v := ?_) (a' := ?_) #[true, true, true, false, true, true, true, false, false, false, false, false, false, false, false, false, false, false, false, false, false, false, false, false] rfl rfl (any_of HT_.out (by kernel_rfl)) (fun _ _ _ h => h) (Or.inl ⟨by rfl, ?_⟩) ?_ ?_
            rotate_left
            ·
             intro w'
             go_simp
             with_reducible rfl
            rotate_left
            · simp only [Act.put, setIfInBounds_toArray, set_cons_zero, set_cons_succ, i64_w, i32_w]; rfl
            refine take_ (i := 3) (N := some 20) (v := ?_) (a' := ?_) #[true, true, true, true, true, true, true, false, false, false, false, false, false, false, false, false, false, false, false, false, false, false, false, false] rfl rfl (take_ofW HT_.out HW_.out (by kernel_rfl)) (fun _ _ _ h => h) (Or.inl ⟨by rfl, ?_⟩) hHeld ?_ ?_
            rotate_left
            ·
             rintro w' ⟨s0, s1⟩
             go_simp
             with_reducible rfl
            rotate_left
            · simp only [Act.put, setIfInBounds_toArray, set_cons_zero, set_cons_succ, i64_w, i32_w]; rfl
            refine take_ (i := 7) (N := some 24) (v := ?_) (a' := ?_) #[true, true, true, true, true, true, true, true, false, false, false, false, false, false, false, false, false, false, false, false, false, false, false, false] rfl rfl (take_ofW HT_.out HW_.out (by kernel_rfl)) (fun _ _ _ h => h) (Or.inl ⟨by rfl, ?_⟩) hHeld ?_ ?_
            rotate_left
            ·
             rintro w' ⟨s0, s1⟩
             go_simp
             with_reducible rfl
            rotate_left
            · simp only [Act.put, setIfInBounds_toArray, set_cons_zero, set_cons_succ, i64_w, i32_w]; rfl
            refine pure_ (i := 8) (N := some 25) (v := ?_) (a' := ?_) #[true, true, true, true, true, true, true, true, true, false, false, false, false, false, false, false, false, false, false, false, false, false, false, false] rfl rfl (any_of HT_.out (by kernel_rfl)) (fun _ _ _ h => h) (Or.inl ⟨by rfl, ?_⟩) ?_ ?_
            rotate_left
            ·
             intro w'
             go_simp
             with_reducible rfl
            rotate_left
            · simp only [Act.put, setIfInBounds_toArray, set_cons_zero, set_cons_succ, i64_w, i32_w]; rfl
            refine pure_ (i := 9) (N := some 26) (v := ?_) (a' := ?_) #[true, true, true, true, true, true, true, true, true, true, false, false, false, false, false, false, false, false, false, false, false, false, false, false] rfl rfl (any_of HT_.out (by kernel_rfl)) (fun _ _ _ h => h) (Or.inl ⟨by rfl, ?_⟩) ?_ ?_
            rotate_left
            ·
             intro w'
             go_simp
             with_reducible rfl
            rotate_left
            · simp only [Act.put, setIfInBounds_toArray, set_cons_zero, set_cons_succ, i64_w, i32_w]; rfl
            refine pure_ (i := 10) (N := some 27) (v := undef) (a' := ?_) #[true, true, true, true, true, true, true, true, true, true, true, false, false, false, false, false, false, false, false, false, false, false, false, false] rfl rfl (any_of HT_.out (by kernel_rfl)) (fun _ _ _ h => h) (Or.inr ⟨by rfl, rfl⟩) ?_ ?_
            rotate_left
            · simp only [Act.put, setIfInBounds_toArray, set_cons_zero, set_cons_succ, i64_w, i32_w]; rfl
            refine pure_ (i := 11) (N := some 28) (v := undef) (a' := ?_) #[true, true, true, true, true, true, true, true, true, true, true, true, false, false, false, false, false, false, false, false, false, false, false, false] rfl rfl (any_of HT_.out (by kernel_rfl)) (fun _ _ _ h => h) (Or.inr ⟨by rfl, rfl⟩) ?_ ?_
            rotate_left
            · simp only [Act.put, setIfInBounds_toArray, set_cons_zero, set_cons_succ, i64_w, i32_w]; rfl
            refine pure_ (i := 12) (N := some 29) (v := undef) (a' := ?_) #[true, true, true, true, true, true, true, true, true, true, true, true, true, false, false, false, false, false, false, false, false, false, false, false] rfl rfl (any_of HT_.out (by kernel_rfl)) (fun _ _ _ h => h) (Or.inr ⟨by rfl, rfl⟩) ?_ ?_
            rotate_left
            · simp only [Act.put, setIfInBounds_toArray, set_cons_zero, set_cons_succ, i64_w, i32_w]; rfl
            refine pure_ (i := 13) (N := some 30) (v := undef) (a' := ?_) #[true, true, true, true, true, true, true, true, true, true, true, true, true, true, false, false, false, false, false, false, false, false, false, false] rfl rfl (any_of HT_.out (by kernel_rfl)) (fun _ _ _ h => h) (Or.inr ⟨by rfl, rfl⟩) ?_ ?_
            rotate_left
            · simp only [Act.put, setIfInBounds_toArray, set_cons_zero, set_cons_succ, i64_w, i32_w]; rfl
            refine pure_ (i := 14) (N := some 31) (v := undef) (a' := ?_) #[true, true, true, true, true, true, true, true, true, true, true, true, true, true, true, false, false, false, false, false, false, false, false, false] rfl rfl (any_of HT_.out (by kernel_rfl)) (fun _ _ _ h => h) (Or.inr ⟨by rfl, rfl⟩) ?_ ?_
            rotate_left
            · simp only [Act.put, setIfInBounds_toArray, set_cons_zero, set_cons_succ, i64_w, i32_w]; rfl
            refine pure_ (i := 15) (N := some 32) (v := undef) (a' := ?_) #[true, true, true, true, true, true, true, true, true, true, true, true, true, true, true, true, false, false, false, false, false, false, false, false] rfl rfl (any_of HT_.out (by kernel_rfl)) (fun _ _ _ h => h) (Or.inr ⟨by rfl, rfl⟩) ?_ ?_
            rotate_left
            · simp only [Act.put, setIfInBounds_toArray, set_cons_zero, set_cons_succ, i64_w, i32_w]; rfl
            refine pure_ (i := 16) (N := some 33) (v := undef) (a' := ?_) #[true, true, true, true, true, true, true, true, true, true, true, true, true, true, true, true, true, false, false, false, false, false, false, false] rfl rfl (any_of HT_.out (by kernel_rfl)) (fun _ _ _ h => h) (Or.inr ⟨by rfl, rfl⟩) ?_ ?_
            rotate_left
            · simp only [Act.put, setIfInBounds_toArray, set_cons_zero, set_cons_succ, i64_w, i32_w]; rfl
            refine pure_ (i := 17) (N := some 34) (v := undef) (a' := ?_) #[true, true, true, true, true, true, true, true, true, true, true, true, true, true, true, true, true, true, false, false, false, false, false, false] rfl rfl (any_of HT_.out (by kernel_rfl)) (fun _ _ _ h => h) (Or.inr ⟨by rfl, rfl⟩) ?_ ?_
            rotate_left
            · simp only [Act.put, setIfInBounds_toArray, set_cons_zero, set_cons_succ, i64_w, i32_w]; rfl
            refine pure_ (i := 18) (N := some 35) (v := undef) (a' := ?_) #[true, true, true, true, true, true, true, true, true, true, true, true, true, true, true, true, true, true, true, false, false, false, false, false] rfl rfl (any_of HT_.out (by kernel_rfl)) (fun _ _ _ h => h) (Or.inr ⟨by rfl, rfl⟩) ?_ ?_
            rotate_left
            · simp only [Act.put, setIfInBounds_toArray, set_cons_zero, set_cons_succ, i64_w, i32_w]; rfl
            refine pure_ (i := 19) (N := some 36) (v := undef) (a' := ?_) #[true, true, true, true, true, true, true, true, true, true, true, true, true, true, true, true, true, true, true, true, false, false, false, false] rfl rfl (any_of HT_.out (by kernel_rfl)) (fun _ _ _ h => h) (Or.inr ⟨by rfl, rfl⟩) ?_ ?_
            rotate_left
            · simp only [Act.put, setIfInBounds_toArray, set_cons_zero, set_cons_succ, i64_w, i32_w]; rfl
            refine pure_ (i := 20) (N := some 37) (v := undef) (a' := ?_) #[true, true, true, true, true, true, true, true, true, true, true, true, true, true, true, true, true, true, true, true, true, false, false, false] rfl rfl (any_of HT_.out (by kernel_rfl)) (fun _ _ _ h => h) (Or.inr ⟨by rfl, rfl⟩) ?_ ?_
            rotate_left
            · simp only [Act.put, setIfInBounds_toArray, set_cons_zero, set_cons_succ, i64_w, i32_w]; rfl
            refine pure_ (i := 21) (N := some 38) (v := undef) (a' := ?_) #[true, true, true, true, true, true, true, true, true, true, true, true, true, true, true, true, true, true, true, true, true, true, false, false] rfl rfl (any_of HT_.out (by kernel_rfl)) (fun _ _ _ h => h) (Or.inr ⟨by rfl, rfl⟩) ?_ ?_
            rotate_left
            · simp only [Act.put, setIfInBounds_toArray, set_cons_zero, set_cons_succ, i64_w, i32_w]; rfl
            refine pure_ (i := 22) (N := some 39) (v := undef) (a' := ?_) #[true, true, true, true, true, true, true, true, true, true, true, true, true, true, true, true, true, true, true, true, true, true, true, false] rfl rfl (any_of HT_.out (by kernel_rfl)) (fun _ _ _ h => h) (Or.inr ⟨by rfl, rfl⟩) ?_ ?_
            rotate_left
            · simp only [Act.put, setIfInBounds_toArray, set_cons_zero, set_cons_succ, i64_w, i32_w]; rfl
            refine pure_ (i := 23) (N := some 40) (v := ?_) (a' := ?_) #[true, true, true, true, true, true, true, true, true, true, true, true, true, true, true, true, true, true, true, true, true, true, true, true] rfl rfl (any_of HT_.out (by kernel_rfl)) (fun _ _ _ h => h) (Or.inl ⟨by rfl, ?_⟩) ?_ ?_
            rotate_left
            ·
             intro w'
             go_simp
             with_reducible rfl
            rotate_left
            · simp only [Act.put, setIfInBounds_toArray, set_cons_zero, set_cons_succ, i64_w, i32_w]; rfl
            refine done_ (done_of HT_.out (by kernel_rfl)) ?_
            try go_wp2
            go_roundg k2
            case measure => have := HK1.out; have := HK2.out; omega
            case rel => exact ⟨(wrap64 (x6_2 + 1)), zqQ, H', ⟨by have := HK1.out; have := HK2.out; omega⟩, ⟨zqB BK389.out⟩, ⟨zqG HB.out GE389.out⟩⟩
          ·
           rw [if_neg c9] at H
           exact absurd H (by simp)
         ·
          rw [if_neg c8] at H
          exact absurd H (by simp)
        ·
         rw [if_neg c7] at H
         exact absurd H (by simp)
       ·
        rw [if_neg c6] at H
        exact absurd H (by simp)
      ·
       rw [if_neg c5] at H
       have c5b0 : decide (x6_2 < x9_1) = false := decide_eq_false c5
       clear c5
       have H' := zA H
       clear H
       go_wp2
       go_roundg k2
       case measure => have := HK1.out; have := HK2.out; omega
       case rel => exact ⟨(wrap64 (x9_1 + 1)), zqQ, H', ⟨by have := HK1.out; have := HK2.out; omega⟩, ⟨zqB BK389.out⟩, ⟨zqG HB.out GE389.out⟩⟩
   ·
    rw [if_neg c4] at H
    have c4b0 : decide (x9_1 < (l1.length : Int)) = false := decide_eq_false c4
    clear c4
    obtain rfl := Option.some.inj H
    go_wp2
    go_ret
    exact ⟨zqR, zqG HB.out GE389.out⟩
mutual
def pianolalaw03_fewest.l0 : Nat → List Int → Int → Int → Int → Int → List (S47) → Option (Int)
  | 0, _, _, _, _, _, _ => none
  | k + 1, x1, x2, x7, x8, x396000, x396001 => if x8 ≤ x2 then (pianolalaw03_fewest.j1 k x1 x2 x7 x8 (decide (x8 < x7)) x396000 x396001) else (pianolalaw03_fewest.j1 k x1 x2 x7 x8 false x396000 x396001)
def pianolalaw03_fewest.j1 : Nat → List Int → Int → Int → Int → Bool → Int → List (S47) → Option (Int)
  | 0, _, _, _, _, _, _, _ => none
  | k + 1, x1, x2, x7, x8, x27, x396000, x396001 => if x27 = true then ((some (([] : List Int) : List Int)).bind fun y396 => (if y396.length + x1.length < 17592186044416 then ((some (y396 ++ x1 : List Int)).bind fun y399 => (if y399.length < 17592186044416 then ((some (y399 ++ [x8] : List Int)).bind fun y402 => ((pianolalaw03_good.f k x396000 x396001 y402).bind fun t405 => (if t405 = true then ((pianolalaw03_fewest.f k x396000 x396001 y402 (mx x2 (wrap64 (x8 + 1)))).bind fun t406 => (pianolalaw03_fewest.l0 k x1 x2 (mn x7 t406) (wrap64 (x8 + 1)) x396000 x396001)) else (pianolalaw03_fewest.l0 k x1 x2 x7 (wrap64 (x8 + 1)) x396000 x396001)))) else (none))) else (none))) else (some x7)
def pianolalaw03_fewest.f : Nat → Int → List (S47) → List Int → Int → Option (Int)
  | 0, _, _, _, _ => none
  | k + 1, a0_0, l0_1, l1, a2 => if (l1.length : Int) = (l0_1.length : Int) then (some a2) else (pianolalaw03_fewest.l0 k l1 a2 (l0_1.length : Int) 0 a0_0 l0_1)
end
set_option maxHeartbeats 8000000 in
set_option maxRecDepth 100000 in
theorem pianolalaw03_fewest.calls (k : Nat) : ∀ (a0_0 : Int) (A0_1 : Option Addr) (c0_1 : Nat) (l0_1 : List (S47)) (A1 : Option Addr) (c1 : Nat) (l1 : List Int) (a2 : Int) (r : Int) (w : World) (hr0_1 : Kd.C k47 w A0_1 l0_1.length l0_1) (hc0_1 : l0_1.length ≤ c0_1) (hr1 : Kd.C (Kd.int .i64) w A1 l1.length l1) (hc1 : l1.length ≤ c1) (h : pianolalaw03_fewest.f k a0_0 l0_1 l1 a2 = some r),
  Calls Try.prog 40 #[.agg #[.int .i64 a0_0, .slice A0_1 l0_1.length c0_1], .slice A1 l1.length c1, .int .i64 a2] w fun e w' => e = .returned (.int .i64 r) ∧ Below w.heap.size w w' := by
 induction k using Nat.strongRecOn with
 | _ k ih =>
 intro a0_0 A0_1 c0_1 l0_1 A1 c1 l1 a2 r w hr0_1 hc0_1 hr1 hc1 h
 cases k with
 | zero => exact absurd h (by simp [pianolalaw03_fewest.f])
 | succ k =>
 simp only [pianolalaw03_fewest.f] at h
 have hu24 := Try.underlying24
 have HR0_1 := zA hr0_1
 have HC0_1 := zA hc0_1
 clear hr0_1 hc0_1
 have HR1 := zA hr1
 have HC1 := zA hc1
 clear hr1 hc1
 have HB := zA (Below.refl w.heap.size w)
 have H : (if (l1.length : Int) = (l0_1.length : Int) then (some a2) else (pianolalaw03_fewest.l0 k l1 a2 (l0_1.length : Int) 0 a0_0 l0_1)) = some r := h
 clear h
 by_cases c4 : (l1.length : Int) = (l0_1.length : Int)
 ·
  rw [if_pos c4] at H
  have c4b0 : ((l1.length : Int) == (l0_1.length : Int)) = true := beq_iff_eq.mpr c4
  have c4b1 : ((l1.length : Int) != (l0_1.length : Int)) = false := bne_eq_false_iff_eq.mpr c4
  have c4b2 : (l1.length == l0_1.length) = true := by first | simpa using c4 | (simp at c4 ⊢; omega)
  clear c4
  obtain rfl := Option.some.inj H
  go_enter Try.func40, Try.ntmps40
  go_wp2_with (first | ((with_reducible refine gate_dst (N := 3) rfl ?_); refine box_event ?hg (N := 3) ?hd (cs := #[.int .i64 a0_0, .slice A0_1 l0_1.length c0_1]) (t := 24) ?hr ?_; (case hd => rfl); (case hg => rfl); (case hr => first | (go_simp; done) | (go_simp; rfl)); intro gb395 hg w5 hbox hb; have n0_ := zA (below_step (zqA HB.out) hb); have n1_ := zA (hbox); have n2_ := zA ((by rw [hg]; exact (below_size (zqA HB.out)) : w.heap.size ≤ gb395)); have n3_ := zA ((by rw [hg]; exact (below_size (zqA HB.out)) : w.heap.size ≤ gb395)); clear HB; have HB := n0_; have BK395 := n1_; have GW395 := n2_; have GE395 := n3_; clear n0_ n1_ n2_ n3_; clear hb hbox hg; have hcz6_0 : w5.cell? ⟨gb395, 0, none⟩ = some (.int .i64 a0_0) := (blk_cell BK395.out 0).trans rfl; have hcz6_1 : w5.cell? ⟨gb395, 1, none⟩ = some (.slice A0_1 l0_1.length c0_1) := (blk_cell BK395.out 1).trans rfl; have hfz6_0 := blk_frozen BK395.out 0; have hfz6_1 := blk_frozen BK395.out 1))
  go_ret
  exact ⟨zqR, zqG HB.out GE395.out⟩
 ·
  rw [if_neg c4] at H
  have c4b0 : ((l1.length : Int) == (l0_1.length : Int)) = false := beq_eq_false_iff_ne.mpr c4
  have c4b1 : ((l1.length : Int) != (l0_1.length : Int)) = true := bne_iff_ne.mpr c4
  have c4b2 : (l1.length == l0_1.length) = false := by first | simpa using c4 | (simp at c4 ⊢; omega)
  have H' := zA H
  clear H
  go_enter Try.func40, Try.ntmps40
  go_wp2_with (first | ((with_reducible refine gate_dst (N := 3) rfl ?_); refine box_event ?hg (N := 3) ?hd (cs := #[.int .i64 a0_0, .slice A0_1 l0_1.length c0_1]) (t := 24) ?hr ?_; (case hd => rfl); (case hg => rfl); (case hr => first | (go_simp; done) | (go_simp; rfl)); intro gb395 hg w7 hbox hb; have n0_ := zA (below_step (zqA HB.out) hb); have n1_ := zA (hbox); have n2_ := zA ((by rw [hg]; exact (below_size (zqA HB.out)) : w.heap.size ≤ gb395)); have n3_ := zA ((by rw [hg]; exact (below_size (zqA HB.out)) : w.heap.size ≤ gb395)); clear HB; have HB := n0_; have BK395 := n1_; have GW395 := n2_; have GE395 := n3_; clear n0_ n1_ n2_ n3_; clear hb hbox hg; have hcz8_0 : w7.cell? ⟨gb395, 0, none⟩ = some (.int .i64 a0_0) := (blk_cell BK395.out 0).trans rfl; have hcz8_1 : w7.cell? ⟨gb395, 1, none⟩ = some (.slice A0_1 l0_1.length c0_1) := (blk_cell BK395.out 1).trans rfl; have hfz8_0 := blk_frozen BK395.out 0; have hfz8_1 := blk_frozen BK395.out 1))
  go_loopg [7, 8] k (fun kq v7 v8 w' => ∃ (x7_1 : Int) (x8_1 : Int), v7 = .int .i64 x7_1 ∧ v8 = .int .i64 x8_1 ∧ Aside0 (pianolalaw03_fewest.l0 kq l1 a2 x7_1 x8_1 a0_0 l0_1 = some r) ∧ Aside0 (kq ≤ k) ∧ Aside0 (w'.heap[gb395]? = some (.cells #[.int .i64 a0_0, (.slice A0_1 l0_1.length c0_1)] 24 (0, 0))) ∧ Aside0 (Below w.heap.size w w'))
  case atStart => exact ⟨((l0_1.length : Int)), (0), zqQ, zqQ, H', ⟨Nat.le_refl _⟩, ⟨zqB BK395.out⟩, ⟨zqG HB.out GE395.out⟩⟩
  case round =>
   clear H'
   try clear c1
   try clear p2
   try clear c4
   try clear c4b0
   try clear c4b1
   try clear c4b2
   try clear hcz6_0
   try clear hcz6_1
   try clear hcz8_0
   try clear hcz8_1
   try clear hfz6_0
   try clear hfz6_1
   try clear hfz8_0
   try clear hfz8_1
   obtain ⟨x7_1, x8_1, rfl, rfl, HA, HK1, BK395, HB⟩ := hrel
   cases gk with
   | zero => exact absurd HA.out (by simp [pianolalaw03_fewest.l0])
   | succ k1 =>
    have H := HA.out
    clear HA
    simp only [pianolalaw03_fewest.l0] at H
    have HC9 := zA H
    clear H
    go_upto_region 5 with (fail)
    go_cut [27] (fun v27 wc => ∃ (kq : Nat) (x27_8 : Bool), v27 = .bool x27_8 ∧ Aside0 (pianolalaw03_fewest.j1 kq l1 a2 x7_1 x8_1 x27_8 a0_0 l0_1 = some r) ∧ Aside0 (kq ≤ k1) ∧ Aside0 (wc.heap[gb395]? = some (.cells #[.int .i64 a0_0, (.slice A0_1 l0_1.length c0_1)] 24 (0, 0))) ∧ Aside0 (Below w.heap.size w wc))
    case first =>
     have H := HC9.out
     clear HC9
     by_cases c10 : x8_1 ≤ a2
     ·
      rw [if_pos c10] at H
      have c10b0 : decide (x8_1 ≤ a2) = true := decide_eq_true c10
      clear c10
      (first | rw [c10b0] | (simp only [i64_w, i32_w]; rw [c10b0]) | skip)
      have H' := zA H
      clear H
      go_wp2
      go_meet
      case rel => exact ⟨_, (decide (x8_1 < x7_1)), zqQ, H', ⟨by have := HK1.out; first | omega | exact Nat.le_refl _⟩, ⟨zqB BK395.out⟩, ⟨zqG HB.out GE395.out⟩⟩
     ·
      rw [if_neg c10] at H
      have c10b0 : decide (x8_1 ≤ a2) = false := decide_eq_false c10
      clear c10
      (first | rw [c10b0] | (simp only [i64_w, i32_w]; rw [c10b0]) | skip)
      have H' := zA H
      clear H
      go_wp2
      go_meet
      case rel => exact ⟨_, (false), zqQ, H', ⟨by have := HK1.out; first | omega | exact Nat.le_refl _⟩, ⟨zqB BK395.out⟩, ⟨zqG HB.out GE395.out⟩⟩
    case rest =>
     clear HC9
     try clear c1
     try clear p2
     try clear c4
     try clear c4b0
     try clear c4b1
     try clear c4b2
     try clear c10
     try clear c10b0
     try clear hcz6_0
     try clear hcz6_1
     try clear hcz8_0
     try clear hcz8_1
     try clear hfz6_0
     try clear hfz6_1
     try clear hfz8_0
     try clear hfz8_1
     try clear p2
     obtain ⟨kq, x27_8, rfl, HA, HJ8, BK395, HB⟩ := hcut
     cases kq with
     | zero => exact absurd HA.out (by simp [pianolalaw03_fewest.j1])
     | succ kj8 =>
      have H := HA.out
      clear HA
      simp only [pianolalaw03_fewest.j1] at H
      by_cases c11 : x27_8 = true
      ·
       subst c11
       have H1 : ((some (([] : List Int) : List Int)).bind fun y396 => (if y396.length + l1.length < 17592186044416 then ((some (y396 ++ l1 : List Int)).bind fun y399 => (if y399.length < 17592186044416 then ((some (y399 ++ [x8_1] : List Int)).bind fun y402 => ((pianolalaw03_good.f kj8 a0_0 l0_1 y402).bind fun t405 => (if t405 = true then ((pianolalaw03_fewest.f kj8 a0_0 l0_1 y402 (mx a2 (wrap64 (x8_1 + 1)))).bind fun t406 => (pianolalaw03_fewest.l0 kj8 l1 a2 (mn x7_1 t406) (wrap64 (x8_1 + 1)) a0_0 l0_1)) else (pianolalaw03_fewest.l0 kj8 l1 a2 x7_1 (wrap64 (x8_1 + 1)) a0_0 l0_1)))) else (none))) else (none))) = some r := by rw [if_pos rfl] at H; exact H
       clear H; have H := H1; clear H1
       obtain ⟨y396, hy396⟩ : ∃ y_ : List Int, y_ = (([] : List Int)) := ⟨_, rfl⟩
       replace H : (if y396.length + l1.length < 17592186044416 then ((some (y396 ++ l1 : List Int)).bind fun y399 => (if y399.length < 17592186044416 then ((some (y399 ++ [x8_1] : List Int)).bind fun y402 => ((pianolalaw03_good.f kj8 a0_0 l0_1 y402).bind fun t405 => (if t405 = true then ((pianolalaw03_fewest.f kj8 a0_0 l0_1 y402 (mx a2 (wrap64 (x8_1 + 1)))).bind fun t406 => (pianolalaw03_fewest.l0 kj8 l1 a2 (mn x7_1 t406) (wrap64 (x8_1 + 1)) a0_0 l0_1)) else (pianolalaw03_fewest.l0 kj8 l1 a2 x7_1 (wrap64 (x8_1 + 1)) a0_0 l0_1)))) else (none))) else (none)) = some r := zqF hy396 H
       have Ny396 := zA hy396
       clear hy396
       by_cases c12 : y396.length + l1.length < 17592186044416
       ·
        rw [if_pos c12] at H
        have LMc12 := zA c12
        clear c12
        obtain ⟨y399, hy399⟩ : ∃ y_ : List Int, y_ = (y396 ++ l1) := ⟨_, rfl⟩
        replace H : (if y399.length < 17592186044416 then ((some (y399 ++ [x8_1] : List Int)).bind fun y402 => ((pianolalaw03_good.f kj8 a0_0 l0_1 y402).bind fun t405 => (if t405 = true then ((pianolalaw03_fewest.f kj8 a0_0 l0_1 y402 (mx a2 (wrap64 (x8_1 + 1)))).bind fun t406 => (pianolalaw03_fewest.l0 kj8 l1 a2 (mn x7_1 t406) (wrap64 (x8_1 + 1)) a0_0 l0_1)) else (pianolalaw03_fewest.l0 kj8 l1 a2 x7_1 (wrap64 (x8_1 + 1)) a0_0 l0_1)))) else (none)) = some r := zqF hy399 H
        have Ny399 := zA hy399
        clear hy399
        by_cases c13 : y399.length < 17592186044416
        ·
         rw [if_pos c13] at H
         have LMc13 := zA c13
         clear c13
         obtain ⟨y402, hy402⟩ : ∃ y_ : List Int, y_ = (y399 ++ [x8_1]) := ⟨_, rfl⟩
         replace H : ((pianolalaw03_good.f kj8 a0_0 l0_1 y402).bind fun t405 => (if t405 = true then ((pianolalaw03_fewest.f kj8 a0_0 l0_1 y402 (mx a2 (wrap64 (x8_1 + 1)))).bind fun t406 => (pianolalaw03_fewest.l0 kj8 l1 a2 (mn x7_1 t406) (wrap64 (x8_1 + 1)) a0_0 l0_1)) else (pianolalaw03_fewest.l0 kj8 l1 a2 x7_1 (wrap64 (x8_1 + 1)) a0_0 l0_1))) = some r := zqF hy402 H
         have Ny402 := zA hy402
         clear hy402
         replace H := Option.bind_eq_some_iff.mp H
         obtain ⟨t405, A140, H⟩ := H
         replace H : (if t405 = true then ((pianolalaw03_fewest.f kj8 a0_0 l0_1 y402 (mx a2 (wrap64 (x8_1 + 1)))).bind fun t406 => (pianolalaw03_fewest.l0 kj8 l1 a2 (mn x7_1 t406) (wrap64 (x8_1 + 1)) a0_0 l0_1)) else (pianolalaw03_fewest.l0 kj8 l1 a2 x7_1 (wrap64 (x8_1 + 1)) a0_0 l0_1)) = some r := H
         have A14 := zA A140
         clear A140
         by_cases c15 : t405 = true
         ·
          subst c15
          have H1 : ((pianolalaw03_fewest.f kj8 a0_0 l0_1 y402 (mx a2 (wrap64 (x8_1 + 1)))).bind fun t406 => (pianolalaw03_fewest.l0 kj8 l1 a2 (mn x7_1 t406) (wrap64 (x8_1 + 1)) a0_0 l0_1)) = some r := by rw [if_pos rfl] at H; exact H
          clear H; have H := H1; clear H1
          obtain ⟨ji16, hji16⟩ : ∃ j_ : Int, (mx a2 (wrap64 (x8_1 + 1))) = j_ := ⟨_, rfl⟩
          replace H : ((pianolalaw03_fewest.f kj8 a0_0 l0_1 y402 (ji16)).bind fun t406 => (pianolalaw03_fewest.l0 kj8 l1 a2 (mn x7_1 t406) (wrap64 (x8_1 + 1)) a0_0 l0_1)) = some r := by first | (rw [hji16] at H; exact H) | (simp only [hji16] at H ⊢; exact H)
          (try rw [hji16] at A14)
          have hji16_ : (if a2 < (wrap64 (x8_1 + 1)) then (wrap64 (x8_1 + 1)) else a2) = ji16 := hji16
          replace H := Option.bind_eq_some_iff.mp H
          obtain ⟨t406, A170, H⟩ := H
          replace H : (pianolalaw03_fewest.l0 kj8 l1 a2 (mn x7_1 t406) (wrap64 (x8_1 + 1)) a0_0 l0_1) = some r := H
          have A17 := zA A170
          clear A170
          obtain ⟨ji18, hji18⟩ : ∃ j_ : Int, (mn x7_1 t406) = j_ := ⟨_, rfl⟩
          replace H : (pianolalaw03_fewest.l0 kj8 l1 a2 ji18 (wrap64 (x8_1 + 1)) a0_0 l0_1) = some r := by first | (rw [hji18] at H; exact H) | (simp only [hji18] at H ⊢; exact H)
          (try rw [hji18] at A14)
          (try rw [hji18] at A17)
          have hji18_ : (if t406 < x7_1 then t406 else x7_1) = ji18 := hji18
          have H' := zA H
          clear H
          go_wp2_with (first | ((with_reducible refine gate_dst (N := 30) rfl ?_); refine Kd.R_lit (Kd.int .i64) _ 3 ?hg (N := 30) ?hd (xs := ([] : List Int)) (inner := []) (ok := fun _ => True) (okp := fun _ => True) ?hr ?hp (fun _ hk => hk) trivial (Below.refl _ _) (Nat.le_refl _) (by simp) ?_; (case hd => rfl); (case hg => rfl); (case hr => first | (go_simp; done) | (go_simp; rfl)); (case hp => exact (Reps.none _ _)); intro v397 w19 ho20 hb hg_ hnew_; clear hg_ hnew_; (first | rw [← Ny396.out] at ho20 | (simp only [Int.reduceToNat] at ho20; rw [← Ny396.out] at ho20)); have n0_ := zA (Kd.R_lower ho20 (below_size (zqG HB.out GE395.out))); have n1_ := zA (blk_below (g := gb395) (o := .cells #[.int .i64 a0_0, .slice A0_1 l0_1.length c0_1] 24 (0, 0)) (zqB BK395.out) hb); have n2_ := zA (below_step (zqG HB.out GE395.out) hb); clear BK395; clear HB; have HO398 := n0_; have BK395 := n1_; have HB := n2_; clear n0_ n1_ n2_; clear hb ho20) | ((with_reducible refine gate_builtin (b := .append) (xs := #[.tmp 30, .tmp 31]) rfl ?_); at_builtin; refine Kd.R_append_rows (Kd.int .i64) (w0 := w) w.heap.size rfl (.tmp 30) (.tmp 31) 26 3 (.int .i64 0) 8 rfl Try.underlying26 info3 rfl (by decide) (by omega) v397 y396 l1 _ _ _ (fun _ => True) (fun _ => False) rfl rfl ?aO ?aR (fun _ _ h => h) (fun _ h => h.elim) ?aF ?aB ?aS ?aL ?_; (case aR => repeat (first | exact (Kd.C_below HR1.out HB.out) | (with_reducible refine Kd.C_alloc ?_ _) | (with_reducible refine Kd.C_drewN ?_ _) | (with_reducible refine Kd.C_drew ?_))); (case aB => exact (zqG HB.out GE395.out)); (case aF => exact (fun _ _ => trivial)); (case aO => exact (zqC HO398.out)); (case aS => exact (below_size (zqG HB.out GE395.out))); (case aL => have := LMc12.out; omega); intro v400 w21 ho hb hg hat; rw [← Ny399.out] at ho; have n0_ := zA (blk_grown (g := gb395) (o := .cells #[.int .i64 a0_0, .slice A0_1 l0_1.length c0_1] 24 (0, 0)) (zqB BK395.out) hg (Kd.R_ne HO398.out BK395.out (by decide))); have n1_ := zA (hb); have n2_ := zA (ho); clear BK395; clear HB; clear HO398; have BK395 := n0_; have HB := n1_; have HO401 := n2_; clear n0_ n1_ n2_; clear ho hb hg hat) | ((with_reducible refine gate_builtin (b := .append) (xs := #[.tmp 32, .tmp 34]) rfl ?_); at_builtin; refine Kd.R_append (Kd.int .i64) (w0 := w) w.heap.size rfl (.tmp 32) (.tmp 34) 26 3 (.int .i64 0) 8 rfl Try.underlying26 info3 rfl (by decide) (by omega) v400 y399 x8_1 [.int .i64 x8_1] (fun _ => True) (fun _ => False) rfl rfl ?aP (fun _ hk => hk.elim) ?aF ?aO ?aB ?aS ?aL ?_; (case aP => exact rfl); (case aB => exact (zqG HB.out GE395.out)); (case aF => exact (fun _ _ => trivial)); (case aO => exact (zqC HO401.out)); (case aS => exact (below_size (zqG HB.out GE395.out))); (case aL => have := LMc13.out; omega); intro v403 w22 ho hb hg hat; rw [← Ny402.out] at ho; have n0_ := zA (blk_grown (g := gb395) (o := .cells #[.int .i64 a0_0, .slice A0_1 l0_1.length c0_1] 24 (0, 0)) (zqB BK395.out) hg (Kd.R_ne HO401.out BK395.out (by decide))); have n1_ := zA (hb); have n2_ := zA (ho); clear BK395; clear HB; clear HO401; have BK395 := n0_; have HB := n1_; have HO404 := n2_; clear n0_ n1_ n2_; clear ho hb hg hat; have hcz23_0 : w22.cell? ⟨gb395, 0, none⟩ = some (.int .i64 a0_0) := (blk_cell BK395.out 0).trans rfl; have hcz23_1 : w22.cell? ⟨gb395, 1, none⟩ = some (.slice A0_1 l0_1.length c0_1) := (blk_cell BK395.out 1).trans rfl; have hfz23_0 := blk_frozen BK395.out 0; have hfz23_1 := blk_frozen BK395.out 1; obtain ⟨Ao24, co24, eo24⟩ := Kd.R_slice HO404.out; subst eo24) | ((with_reducible refine gate_callee (f := 39) rfl ?_); refine goesL_ (some 38) rfl rfl Try.func39 (by kernel_rfl) rfl #[.agg #[.int .i64 a0_0, .slice A0_1 l0_1.length c0_1], .slice Ao24 y402.length co24] rfl zqE ?_; (with_reducible refine (pianolalaw03_good.calls kj8 a0_0 _ _ l0_1 _ _ y402 true _ ?side1 ?side2 ?side3 ?side4 A14.out).mono ?_); (case side1 => exact zqK (Kd.C_below HR0_1.out HB.out)); (case side2 => exact HC0_1.out); (case side3 => exact zqK (Kd.R_reads' HO404.out).2.2); (case side4 => exact (Kd.R_reads' HO404.out).2.1); rintro e w25 ⟨rfl, hb⟩; refine ⟨_, rfl, ?_⟩; have n0_ := zA (Kd.R_below (zqC HO404.out) hb); have n1_ := zA (blk_below (g := gb395) (o := .cells #[.int .i64 a0_0, .slice A0_1 l0_1.length c0_1] 24 (0, 0)) (zqB BK395.out) hb); have n2_ := zA (below_step (zqG HB.out GE395.out) hb); clear HO404; clear BK395; clear HB; have HO404 := n0_; have BK395 := n1_; have HB := n2_; clear n0_ n1_ n2_; (try clear hb); (try clear hb2); (try clear hk); (try clear hi); have hcz26_0 : w25.cell? ⟨gb395, 0, none⟩ = some (.int .i64 a0_0) := (blk_cell BK395.out 0).trans rfl; have hcz26_1 : w25.cell? ⟨gb395, 1, none⟩ = some (.slice A0_1 l0_1.length c0_1) := (blk_cell BK395.out 1).trans rfl; have hfz26_0 := blk_frozen BK395.out 0; have hfz26_1 := blk_frozen BK395.out 1) | ((with_reducible refine gate_callee (f := 40) rfl ?_); refine goesL_ (some 46) rfl rfl Try.func40 (by kernel_rfl) rfl #[.agg #[.int .i64 a0_0, .slice A0_1 l0_1.length c0_1], .slice Ao24 y402.length co24, .int .i64 ji16] rfl (by (try simp only [List.map_toArray, List.map_cons, List.map_nil]); first | done | (simp only [hji16]; rfl) | rfl | (simp only [List.length_drop, List.length_take]; rfl)) ?_; (with_reducible refine (ih kj8 (by have := HK1.out; have := HJ8.out; omega) a0_0 _ _ l0_1 _ _ y402 ji16 t406 _ ?side1 ?side2 ?side3 ?side4 A17.out).mono ?_); (case side1 => exact zqK (Kd.C_below HR0_1.out HB.out)); (case side2 => exact HC0_1.out); (case side3 => exact zqK (Kd.R_reads' HO404.out).2.2); (case side4 => exact (Kd.R_reads' HO404.out).2.1); rintro e w27 ⟨rfl, hb⟩; refine ⟨_, rfl, ?_⟩; have n0_ := zA (Kd.R_below (zqC HO404.out) hb); have n1_ := zA (blk_below (g := gb395) (o := .cells #[.int .i64 a0_0, .slice A0_1 l0_1.length c0_1] 24 (0, 0)) (zqB BK395.out) hb); have n2_ := zA (below_step (zqG HB.out GE395.out) hb); clear HO404; clear BK395; clear HB; have HO404 := n0_; have BK395 := n1_; have HB := n2_; clear n0_ n1_ n2_; (try clear hb); (try clear hb2); (try clear hk); (try clear hi)))
          go_roundg kj8
          case measure => have := HK1.out; have := HJ8.out; omega
          case rel => exact ⟨(ji18), (wrap64 (x8_1 + 1)), (by first | rfl | (simp; done) | (simp only [← hji18] <;> (first | rfl | simp)) | (simp [*]; done)), zqQ, H', ⟨by have := HK1.out; have := HJ8.out; omega⟩, ⟨zqB BK395.out⟩, ⟨zqG HB.out GE395.out⟩⟩
         ·
          replace c15 := Bool.eq_false_iff.mpr c15
          subst c15
          have H1 : (pianolalaw03_fewest.l0 kj8 l1 a2 x7_1 (wrap64 (x8_1 + 1)) a0_0 l0_1) = some r := by rw [if_neg (show ¬ (false = true) by decide)] at H; exact H
          clear H; have H := H1; clear H1
          have H' := zA H
          clear H
          go_wp2_with (first | ((with_reducible refine gate_dst (N := 30) rfl ?_); refine Kd.R_lit (Kd.int .i64) _ 3 ?hg (N := 30) ?hd (xs := ([] : List Int)) (inner := []) (ok := fun _ => True) (okp := fun _ => True) ?hr ?hp (fun _ hk => hk) trivial (Below.refl _ _) (Nat.le_refl _) (by simp) ?_; (case hd => rfl); (case hg => rfl); (case hr => first | (go_simp; done) | (go_simp; rfl)); (case hp => exact (Reps.none _ _)); intro v397 w28 ho29 hb hg_ hnew_; clear hg_ hnew_; (first | rw [← Ny396.out] at ho29 | (simp only [Int.reduceToNat] at ho29; rw [← Ny396.out] at ho29)); have n0_ := zA (Kd.R_lower ho29 (below_size (zqG HB.out GE395.out))); have n1_ := zA (blk_below (g := gb395) (o := .cells #[.int .i64 a0_0, .slice A0_1 l0_1.length c0_1] 24 (0, 0)) (zqB BK395.out) hb); have n2_ := zA (below_step (zqG HB.out GE395.out) hb); clear BK395; clear HB; have HO398 := n0_; have BK395 := n1_; have HB := n2_; clear n0_ n1_ n2_; clear hb ho29) | ((with_reducible refine gate_builtin (b := .append) (xs := #[.tmp 30, .tmp 31]) rfl ?_); at_builtin; refine Kd.R_append_rows (Kd.int .i64) (w0 := w) w.heap.size rfl (.tmp 30) (.tmp 31) 26 3 (.int .i64 0) 8 rfl Try.underlying26 info3 rfl (by decide) (by omega) v397 y396 l1 _ _ _ (fun _ => True) (fun _ => False) rfl rfl ?aO ?aR (fun _ _ h => h) (fun _ h => h.elim) ?aF ?aB ?aS ?aL ?_; (case aR => repeat (first | exact (Kd.C_below HR1.out HB.out) | (with_reducible refine Kd.C_alloc ?_ _) | (with_reducible refine Kd.C_drewN ?_ _) | (with_reducible refine Kd.C_drew ?_))); (case aB => exact (zqG HB.out GE395.out)); (case aF => exact (fun _ _ => trivial)); (case aO => exact (zqC HO398.out)); (case aS => exact (below_size (zqG HB.out GE395.out))); (case aL => have := LMc12.out; omega); intro v400 w30 ho hb hg hat; rw [← Ny399.out] at ho; have n0_ := zA (blk_grown (g := gb395) (o := .cells #[.int .i64 a0_0, .slice A0_1 l0_1.length c0_1] 24 (0, 0)) (zqB BK395.out) hg (Kd.R_ne HO398.out BK395.out (by decide))); have n1_ := zA (hb); have n2_ := zA (ho); clear BK395; clear HB; clear HO398; have BK395 := n0_; have HB := n1_; have HO401 := n2_; clear n0_ n1_ n2_; clear ho hb hg hat) | ((with_reducible refine gate_builtin (b := .append) (xs := #[.tmp 32, .tmp 34]) rfl ?_); at_builtin; refine Kd.R_append (Kd.int .i64) (w0 := w) w.heap.size rfl (.tmp 32) (.tmp 34) 26 3 (.int .i64 0) 8 rfl Try.underlying26 info3 rfl (by decide) (by omega) v400 y399 x8_1 [.int .i64 x8_1] (fun _ => True) (fun _ => False) rfl rfl ?aP (fun _ hk => hk.elim) ?aF ?aO ?aB ?aS ?aL ?_; (case aP => exact rfl); (case aB => exact (zqG HB.out GE395.out)); (case aF => exact (fun _ _ => trivial)); (case aO => exact (zqC HO401.out)); (case aS => exact (below_size (zqG HB.out GE395.out))); (case aL => have := LMc13.out; omega); intro v403 w31 ho hb hg hat; rw [← Ny402.out] at ho; have n0_ := zA (blk_grown (g := gb395) (o := .cells #[.int .i64 a0_0, .slice A0_1 l0_1.length c0_1] 24 (0, 0)) (zqB BK395.out) hg (Kd.R_ne HO401.out BK395.out (by decide))); have n1_ := zA (hb); have n2_ := zA (ho); clear BK395; clear HB; clear HO401; have BK395 := n0_; have HB := n1_; have HO404 := n2_; clear n0_ n1_ n2_; clear ho hb hg hat; have hcz32_0 : w31.cell? ⟨gb395, 0, none⟩ = some (.int .i64 a0_0) := (blk_cell BK395.out 0).trans rfl; have hcz32_1 : w31.cell? ⟨gb395, 1, none⟩ = some (.slice A0_1 l0_1.length c0_1) := (blk_cell BK395.out 1).trans rfl; have hfz32_0 := blk_frozen BK395.out 0; have hfz32_1 := blk_frozen BK395.out 1; obtain ⟨Ao33, co33, eo33⟩ := Kd.R_slice HO404.out; subst eo33) | ((with_reducible refine gate_callee (f := 39) rfl ?_); refine goesL_ (some 38) rfl rfl Try.func39 (by kernel_rfl) rfl #[.agg #[.int .i64 a0_0, .slice A0_1 l0_1.length c0_1], .slice Ao33 y402.length co33] rfl zqE ?_; (with_reducible refine (pianolalaw03_good.calls kj8 a0_0 _ _ l0_1 _ _ y402 false _ ?side1 ?side2 ?side3 ?side4 A14.out).mono ?_); (case side1 => exact zqK (Kd.C_below HR0_1.out HB.out)); (case side2 => exact HC0_1.out); (case side3 => exact zqK (Kd.R_reads' HO404.out).2.2); (case side4 => exact (Kd.R_reads' HO404.out).2.1); rintro e w34 ⟨rfl, hb⟩; refine ⟨_, rfl, ?_⟩; have n0_ := zA (Kd.R_below (zqC HO404.out) hb); have n1_ := zA (blk_below (g := gb395) (o := .cells #[.int .i64 a0_0, .slice A0_1 l0_1.length c0_1] 24 (0, 0)) (zqB BK395.out) hb); have n2_ := zA (below_step (zqG HB.out GE395.out) hb); clear HO404; clear BK395; clear HB; have HO404 := n0_; have BK395 := n1_; have HB := n2_; clear n0_ n1_ n2_; (try clear hb); (try clear hb2); (try clear hk); (try clear hi)))
          go_roundg kj8
          case measure => have := HK1.out; have := HJ8.out; omega
          case rel => exact ⟨(x7_1), (wrap64 (x8_1 + 1)), zqQ, zqQ, H', ⟨by have := HK1.out; have := HJ8.out; omega⟩, ⟨zqB BK395.out⟩, ⟨zqG HB.out GE395.out⟩⟩
        ·
         rw [if_neg c13] at H
         exact absurd H (by simp)
       ·
        rw [if_neg c12] at H
        exact absurd H (by simp)
      ·
       replace c11 := Bool.eq_false_iff.mpr c11
       subst c11
       have H1 : (some x7_1) = some r := by rw [if_neg (show ¬ (false = true) by decide)] at H; exact H
       clear H; have H := H1; clear H1
       obtain rfl := Option.some.inj H
       go_wp2
       go_ret
       exact ⟨zqR, zqG HB.out GE395.out⟩
end Go.Proofs.Ytegffliopblajaa.P
end
end
section
namespace Go.Proofs.Ytegffliopblajaa.P
open Go.RowKit Go.Proofs.YtegffliopblajaaW.PrintWords Go.Proofs.YtegffliopblajaaW.PrintLast Go.Proofs.YtegffliopblajaaW.PrintMore
attribute [local go_sem] max2_int min2_int max_two min_two max_three min_three max_four min_four
set_option linter.unusedVariables false
set_option linter.unusedSimpArgs false
mutual
def pianolalaw03_PunchBest.j0 : Nat → Int → Int → Int → Bool → Int → List (S47) → Option (Bool)
  | 0, _, _, _, _, _, _ => none
  | k + 1, x5, x7, x8, x63, x415000, x415001 => if x63 = true then (some false) else (if x5 = 0 then (if x8 = 8 then (if (x415001.length : Int) = 0 then ((pianolalaw03_works.f).bind fun t426 => (some t426)) else (some false)) else (some false)) else (if x8 = 0 then (pianolalaw03_PunchBest.l0 k x5 x7 0 x415000 x415001) else (some false)))
def pianolalaw03_PunchBest.l0 : Nat → Int → Int → Int → Int → List (S47) → Option (Bool)
  | 0, _, _, _, _, _ => none
  | k + 1, x5, x7, x11, x415000, x415001 => if x11 < 70 then ((punch_Crowd.f x415000 x415001 x11).bind fun bt427 => (if bt427.2 = 0 then (if (bt427.1.length : Int) > x5 then (some false) else (if (bt427.1.length : Int) = x5 then (if x11 < x7 then (some false) else (if x11 = x7 then (pianolalaw03_PunchBest.l0 k x5 x7 (wrap64 (x11 + 1)) x415000 x415001) else (pianolalaw03_PunchBest.l0 k x5 x7 (wrap64 (x11 + 1)) x415000 x415001))) else (if x11 = x7 then (some false) else (pianolalaw03_PunchBest.l0 k x5 x7 (wrap64 (x11 + 1)) x415000 x415001)))) else (some false))) else (if x7 ≥ 0 then (if x7 < 70 then ((pianolalaw03_works.f).bind fun t431 => (some t431)) else (some false)) else (some false))
end
def pianolalaw03_PunchBest.f (k : Nat) (a0_0 : Int) (l0_1 : List (S82)) : Option (Bool) := (pianolalaw03_Lane_made.f k a0_0 l0_1).bind fun bt410 => ((punch_Passes.f bt410.1 bt410.2).bind fun bt415 => ((punch_Prove.f bt410.1 bt410.2).bind fun bt420 => ((punch_Verify.f bt410.1 bt410.2 bt415.1).bind fun bt422 => (if bt415.2.2 = 0 then (if bt422.2 = 0 then (if (bt415.1.length : Int) = (bt410.2.length : Int) then ((pianolalaw03_good.f k bt410.1 bt410.2 bt415.1).bind fun t424 => (if t424 = true then (if bt422.1 = bt415.2.1 then ((pianolalaw03_fewest.f k bt410.1 bt410.2 ([] : List Int) 0).bind fun t425 => (pianolalaw03_PunchBest.j0 k bt415.2.1 bt420.1 bt420.2 (bt415.2.1 != t425) bt410.1 bt410.2)) else (pianolalaw03_PunchBest.j0 k bt415.2.1 bt420.1 bt420.2 true bt410.1 bt410.2)) else (pianolalaw03_PunchBest.j0 k bt415.2.1 bt420.1 bt420.2 true bt410.1 bt410.2))) else (pianolalaw03_PunchBest.j0 k bt415.2.1 bt420.1 bt420.2 true bt410.1 bt410.2)) else (pianolalaw03_PunchBest.j0 k bt415.2.1 bt420.1 bt420.2 true bt410.1 bt410.2)) else (pianolalaw03_PunchBest.j0 k bt415.2.1 bt420.1 bt420.2 true bt410.1 bt410.2)))))
theorem pianolalaw03_PunchBest.j0_no {r : Bool} : ∀ {k : Nat} {x5 : Int} {x7 : Int} {x8 : Int} {x415000 : Int} {x415001 : List (S47)}, pianolalaw03_PunchBest.j0 k x5 x7 x8 true x415000 x415001 = some r → r = true → False
  | 0, _, _, _, _, _ => by
    intro h
    simp [pianolalaw03_PunchBest.j0] at h
  | k + 1, _, _, _, _, _ => by
    intro h hr
    rw [pianolalaw03_PunchBest.j0, if_pos rfl] at h
    subst hr
    exact absurd (Option.some.inj h) (by decide)
set_option maxHeartbeats 8000000 in
set_option maxRecDepth 100000 in
theorem pianolalaw03_PunchBest.calls (k : Nat) (a0_0 : Int) (A0_1 : Option Addr) (c0_1 : Nat) (l0_1 : List (S82)) (r : Bool) (hrt : r = true) (w : World) (hr0_1 : Kd.C k82 w A0_1 l0_1.length l0_1) (hc0_1 : l0_1.length ≤ c0_1) (h : pianolalaw03_PunchBest.f k a0_0 l0_1 = some r) :
  Calls Try.prog 8 #[.agg #[.int .u8 a0_0, .slice A0_1 l0_1.length c0_1]] w fun e w' => e = .returned (.bool r) ∧ Below w.heap.size w w' := by
 have HRT := zA hrt
 clear hrt
 have hu74 := Try.underlying74
 have hu24 := Try.underlying24
 have HR0_1 := zA hr0_1
 have HC0_1 := zA hc0_1
 clear hr0_1 hc0_1
 have HB := zA (Below.refl w.heap.size w)
 have H : ((pianolalaw03_Lane_made.f k a0_0 l0_1).bind fun bt410 => ((punch_Passes.f bt410.1 bt410.2).bind fun bt415 => ((punch_Prove.f bt410.1 bt410.2).bind fun bt420 => ((punch_Verify.f bt410.1 bt410.2 bt415.1).bind fun bt422 => (if bt415.2.2 = 0 then (if bt422.2 = 0 then (if (bt415.1.length : Int) = (bt410.2.length : Int) then ((pianolalaw03_good.f k bt410.1 bt410.2 bt415.1).bind fun t424 => (if t424 = true then (if bt422.1 = bt415.2.1 then ((pianolalaw03_fewest.f k bt410.1 bt410.2 ([] : List Int) 0).bind fun t425 => (pianolalaw03_PunchBest.j0 k bt415.2.1 bt420.1 bt420.2 (bt415.2.1 != t425) bt410.1 bt410.2)) else (pianolalaw03_PunchBest.j0 k bt415.2.1 bt420.1 bt420.2 true bt410.1 bt410.2)) else (pianolalaw03_PunchBest.j0 k bt415.2.1 bt420.1 bt420.2 true bt410.1 bt410.2))) else (pianolalaw03_PunchBest.j0 k bt415.2.1 bt420.1 bt420.2 true bt410.1 bt410.2)) else (pianolalaw03_PunchBest.j0 k bt415.2.1 bt420.1 bt420.2 true bt410.1 bt410.2)) else (pianolalaw03_PunchBest.j0 k bt415.2.1 bt420.1 bt420.2 true bt410.1 bt410.2)))))) = some r := h
 clear h
 replace H := Option.bind_eq_some_iff.mp H
 obtain ⟨⟨t410, t411⟩, A20, H⟩ := H
 replace H : ((punch_Passes.f t410 t411).bind fun bt415 => ((punch_Prove.f t410 t411).bind fun bt420 => ((punch_Verify.f t410 t411 bt415.1).bind fun bt422 => (if bt415.2.2 = 0 then (if bt422.2 = 0 then (if (bt415.1.length : Int) = (t411.length : Int) then ((pianolalaw03_good.f k t410 t411 bt415.1).bind fun t424 => (if t424 = true then (if bt422.1 = bt415.2.1 then ((pianolalaw03_fewest.f k t410 t411 ([] : List Int) 0).bind fun t425 => (pianolalaw03_PunchBest.j0 k bt415.2.1 bt420.1 bt420.2 (bt415.2.1 != t425) t410 t411)) else (pianolalaw03_PunchBest.j0 k bt415.2.1 bt420.1 bt420.2 true t410 t411)) else (pianolalaw03_PunchBest.j0 k bt415.2.1 bt420.1 bt420.2 true t410 t411))) else (pianolalaw03_PunchBest.j0 k bt415.2.1 bt420.1 bt420.2 true t410 t411)) else (pianolalaw03_PunchBest.j0 k bt415.2.1 bt420.1 bt420.2 true t410 t411)) else (pianolalaw03_PunchBest.j0 k bt415.2.1 bt420.1 bt420.2 true t410 t411))))) = some r := H
 have A2 := zA A20
 clear A20
 replace H := Option.bind_eq_some_iff.mp H
 obtain ⟨⟨t415, t418, t419⟩, A30, H⟩ := H
 replace H : ((punch_Prove.f t410 t411).bind fun bt420 => ((punch_Verify.f t410 t411 t415).bind fun bt422 => (if t419 = 0 then (if bt422.2 = 0 then (if (t415.length : Int) = (t411.length : Int) then ((pianolalaw03_good.f k t410 t411 t415).bind fun t424 => (if t424 = true then (if bt422.1 = t418 then ((pianolalaw03_fewest.f k t410 t411 ([] : List Int) 0).bind fun t425 => (pianolalaw03_PunchBest.j0 k t418 bt420.1 bt420.2 (t418 != t425) t410 t411)) else (pianolalaw03_PunchBest.j0 k t418 bt420.1 bt420.2 true t410 t411)) else (pianolalaw03_PunchBest.j0 k t418 bt420.1 bt420.2 true t410 t411))) else (pianolalaw03_PunchBest.j0 k t418 bt420.1 bt420.2 true t410 t411)) else (pianolalaw03_PunchBest.j0 k t418 bt420.1 bt420.2 true t410 t411)) else (pianolalaw03_PunchBest.j0 k t418 bt420.1 bt420.2 true t410 t411)))) = some r := H
 have A3 := zA A30
 clear A30
 replace H := Option.bind_eq_some_iff.mp H
 obtain ⟨⟨t420, t421⟩, A40, H⟩ := H
 replace H : ((punch_Verify.f t410 t411 t415).bind fun bt422 => (if t419 = 0 then (if bt422.2 = 0 then (if (t415.length : Int) = (t411.length : Int) then ((pianolalaw03_good.f k t410 t411 t415).bind fun t424 => (if t424 = true then (if bt422.1 = t418 then ((pianolalaw03_fewest.f k t410 t411 ([] : List Int) 0).bind fun t425 => (pianolalaw03_PunchBest.j0 k t418 t420 t421 (t418 != t425) t410 t411)) else (pianolalaw03_PunchBest.j0 k t418 t420 t421 true t410 t411)) else (pianolalaw03_PunchBest.j0 k t418 t420 t421 true t410 t411))) else (pianolalaw03_PunchBest.j0 k t418 t420 t421 true t410 t411)) else (pianolalaw03_PunchBest.j0 k t418 t420 t421 true t410 t411)) else (pianolalaw03_PunchBest.j0 k t418 t420 t421 true t410 t411))) = some r := H
 have A4 := zA A40
 clear A40
 replace H := Option.bind_eq_some_iff.mp H
 obtain ⟨⟨t422, t423⟩, A50, H⟩ := H
 replace H : (if t419 = 0 then (if t423 = 0 then (if (t415.length : Int) = (t411.length : Int) then ((pianolalaw03_good.f k t410 t411 t415).bind fun t424 => (if t424 = true then (if t422 = t418 then ((pianolalaw03_fewest.f k t410 t411 ([] : List Int) 0).bind fun t425 => (pianolalaw03_PunchBest.j0 k t418 t420 t421 (t418 != t425) t410 t411)) else (pianolalaw03_PunchBest.j0 k t418 t420 t421 true t410 t411)) else (pianolalaw03_PunchBest.j0 k t418 t420 t421 true t410 t411))) else (pianolalaw03_PunchBest.j0 k t418 t420 t421 true t410 t411)) else (pianolalaw03_PunchBest.j0 k t418 t420 t421 true t410 t411)) else (pianolalaw03_PunchBest.j0 k t418 t420 t421 true t410 t411)) = some r := H
 have A5 := zA A50
 clear A50
 have HC6 := zA H
 clear H
 go_enter Try.func8, Try.ntmps8
 go_upto_region 5 with (first | ((with_reducible refine gate_dst (N := 1) rfl ?_); (try (refine gate_guard (by rfl) ?_; dsimp only)); refine box_event ?hg (N := 1) ?hd (cs := #[.int .u8 a0_0, .slice A0_1 l0_1.length c0_1]) (t := 74) ?hr ?_; (case hd => rfl); (case hg => rfl); (case hr => first | (go_simp; done) | (go_simp; rfl)); intro gb409 hg w7 hbox hb; have n0_ := zA (below_step (zqA HB.out) hb); have n1_ := zA (hbox); have n2_ := zA ((by rw [hg]; exact (below_size (zqA HB.out)) : w.heap.size ≤ gb409)); have n3_ := zA ((by rw [hg]; exact (below_size (zqA HB.out)) : w.heap.size ≤ gb409)); clear HB; have HB := n0_; have BK409 := n1_; have GW409 := n2_; have GE409 := n3_; clear n0_ n1_ n2_ n3_; clear hb hbox hg; have hcz8_0 : w7.cell? ⟨gb409, 0, none⟩ = some (.int .u8 a0_0) := (blk_cell BK409.out 0).trans rfl; have hcz8_1 : w7.cell? ⟨gb409, 1, none⟩ = some (.slice A0_1 l0_1.length c0_1) := (blk_cell BK409.out 1).trans rfl; have hfz8_0 := blk_frozen BK409.out 0; have hfz8_1 := blk_frozen BK409.out 1) | ((with_reducible refine gate_callee (f := 38) rfl ?_); refine goesL_ (some 15) rfl rfl Try.func38 (by kernel_rfl) rfl #[.agg #[.int .u8 a0_0, .slice A0_1 l0_1.length c0_1]] rfl zqE ?_; (with_reducible refine (pianolalaw03_Lane_made.calls k a0_0 _ _ l0_1 t410 t411 _ ?side1 ?side2 A2.out).mono ?_); (case side1 => exact zqK (Kd.C_below HR0_1.out HB.out)); (case side2 => exact HC0_1.out); rintro e w9 ⟨v412, rfl, ho0, hb⟩; refine ⟨_, rfl, ?_⟩; have n0_ := zA (Kd.R_lower ho0 (below_size (zqG HB.out GE409.out))); have n1_ := zA (blk_below (g := gb409) (o := .cells #[.int .u8 a0_0, .slice A0_1 l0_1.length c0_1] 74 (0, 0)) (zqB BK409.out) hb); have n2_ := zA (below_step (zqG HB.out GE409.out) hb); clear BK409; clear HB; have HO413 := n0_; have BK409 := n1_; have HB := n2_; clear n0_ n1_ n2_; (try clear hb); (try clear hb2); (try clear hk); (try clear hi); (try clear ho0)) | ((with_reducible refine gate_dst (N := 3) rfl ?_); (try (refine gate_guard (by rfl) ?_; dsimp only)); refine box_event ?hg (N := 3) ?hd (cs := #[.int .i64 0, .slice none 0 0]) (t := 24) ?hr ?_; (case hd => rfl); (case hg => rfl); (case hr => first | (go_simp; done) | (go_simp; rfl)); intro gb414 hg w10 hbox hb; have n0_ := zA (Kd.R_below (zqC HO413.out) hb); have n1_ := zA (blk_below (g := gb409) (o := .cells #[.int .u8 a0_0, .slice A0_1 l0_1.length c0_1] 74 (0, 0)) (zqB BK409.out) hb); have n2_ := zA (below_step (zqG HB.out GE409.out) hb); have n3_ := zA (hbox); have n4_ := zA ((by rw [hg]; exact (below_size (zqG HB.out GE409.out)) : w.heap.size ≤ gb414)); have n5_ := zA ((by rw [hg]; exact (below_size (zqG HB.out GE409.out)) : w.heap.size ≤ gb414)); have n6_ := zA ((by rw [hg]; exact Nat.ne_of_lt (blk_lt (g := gb409) (o := .cells #[.int .u8 a0_0, .slice A0_1 l0_1.length c0_1] 74 (0, 0)) (zqB BK409.out)) : gb409 ≠ gb414)); have n7_ := zA ((by rw [hg]; exact Nat.ne_of_gt (blk_lt (g := gb409) (o := .cells #[.int .u8 a0_0, .slice A0_1 l0_1.length c0_1] 74 (0, 0)) (zqB BK409.out)) : gb414 ≠ gb409)); clear HO413; clear BK409; clear HB; have HO413 := n0_; have BK409 := n1_; have HB := n2_; have BK414 := n3_; have GW414 := n4_; have GE414 := n5_; have NB409_414 := n6_; have NB414_409 := n7_; clear n0_ n1_ n2_ n3_ n4_ n5_ n6_ n7_; clear hb hbox hg; have hnb11 := NB414_409.out; have hnc11 := NB409_414.out; have hcz12_0 : w10.cell? ⟨gb414, 0, none⟩ = some (.int .i64 0) := (blk_cell BK414.out 0).trans rfl; have hcz12_1 : w10.cell? ⟨gb414, 1, none⟩ = some (.slice none 0 0) := (blk_cell BK414.out 1).trans rfl; have hfz12_0 := blk_frozen BK414.out 0; have hfz12_1 := blk_frozen BK414.out 1; obtain ⟨Ao13, co13, eo13⟩ := Kd.R_slice HO413.out; subst eo13) | ((with_reducible refine gate_callee (f := 22) rfl ?_); refine goesL_ (some 18) rfl rfl Try.func22 (by kernel_rfl) rfl #[.agg #[.int .i64 t410, .slice Ao13 t411.length co13]] rfl zqE ?_; (with_reducible refine (punch_Passes.calls t410 _ _ t411 t415 t418 t419 _ ?side1 ?side2 A3.out).mono ?_); (case side1 => refine (Kd.R_reads' (e := 47) (base := w.heap.size) (ok := fun k_ => True) (n := t411.length) (c := co13) ?_).2.2; exact (by (with_reducible repeat (first | apply Kd.R_alloc | apply Kd.R_drewN | apply Kd.R_drew)); exact (Kd.R_mono (Kd.R_far (p := ⟨gb414, 1, none⟩) (Kd.R_far (p := ⟨gb414, 0, none⟩) (Kd.R_types HO413.out BK414.out (by decide)) (fun _ hk => hk.2) (.int .i64 t410)) (fun _ hk => hk.2) (.slice Ao13 t411.length co13)) (fun _ h_ => h_.1)))); (case side2 => exact (Kd.R_reads' HO413.out).2.1); rintro e w14 ⟨v416, rfl, ho0, hb⟩; refine ⟨_, rfl, ?_⟩; have n0_ := zA (Kd.R_below (by (with_reducible repeat (first | apply Kd.R_alloc | apply Kd.R_drewN | apply Kd.R_drew)); exact (Kd.R_mono (Kd.R_far (p := ⟨gb414, 1, none⟩) (Kd.R_far (p := ⟨gb414, 0, none⟩) (Kd.R_types HO413.out BK414.out (by decide)) (fun _ hk => hk.2) (.int .i64 t410)) (fun _ hk => hk.2) (.slice Ao13 t411.length co13)) (fun _ h_ => h_.1))) hb); have n1_ := zA (Kd.R_lower ho0 (below_size (zqH HB.out GE409.out GE414.out))); have n2_ := zA (blk_below (g := gb409) (o := .cells #[.int .u8 a0_0, .slice A0_1 l0_1.length c0_1] 74 (0, 0)) (by (with_reducible repeat (first | refine blk_drewN ?_ _ | refine blk_drew ?_ | refine blk_alloc ?_ _)); refine blk_far ?_ NB409_414.out _; (with_reducible repeat (first | refine blk_drewN ?_ _ | refine blk_drew ?_ | refine blk_alloc ?_ _)); refine blk_far ?_ NB409_414.out _; (with_reducible repeat (first | refine blk_drewN ?_ _ | refine blk_drew ?_ | refine blk_alloc ?_ _)); exact BK409.out) hb); have n3_ := zA (blk_below (g := gb414) (o := .cells #[.int .i64 t410, .slice Ao13 t411.length co13] 24 (0, 0)) (by (with_reducible repeat (first | refine blk_drewN ?_ _ | refine blk_drew ?_ | refine blk_alloc ?_ _)); refine blk_put (cs := #[.int .i64 t410, .slice none 0 0]) ?_ 1 _ rfl; (with_reducible repeat (first | refine blk_drewN ?_ _ | refine blk_drew ?_ | refine blk_alloc ?_ _)); refine blk_put (cs := #[.int .i64 0, .slice none 0 0]) ?_ 0 _ rfl; (with_reducible repeat (first | refine blk_drewN ?_ _ | refine blk_drew ?_ | refine blk_alloc ?_ _)); exact BK414.out) hb); have n4_ := zA (below_step (zqH HB.out GE409.out GE414.out) hb); clear HO413; clear BK409; clear BK414; clear HB; have HO413 := n0_; have HO417 := n1_; have BK409 := n2_; have BK414 := n3_; have HB := n4_; clear n0_ n1_ n2_ n3_ n4_; (try clear hb); (try clear hb2); (try clear hk); (try clear hi); (try clear ho0); have hcz15_0 : w14.cell? ⟨gb414, 0, none⟩ = some (.int .i64 t410) := (blk_cell BK414.out 0).trans rfl; have hcz15_1 : w14.cell? ⟨gb414, 1, none⟩ = some (.slice Ao13 t411.length co13) := (blk_cell BK414.out 1).trans rfl; have hfz15_0 := blk_frozen BK414.out 0; have hfz15_1 := blk_frozen BK414.out 1) | ((with_reducible refine gate_callee (f := 24) rfl ?_); refine goesL_ (some 24) rfl rfl Try.func24 (by kernel_rfl) rfl #[.agg #[.int .i64 t410, .slice Ao13 t411.length co13]] rfl zqE ?_; (with_reducible refine (punch_Prove.calls t410 _ _ t411 t420 t421 _ ?side1 ?side2 A4.out).mono ?_); (case side1 => exact zqK (Kd.R_reads' HO413.out).2.2); (case side2 => exact (Kd.R_reads' HO413.out).2.1); rintro e w16 ⟨rfl, hb⟩; refine ⟨_, rfl, ?_⟩; have n0_ := zA (Kd.R_below (zqC HO413.out) hb); have n1_ := zA (Kd.R_below (zqC HO417.out) hb); have n2_ := zA (blk_below (g := gb409) (o := .cells #[.int .u8 a0_0, .slice A0_1 l0_1.length c0_1] 74 (0, 0)) (zqB BK409.out) hb); have n3_ := zA (blk_below (g := gb414) (o := .cells #[.int .i64 t410, .slice Ao13 t411.length co13] 24 (0, 0)) (zqB BK414.out) hb); have n4_ := zA (below_step (zqH HB.out GE409.out GE414.out) hb); clear HO413; clear HO417; clear BK409; clear BK414; clear HB; have HO413 := n0_; have HO417 := n1_; have BK409 := n2_; have BK414 := n3_; have HB := n4_; clear n0_ n1_ n2_ n3_ n4_; (try clear hb); (try clear hb2); (try clear hk); (try clear hi); have hcz17_0 : w16.cell? ⟨gb414, 0, none⟩ = some (.int .i64 t410) := (blk_cell BK414.out 0).trans rfl; have hcz17_1 : w16.cell? ⟨gb414, 1, none⟩ = some (.slice Ao13 t411.length co13) := (blk_cell BK414.out 1).trans rfl; have hfz17_0 := blk_frozen BK414.out 0; have hfz17_1 := blk_frozen BK414.out 1; obtain ⟨Ao18, co18, eo18⟩ := Kd.R_slice HO417.out; subst eo18) | ((with_reducible refine gate_callee (f := 26) rfl ?_); refine goesL_ (some 30) rfl rfl Try.func26 (by kernel_rfl) rfl #[.agg #[.int .i64 t410, .slice Ao13 t411.length co13], .slice Ao18 t415.length co18] rfl zqE ?_; (with_reducible refine (punch_Verify.calls t410 _ _ t411 _ _ t415 t422 t423 _ ?side1 ?side2 ?side3 ?side4 A5.out).mono ?_); (case side1 => exact zqK (Kd.R_reads' HO413.out).2.2); (case side2 => exact (Kd.R_reads' HO413.out).2.1); (case side3 => exact zqK (Kd.R_reads' HO417.out).2.2); (case side4 => exact (Kd.R_reads' HO417.out).2.1); rintro e w19 ⟨rfl, hb⟩; refine ⟨_, rfl, ?_⟩; have n0_ := zA (Kd.R_below (zqC HO413.out) hb); have n1_ := zA (Kd.R_below (zqC HO417.out) hb); have n2_ := zA (blk_below (g := gb409) (o := .cells #[.int .u8 a0_0, .slice A0_1 l0_1.length c0_1] 74 (0, 0)) (zqB BK409.out) hb); have n3_ := zA (blk_below (g := gb414) (o := .cells #[.int .i64 t410, .slice Ao13 t411.length co13] 24 (0, 0)) (zqB BK414.out) hb); have n4_ := zA (below_step (zqH HB.out GE409.out GE414.out) hb); clear HO413; clear HO417; clear BK409; clear BK414; clear HB; have HO413 := n0_; have HO417 := n1_; have BK409 := n2_; have BK414 := n3_; have HB := n4_; clear n0_ n1_ n2_ n3_ n4_; (try clear hb); (try clear hb2); (try clear hk); (try clear hi)))
 (try simp only [Act.put, List.setIfInBounds_toArray, List.set_cons_zero, List.set_cons_succ])
 go_cut [63] (fun v63 wc => ∃ (kq : Nat) (x63_5 : Bool), v63 = .bool x63_5 ∧ Aside0 (pianolalaw03_PunchBest.j0 kq t418 t420 t421 x63_5 t410 t411 = some r) ∧ Aside0 (kq ≤ k) ∧ Aside0 (Kd.R k47 47 wc w.heap.size (fun _ => True) (.slice Ao13 t411.length co13) t411) ∧ Aside0 (wc.heap[gb409]? = some (.cells #[.int .u8 a0_0, (.slice A0_1 l0_1.length c0_1)] 74 (0, 0))) ∧ Aside0 (wc.heap[gb414]? = some (.cells #[.int .i64 t410, (.slice Ao13 t411.length co13)] 24 (0, 0))) ∧ Aside0 (Below w.heap.size w wc))
 case first =>
  have H := HC6.out
  clear HC6
  by_cases c20 : t419 = 0
  ·
   rw [if_pos c20] at H
   have c20b0 : (t419 == 0) = true := beq_iff_eq.mpr c20
   have c20b1 : (t419 != 0) = false := bne_eq_false_iff_eq.mpr c20
   clear c20
   (first | rw [c20b0] | (simp only [i64_w, i32_w]; rw [c20b0]) | skip)
   by_cases c21 : t423 = 0
   ·
    rw [if_pos c21] at H
    have c21b0 : (t423 == 0) = true := beq_iff_eq.mpr c21
    have c21b1 : (t423 != 0) = false := bne_eq_false_iff_eq.mpr c21
    clear c21
    by_cases c22 : (t415.length : Int) = (t411.length : Int)
    ·
     rw [if_pos c22] at H
     have c22b0 : ((t415.length : Int) == (t411.length : Int)) = true := beq_iff_eq.mpr c22
     have c22b1 : ((t415.length : Int) != (t411.length : Int)) = false := bne_eq_false_iff_eq.mpr c22
     have c22b2 : (t415.length == t411.length) = true := by first | simpa using c22 | (simp at c22 ⊢; omega)
     clear c22
     replace H := Option.bind_eq_some_iff.mp H
     obtain ⟨t424, A230, H⟩ := H
     replace H : (if t424 = true then (if t422 = t418 then ((pianolalaw03_fewest.f k t410 t411 ([] : List Int) 0).bind fun t425 => (pianolalaw03_PunchBest.j0 k t418 t420 t421 (t418 != t425) t410 t411)) else (pianolalaw03_PunchBest.j0 k t418 t420 t421 true t410 t411)) else (pianolalaw03_PunchBest.j0 k t418 t420 t421 true t410 t411)) = some r := H
     have A23 := zA A230
     clear A230
     by_cases c24 : t424 = true
     ·
      subst c24
      have H1 : (if t422 = t418 then ((pianolalaw03_fewest.f k t410 t411 ([] : List Int) 0).bind fun t425 => (pianolalaw03_PunchBest.j0 k t418 t420 t421 (t418 != t425) t410 t411)) else (pianolalaw03_PunchBest.j0 k t418 t420 t421 true t410 t411)) = some r := by rw [if_pos rfl] at H; exact H
      clear H; have H := H1; clear H1
      by_cases c25 : t422 = t418
      ·
       rw [if_pos c25] at H
       have c25b0 : (t422 == t418) = true := beq_iff_eq.mpr c25
       have c25b1 : (t422 != t418) = false := bne_eq_false_iff_eq.mpr c25
       clear c25
       replace H := Option.bind_eq_some_iff.mp H
       obtain ⟨t425, A260, H⟩ := H
       replace H : (pianolalaw03_PunchBest.j0 k t418 t420 t421 (t418 != t425) t410 t411) = some r := H
       have A26 := zA A260
       clear A260
       have H' := zA H
       clear H
       have hnb27 := NB414_409.out
       have hnc27 := NB409_414.out
       have hcz28_0 : w19.cell? ⟨gb414, 0, none⟩ = some (.int .i64 t410) := (blk_cell BK414.out 0).trans rfl
       have hcz28_1 : w19.cell? ⟨gb414, 1, none⟩ = some (.slice Ao13 t411.length co13) := (blk_cell BK414.out 1).trans rfl
       have hfz28_0 := blk_frozen BK414.out 0
       have hfz28_1 := blk_frozen BK414.out 1
       go_wp2_with (first | (go_at_call 39; (with_reducible refine (pianolalaw03_good.calls k t410 _ _ t411 _ _ t415 true _ ?side1 ?side2 ?side3 ?side4 A23.out).mono ?_); (case side1 => exact zqK (Kd.R_reads' HO413.out).2.2); (case side2 => exact (Kd.R_reads' HO413.out).2.1); (case side3 => exact zqK (Kd.R_reads' HO417.out).2.2); (case side4 => exact (Kd.R_reads' HO417.out).2.1); rintro e w29 ⟨rfl, hb⟩; have n0_ := zA (Kd.R_below (zqC HO413.out) hb); have n1_ := zA (Kd.R_below (zqC HO417.out) hb); have n2_ := zA (blk_below (g := gb409) (o := .cells #[.int .u8 a0_0, .slice A0_1 l0_1.length c0_1] 74 (0, 0)) (zqB BK409.out) hb); have n3_ := zA (blk_below (g := gb414) (o := .cells #[.int .i64 t410, .slice Ao13 t411.length co13] 24 (0, 0)) (zqB BK414.out) hb); have n4_ := zA (below_step (zqH HB.out GE409.out GE414.out) hb); clear HO413; clear HO417; clear BK409; clear BK414; clear HB; have HO413 := n0_; have HO417 := n1_; have BK409 := n2_; have BK414 := n3_; have HB := n4_; clear n0_ n1_ n2_ n3_ n4_; (try clear hb); (try clear hb2); (try clear hk); (try clear hi); have hcz30_0 : w29.cell? ⟨gb414, 0, none⟩ = some (.int .i64 t410) := (blk_cell BK414.out 0).trans rfl; have hcz30_1 : w29.cell? ⟨gb414, 1, none⟩ = some (.slice Ao13 t411.length co13) := (blk_cell BK414.out 1).trans rfl; have hfz30_0 := blk_frozen BK414.out 0; have hfz30_1 := blk_frozen BK414.out 1) | (go_at_call 40; (refine (pianolalaw03_fewest.calls k t410 _ _ t411 _ _ ([] : List Int) 0 t425 _ ?side1 ?side2 ?side3 ?side4 A26.out).mono ?_); (case side1 => exact zqK (Kd.R_reads' HO413.out).2.2); (case side2 => exact (Kd.R_reads' HO413.out).2.1); (case side3 => exact Kd.C_nil _ _); (case side4 => exact Nat.le_refl _); rintro e w31 ⟨rfl, hb⟩; have n0_ := zA (Kd.R_below (zqC HO413.out) hb); have n1_ := zA (Kd.R_below (zqC HO417.out) hb); have n2_ := zA (blk_below (g := gb409) (o := .cells #[.int .u8 a0_0, .slice A0_1 l0_1.length c0_1] 74 (0, 0)) (zqB BK409.out) hb); have n3_ := zA (blk_below (g := gb414) (o := .cells #[.int .i64 t410, .slice Ao13 t411.length co13] 24 (0, 0)) (zqB BK414.out) hb); have n4_ := zA (below_step (zqH HB.out GE409.out GE414.out) hb); clear HO413; clear HO417; clear BK409; clear BK414; clear HB; have HO413 := n0_; have HO417 := n1_; have BK409 := n2_; have BK414 := n3_; have HB := n4_; clear n0_ n1_ n2_ n3_ n4_; (try clear hb); (try clear hb2); (try clear hk); (try clear hi)))
       go_meet
       case rel => exact ⟨_, ((t418 != t425)), zqQ, H', ⟨by first | omega | exact Nat.le_refl _⟩, ⟨zqC HO413.out⟩, ⟨zqB BK409.out⟩, ⟨zqB BK414.out⟩, ⟨zqH HB.out GE409.out GE414.out⟩⟩
      ·
       rw [if_neg c25] at H
       exact (pianolalaw03_PunchBest.j0_no H HRT.out).elim
     ·
      replace c24 := Bool.eq_false_iff.mpr c24
      subst c24
      have H1 : (pianolalaw03_PunchBest.j0 k t418 t420 t421 true t410 t411) = some r := by rw [if_neg (show ¬ (false = true) by decide)] at H; exact H
      clear H; have H := H1; clear H1
      exact (pianolalaw03_PunchBest.j0_no H HRT.out).elim
    ·
     rw [if_neg c22] at H
     exact (pianolalaw03_PunchBest.j0_no H HRT.out).elim
   ·
    rw [if_neg c21] at H
    exact (pianolalaw03_PunchBest.j0_no H HRT.out).elim
  ·
   rw [if_neg c20] at H
   exact (pianolalaw03_PunchBest.j0_no H HRT.out).elim
 case rest =>
  clear HC6
  try clear c1
  try clear c2
  try clear p2
  try clear c3
  try clear c8
  try clear c11
  try clear c20
  try clear c20b0
  try clear c20b1
  try clear c21
  try clear c21b0
  try clear c21b1
  try clear c22
  try clear c22b0
  try clear c22b1
  try clear c22b2
  try clear c24
  try clear c25
  try clear c25b0
  try clear c25b1
  try clear c26
  try clear c27
  try clear c32
  try clear c35
  try clear c38
  try clear hcz12_0
  try clear hcz12_1
  try clear hcz15_0
  try clear hcz15_1
  try clear hcz17_0
  try clear hcz17_1
  try clear hcz28_0
  try clear hcz28_1
  try clear hcz30_0
  try clear hcz30_1
  try clear hcz33_0
  try clear hcz33_1
  try clear hcz36_0
  try clear hcz36_1
  try clear hcz39_0
  try clear hcz39_1
  try clear hcz8_0
  try clear hcz8_1
  try clear hfz12_0
  try clear hfz12_1
  try clear hfz15_0
  try clear hfz15_1
  try clear hfz17_0
  try clear hfz17_1
  try clear hfz28_0
  try clear hfz28_1
  try clear hfz30_0
  try clear hfz30_1
  try clear hfz33_0
  try clear hfz33_1
  try clear hfz36_0
  try clear hfz36_1
  try clear hfz39_0
  try clear hfz39_1
  try clear hfz8_0
  try clear hfz8_1
  obtain ⟨kq, x63_5, rfl, HA, HJ5, HO_415001, BK409, BK414, HB⟩ := hcut
  cases kq with
  | zero => exact absurd HA.out (by simp [pianolalaw03_PunchBest.j0])
  | succ kj5 =>
   have H := HA.out
   clear HA
   simp only [pianolalaw03_PunchBest.j0] at H
   by_cases c40 : x63_5 = true
   ·
    subst c40
    have H1 : (some false) = some r := by rw [if_pos rfl] at H; exact H
    clear H; have H := H1; clear H1
    exact absurd ((Option.some.inj H).trans HRT.out) (by decide)
   ·
    replace c40 := Bool.eq_false_iff.mpr c40
    subst c40
    have H1 : (if t418 = 0 then (if t421 = 8 then (if (t411.length : Int) = 0 then ((pianolalaw03_works.f).bind fun t426 => (some t426)) else (some false)) else (some false)) else (if t421 = 0 then (pianolalaw03_PunchBest.l0 kj5 t418 t420 0 t410 t411) else (some false))) = some r := by rw [if_neg (show ¬ (false = true) by decide)] at H; exact H
    clear H; have H := H1; clear H1
    by_cases c41 : t418 = 0
    ·
     rw [if_pos c41] at H
     have c41b0 : (t418 == 0) = true := beq_iff_eq.mpr c41
     have c41b1 : (t418 != 0) = false := bne_eq_false_iff_eq.mpr c41
     clear c41
     by_cases c42 : t421 = 8
     ·
      rw [if_pos c42] at H
      have c42b0 : (t421 == 8) = true := beq_iff_eq.mpr c42
      have c42b1 : (t421 != 8) = false := bne_eq_false_iff_eq.mpr c42
      clear c42
      by_cases c43 : (t411.length : Int) = 0
      ·
       rw [if_pos c43] at H
       have c43b0 : ((t411.length : Int) == 0) = true := beq_iff_eq.mpr c43
       have c43b1 : ((t411.length : Int) != 0) = false := bne_eq_false_iff_eq.mpr c43
       clear c43
       replace H := Option.bind_eq_some_iff.mp H
       obtain ⟨t426, A440, H⟩ := H
       replace H : (some t426) = some r := H
       have A44 := zA A440
       clear A440
       obtain rfl := Option.some.inj H
       have hnb45 := NB414_409.out
       have hnc45 := NB409_414.out
       have hcz46_0 : wc.cell? ⟨gb414, 0, none⟩ = some (.int .i64 t410) := (blk_cell BK414.out 0).trans rfl
       have hcz46_1 : wc.cell? ⟨gb414, 1, none⟩ = some (.slice Ao13 t411.length co13) := (blk_cell BK414.out 1).trans rfl
       have hfz46_0 := blk_frozen BK414.out 0
       have hfz46_1 := blk_frozen BK414.out 1
       go_wp2_with (first | (go_at_call 15; (with_reducible refine (pianolalaw03_works.calls  t426 _ A44.out).mono ?_); rintro e w47 ⟨rfl, hb⟩; have n0_ := zA (Kd.R_below (zqC HO_415001.out) hb); have n1_ := zA (blk_below (g := gb409) (o := .cells #[.int .u8 a0_0, .slice A0_1 l0_1.length c0_1] 74 (0, 0)) (zqB BK409.out) hb); have n2_ := zA (blk_below (g := gb414) (o := .cells #[.int .i64 t410, .slice Ao13 t411.length co13] 24 (0, 0)) (zqB BK414.out) hb); have n3_ := zA (below_step (zqH HB.out GE409.out GE414.out) hb); clear HO_415001; clear BK409; clear BK414; clear HB; have HO_415001 := n0_; have BK409 := n1_; have BK414 := n2_; have HB := n3_; clear n0_ n1_ n2_ n3_; (try clear hb); (try clear hb2); (try clear hk); (try clear hi)))
       go_ret
       exact ⟨zqR, zqH HB.out GE409.out GE414.out⟩
      ·
       rw [if_neg c43] at H
       exact absurd ((Option.some.inj H).trans HRT.out) (by decide)
     ·
      rw [if_neg c42] at H
      exact absurd ((Option.some.inj H).trans HRT.out) (by decide)
    ·
     rw [if_neg c41] at H
     have c41b0 : (t418 == 0) = false := beq_eq_false_iff_ne.mpr c41
     have c41b1 : (t418 != 0) = true := bne_iff_ne.mpr c41
     by_cases c50 : t421 = 0
     ·
      rw [if_pos c50] at H
      have c50b0 : (t421 == 0) = true := beq_iff_eq.mpr c50
      have c50b1 : (t421 != 0) = false := bne_eq_false_iff_eq.mpr c50
      clear c50
      have H' := zA H
      clear H
      go_wp2
      go_loopg [11] kj5 (fun kq v11 w' => ∃ (x11_2 : Int), v11 = .int .i64 x11_2 ∧ Aside0 (pianolalaw03_PunchBest.l0 kq t418 t420 x11_2 t410 t411 = some r) ∧ Aside0 (kq ≤ kj5) ∧ Aside0 (Kd.R k47 47 w' w.heap.size (fun _ => True) (.slice Ao13 t411.length co13) t411) ∧ Aside0 (w'.heap[gb409]? = some (.cells #[.int .u8 a0_0, (.slice A0_1 l0_1.length c0_1)] 74 (0, 0))) ∧ Aside0 (w'.heap[gb414]? = some (.cells #[.int .i64 t410, (.slice Ao13 t411.length co13)] 24 (0, 0))) ∧ Aside0 (Below w.heap.size w w'))
      case atStart => exact ⟨(0), zqQ, H', ⟨Nat.le_refl _⟩, ⟨zqC HO_415001.out⟩, ⟨zqB BK409.out⟩, ⟨zqB BK414.out⟩, ⟨zqH HB.out GE409.out GE414.out⟩⟩
      case round =>
       clear H'
       try clear c1
       try clear c2
       try clear p2
       try clear c3
       try clear c4
       try clear c5
       try clear c8
       try clear c11
       try clear c20
       try clear c20b0
       try clear c20b1
       try clear c21
       try clear c21b0
       try clear c21b1
       try clear c22
       try clear c22b0
       try clear c22b1
       try clear c22b2
       try clear c24
       try clear c25
       try clear c25b0
       try clear c25b1
       try clear c26
       try clear c27
       try clear c32
       try clear c35
       try clear c38
       try clear c40
       try clear c41
       try clear c41b0
       try clear c41b1
       try clear c42
       try clear c42b0
       try clear c42b1
       try clear c43
       try clear c43b0
       try clear c43b1
       try clear c43b2
       try clear c45
       try clear c48
       try clear c50
       try clear c50b0
       try clear c50b1
       try clear hcz12_0
       try clear hcz12_1
       try clear hcz15_0
       try clear hcz15_1
       try clear hcz17_0
       try clear hcz17_1
       try clear hcz28_0
       try clear hcz28_1
       try clear hcz30_0
       try clear hcz30_1
       try clear hcz33_0
       try clear hcz33_1
       try clear hcz36_0
       try clear hcz36_1
       try clear hcz39_0
       try clear hcz39_1
       try clear hcz46_0
       try clear hcz46_1
       try clear hcz49_0
       try clear hcz49_1
       try clear hcz8_0
       try clear hcz8_1
       try clear hfz12_0
       try clear hfz12_1
       try clear hfz15_0
       try clear hfz15_1
       try clear hfz17_0
       try clear hfz17_1
       try clear hfz28_0
       try clear hfz28_1
       try clear hfz30_0
       try clear hfz30_1
       try clear hfz33_0
       try clear hfz33_1
       try clear hfz36_0
       try clear hfz36_1
       try clear hfz39_0
       try clear hfz39_1
       try clear hfz46_0
       try clear hfz46_1
       try clear hfz49_0
       try clear hfz49_1
       try clear hfz8_0
       try clear hfz8_1
       try clear p2
       obtain ⟨x11_2, rfl, HA, HK2, HO_415001, BK409, BK414, HB⟩ := hrel
       cases gk with
       | zero => exact absurd HA.out (by simp [pianolalaw03_PunchBest.l0])
       | succ k2 =>
        have H := HA.out
        clear HA
        simp only [pianolalaw03_PunchBest.l0] at H
        by_cases c51 : x11_2 < 70
        ·
         rw [if_pos c51] at H
         have c51b0 : decide (x11_2 < 70) = true := decide_eq_true c51
         clear c51
         replace H := Option.bind_eq_some_iff.mp H
         obtain ⟨⟨t427, t430⟩, A520, H⟩ := H
         replace H : (if t430 = 0 then (if (t427.length : Int) > t418 then (some false) else (if (t427.length : Int) = t418 then (if x11_2 < t420 then (some false) else (if x11_2 = t420 then (pianolalaw03_PunchBest.l0 k2 t418 t420 (wrap64 (x11_2 + 1)) t410 t411) else (pianolalaw03_PunchBest.l0 k2 t418 t420 (wrap64 (x11_2 + 1)) t410 t411))) else (if x11_2 = t420 then (some false) else (pianolalaw03_PunchBest.l0 k2 t418 t420 (wrap64 (x11_2 + 1)) t410 t411)))) else (some false)) = some r := H
         have A52 := zA A520
         clear A520
         by_cases c53 : t430 = 0
         ·
          rw [if_pos c53] at H
          have c53b0 : (t430 == 0) = true := beq_iff_eq.mpr c53
          have c53b1 : (t430 != 0) = false := bne_eq_false_iff_eq.mpr c53
          clear c53
          by_cases c54 : (t427.length : Int) > t418
          ·
           rw [if_pos c54] at H
           exact absurd ((Option.some.inj H).trans HRT.out) (by decide)
          ·
           rw [if_neg c54] at H
           have c54b0 : decide (t418 < (t427.length : Int)) = false := decide_eq_false c54
           clear c54
           by_cases c59 : (t427.length : Int) = t418
           ·
            rw [if_pos c59] at H
            have c59b0 : ((t427.length : Int) == t418) = true := beq_iff_eq.mpr c59
            have c59b1 : ((t427.length : Int) != t418) = false := bne_eq_false_iff_eq.mpr c59
            clear c59
            by_cases c60 : x11_2 < t420
            ·
             rw [if_pos c60] at H
             exact absurd ((Option.some.inj H).trans HRT.out) (by decide)
            ·
             rw [if_neg c60] at H
             have c60b0 : decide (x11_2 < t420) = false := decide_eq_false c60
             clear c60
             by_cases c65 : x11_2 = t420
             ·
              rw [if_pos c65] at H
              have c65b0 : (x11_2 == t420) = true := beq_iff_eq.mpr c65
              have c65b1 : (x11_2 != t420) = false := bne_eq_false_iff_eq.mpr c65
              clear c65
              have H' := zA H
              clear H
              have hnb66 := NB414_409.out
              have hnc66 := NB409_414.out
              have hcz67_0 : wr.cell? ⟨gb414, 0, none⟩ = some (.int .i64 t410) := (blk_cell BK414.out 0).trans rfl
              have hcz67_1 : wr.cell? ⟨gb414, 1, none⟩ = some (.slice Ao13 t411.length co13) := (blk_cell BK414.out 1).trans rfl
              have hfz67_0 := blk_frozen BK414.out 0
              have hfz67_1 := blk_frozen BK414.out 1
              go_wp2_with (first | ((with_reducible refine gate_callee (f := 16) rfl ?_); refine goesL_ (some 86) rfl rfl Try.func16 (by kernel_rfl) rfl #[.agg #[.int .i64 t410, .slice Ao13 t411.length co13], .int .i64 x11_2] rfl zqE ?_; (with_reducible refine (punch_Crowd.calls t410 _ _ t411 x11_2 t427 t430 _ ?side1 ?side2 A52.out).mono ?_); (case side1 => exact zqK (Kd.R_reads' HO_415001.out).2.2); (case side2 => exact (Kd.R_reads' HO_415001.out).2.1); rintro e w68 ⟨v428, rfl, ho0, hb⟩; refine ⟨_, rfl, ?_⟩; have n0_ := zA (Kd.R_below (zqC HO_415001.out) hb); have n1_ := zA (Kd.R_lower ho0 (below_size (zqH HB.out GE409.out GE414.out))); have n2_ := zA (blk_below (g := gb409) (o := .cells #[.int .u8 a0_0, .slice A0_1 l0_1.length c0_1] 74 (0, 0)) (zqB BK409.out) hb); have n3_ := zA (blk_below (g := gb414) (o := .cells #[.int .i64 t410, .slice Ao13 t411.length co13] 24 (0, 0)) (zqB BK414.out) hb); have n4_ := zA (below_step (zqH HB.out GE409.out GE414.out) hb); clear HO_415001; clear BK409; clear BK414; clear HB; have HO_415001 := n0_; have HO429 := n1_; have BK409 := n2_; have BK414 := n3_; have HB := n4_; clear n0_ n1_ n2_ n3_ n4_; (try clear hb); (try clear hb2); (try clear hk); (try clear hi); (try clear ho0); obtain ⟨Ao69, co69, eo69⟩ := Kd.R_slice HO429.out; subst eo69))
              go_roundg k2
              case measure => have := HJ5.out; have := HK2.out; omega
              case rel => exact ⟨(wrap64 (x11_2 + 1)), zqQ, H', ⟨by have := HJ5.out; have := HK2.out; omega⟩, ⟨zqC HO_415001.out⟩, ⟨zqB BK409.out⟩, ⟨zqB BK414.out⟩, ⟨zqH HB.out GE409.out GE414.out⟩⟩
             ·
              rw [if_neg c65] at H
              have c65b0 : (x11_2 == t420) = false := beq_eq_false_iff_ne.mpr c65
              have c65b1 : (x11_2 != t420) = true := bne_iff_ne.mpr c65
              have H' := zA H
              clear H
              have hnb70 := NB414_409.out
              have hnc70 := NB409_414.out
              have hcz71_0 : wr.cell? ⟨gb414, 0, none⟩ = some (.int .i64 t410) := (blk_cell BK414.out 0).trans rfl
              have hcz71_1 : wr.cell? ⟨gb414, 1, none⟩ = some (.slice Ao13 t411.length co13) := (blk_cell BK414.out 1).trans rfl
              have hfz71_0 := blk_frozen BK414.out 0
              have hfz71_1 := blk_frozen BK414.out 1
              go_wp2_with (first | ((with_reducible refine gate_callee (f := 16) rfl ?_); refine goesL_ (some 86) rfl rfl Try.func16 (by kernel_rfl) rfl #[.agg #[.int .i64 t410, .slice Ao13 t411.length co13], .int .i64 x11_2] rfl zqE ?_; (with_reducible refine (punch_Crowd.calls t410 _ _ t411 x11_2 t427 t430 _ ?side1 ?side2 A52.out).mono ?_); (case side1 => exact zqK (Kd.R_reads' HO_415001.out).2.2); (case side2 => exact (Kd.R_reads' HO_415001.out).2.1); rintro e w72 ⟨v428, rfl, ho0, hb⟩; refine ⟨_, rfl, ?_⟩; have n0_ := zA (Kd.R_below (zqC HO_415001.out) hb); have n1_ := zA (Kd.R_lower ho0 (below_size (zqH HB.out GE409.out GE414.out))); have n2_ := zA (blk_below (g := gb409) (o := .cells #[.int .u8 a0_0, .slice A0_1 l0_1.length c0_1] 74 (0, 0)) (zqB BK409.out) hb); have n3_ := zA (blk_below (g := gb414) (o := .cells #[.int .i64 t410, .slice Ao13 t411.length co13] 24 (0, 0)) (zqB BK414.out) hb); have n4_ := zA (below_step (zqH HB.out GE409.out GE414.out) hb); clear HO_415001; clear BK409; clear BK414; clear HB; have HO_415001 := n0_; have HO429 := n1_; have BK409 := n2_; have BK414 := n3_; have HB := n4_; clear n0_ n1_ n2_ n3_ n4_; (try clear hb); (try clear hb2); (try clear hk); (try clear hi); (try clear ho0); obtain ⟨Ao73, co73, eo73⟩ := Kd.R_slice HO429.out; subst eo73))
              go_roundg k2
              case measure => have := HJ5.out; have := HK2.out; omega
              case rel => exact ⟨(wrap64 (x11_2 + 1)), zqQ, H', ⟨by have := HJ5.out; have := HK2.out; omega⟩, ⟨zqC HO_415001.out⟩, ⟨zqB BK409.out⟩, ⟨zqB BK414.out⟩, ⟨zqH HB.out GE409.out GE414.out⟩⟩
           ·
            rw [if_neg c59] at H
            have c59b0 : ((t427.length : Int) == t418) = false := beq_eq_false_iff_ne.mpr c59
            have c59b1 : ((t427.length : Int) != t418) = true := bne_iff_ne.mpr c59
            by_cases c74 : x11_2 = t420
            ·
             rw [if_pos c74] at H
             exact absurd ((Option.some.inj H).trans HRT.out) (by decide)
            ·
             rw [if_neg c74] at H
             have c74b0 : (x11_2 == t420) = false := beq_eq_false_iff_ne.mpr c74
             have c74b1 : (x11_2 != t420) = true := bne_iff_ne.mpr c74
             have H' := zA H
             clear H
             have hnb79 := NB414_409.out
             have hnc79 := NB409_414.out
             have hcz80_0 : wr.cell? ⟨gb414, 0, none⟩ = some (.int .i64 t410) := (blk_cell BK414.out 0).trans rfl
             have hcz80_1 : wr.cell? ⟨gb414, 1, none⟩ = some (.slice Ao13 t411.length co13) := (blk_cell BK414.out 1).trans rfl
             have hfz80_0 := blk_frozen BK414.out 0
             have hfz80_1 := blk_frozen BK414.out 1
             go_wp2_with (first | ((with_reducible refine gate_callee (f := 16) rfl ?_); refine goesL_ (some 86) rfl rfl Try.func16 (by kernel_rfl) rfl #[.agg #[.int .i64 t410, .slice Ao13 t411.length co13], .int .i64 x11_2] rfl zqE ?_; (with_reducible refine (punch_Crowd.calls t410 _ _ t411 x11_2 t427 t430 _ ?side1 ?side2 A52.out).mono ?_); (case side1 => exact zqK (Kd.R_reads' HO_415001.out).2.2); (case side2 => exact (Kd.R_reads' HO_415001.out).2.1); rintro e w81 ⟨v428, rfl, ho0, hb⟩; refine ⟨_, rfl, ?_⟩; have n0_ := zA (Kd.R_below (zqC HO_415001.out) hb); have n1_ := zA (Kd.R_lower ho0 (below_size (zqH HB.out GE409.out GE414.out))); have n2_ := zA (blk_below (g := gb409) (o := .cells #[.int .u8 a0_0, .slice A0_1 l0_1.length c0_1] 74 (0, 0)) (zqB BK409.out) hb); have n3_ := zA (blk_below (g := gb414) (o := .cells #[.int .i64 t410, .slice Ao13 t411.length co13] 24 (0, 0)) (zqB BK414.out) hb); have n4_ := zA (below_step (zqH HB.out GE409.out GE414.out) hb); clear HO_415001; clear BK409; clear BK414; clear HB; have HO_415001 := n0_; have HO429 := n1_; have BK409 := n2_; have BK414 := n3_; have HB := n4_; clear n0_ n1_ n2_ n3_ n4_; (try clear hb); (try clear hb2); (try clear hk); (try clear hi); (try clear ho0); obtain ⟨Ao82, co82, eo82⟩ := Kd.R_slice HO429.out; subst eo82))
             go_roundg k2
             case measure => have := HJ5.out; have := HK2.out; omega
             case rel => exact ⟨(wrap64 (x11_2 + 1)), zqQ, H', ⟨by have := HJ5.out; have := HK2.out; omega⟩, ⟨zqC HO_415001.out⟩, ⟨zqB BK409.out⟩, ⟨zqB BK414.out⟩, ⟨zqH HB.out GE409.out GE414.out⟩⟩
         ·
          rw [if_neg c53] at H
          exact absurd ((Option.some.inj H).trans HRT.out) (by decide)
        ·
         rw [if_neg c51] at H
         have c51b0 : decide (x11_2 < 70) = false := decide_eq_false c51
         clear c51
         by_cases c86 : t420 ≥ 0
         ·
          rw [if_pos c86] at H
          have c86b0 : decide (0 ≤ t420) = true := decide_eq_true c86
          clear c86
          by_cases c87 : t420 < 70
          ·
           rw [if_pos c87] at H
           have c87b0 : decide (t420 < 70) = true := decide_eq_true c87
           clear c87
           replace H := Option.bind_eq_some_iff.mp H
           obtain ⟨t431, A880, H⟩ := H
           replace H : (some t431) = some r := H
           have A88 := zA A880
           clear A880
           obtain rfl := Option.some.inj H
           go_wp2_with (first | (go_at_call 15; (with_reducible refine (pianolalaw03_works.calls  t431 _ A88.out).mono ?_); rintro e w89 ⟨rfl, hb⟩; have n0_ := zA (Kd.R_below (zqC HO_415001.out) hb); have n1_ := zA (blk_below (g := gb409) (o := .cells #[.int .u8 a0_0, .slice A0_1 l0_1.length c0_1] 74 (0, 0)) (zqB BK409.out) hb); have n2_ := zA (blk_below (g := gb414) (o := .cells #[.int .i64 t410, .slice Ao13 t411.length co13] 24 (0, 0)) (zqB BK414.out) hb); have n3_ := zA (below_step (zqH HB.out GE409.out GE414.out) hb); clear HO_415001; clear BK409; clear BK414; clear HB; have HO_415001 := n0_; have BK409 := n1_; have BK414 := n2_; have HB := n3_; clear n0_ n1_ n2_ n3_; (try clear hb); (try clear hb2); (try clear hk); (try clear hi)))
           go_ret
           exact ⟨zqR, zqH HB.out GE409.out GE414.out⟩
          ·
           rw [if_neg c87] at H
           exact absurd ((Option.some.inj H).trans HRT.out) (by decide)
         ·
          rw [if_neg c86] at H
          exact absurd ((Option.some.inj H).trans HRT.out) (by decide)
     ·
      rw [if_neg c50] at H
      exact absurd ((Option.some.inj H).trans HRT.out) (by decide)end Go.Proofs.Ytegffliopblajaa.P
end
section
namespace Go.Proofs.Ytegffliopblajaa.P
open Go.RowKit Go.Proofs.YtegffliopblajaaW.PrintWords Go.Proofs.YtegffliopblajaaW.PrintLast Go.Proofs.YtegffliopblajaaW.PrintMore
set_option linter.unusedVariables false
set_option linter.unusedSimpArgs false
def c52 (x : S47) : S52 := ⟨x.f0, x.f1⟩
theorem rd47_at {l : List S47} {i : Nat} (h : i < l.length) : rd_T47 l (i : Int) = l[i] := by
  unfold rd_T47
  rw [List.getD_eq_getElem?_getD, Int.toNat_natCast, List.getElem?_eq_getElem h]; rfl
theorem rdI_at {l : List Int} {i : Nat} (h : i < l.length) : rd l (i : Int) = l[i] := by
  unfold rd
  rw [List.getD_eq_getElem?_getD, Int.toNat_natCast, List.getElem?_eq_getElem h]; rfl
theorem w_succ (i : Nat) (h : i ≤ 1000000000) : wrap64 ((i : Int) + 1) = ((i + 1 : Nat) : Int) := by unfold wrap64; omega
def chk (rest : Int) (l : List S47) : Int := if btw 0 rest 1000 = true then (if l.length > 40 then 5 else if (l.any fun x => !good x) = true then 3 else 0) else 3
theorem check_f (rest : Int) (l : List S47) : punch_Check.f rest l = some (chk rest l) := by
  unfold punch_Check.f chk
  rw [btw_f]
  show (if btw 0 rest 1000 = true then _ else _) = _
  by_cases c : btw 0 rest 1000 = true
  · rw [if_pos c, if_pos c]
    by_cases c2 : l.length > 40
    · rw [if_pos (by omega), if_pos c2]
    · rw [if_neg (by omega), if_neg c2]
      unfold any_bad.f
      rw [if_pos (by omega)]
      show (if (l.any fun x => !good x) = true then _ else _) = _
      split <;> rfl
  · rw [if_neg c, if_neg c]
theorem chk_len {rest : Int} {l : List S47} (h : chk rest l = 0) : l.length ≤ 40 := by
  unfold chk at h
  split at h
  · split at h
    · cases h
    · omega
  · cases h
def crowdR (rest : Int) (l : List S47) (m : Int) : List Int × Int := if chk rest l = 0 then (crowdL rest m l, 0) else ([], chk rest l)
theorem Crowd_f (rest : Int) (l : List S47) (m : Int) : punch_Crowd.f rest l m = some (crowdR rest l m) := by
  unfold punch_Crowd.f crowdR
  rw [check_f]
  show (if chk rest l = 0 then _ else _) = _
  by_cases c : chk rest l = 0
  · rw [if_pos c, if_pos c, if_pos (chk_len c)]
  · rw [if_neg c, if_neg c]
end Go.Proofs.Ytegffliopblajaa.P
end
section
namespace Go.Proofs.Ytegffliopblajaa.P
open Go.RowKit Go.Proofs.YtegffliopblajaaW.PrintWords Go.Proofs.YtegffliopblajaaW.PrintLast Go.Proofs.YtegffliopblajaaW.PrintMore
set_option linter.unusedVariables false
set_option linter.unusedSimpArgs false
def Cl (rest : Int) (x y : S47) : Bool := decide (x.f0 < wrap64 (y.f1 + rest)) && decide (y.f0 < wrap64 (x.f1 + rest))
theorem Cl_comm (rest : Int) (x y : S47) : Cl rest x y = Cl rest y x := by unfold Cl; rw [Bool.and_comm]
theorem clB_eq (x : S47) (p rest a b : Int) : clB x p rest a b = (Cl rest x ⟨a, b⟩ && decide (0 ≤ p)) := rfl
theorem mem_clashL (l : List S47) (ps : List Int) (rest a b p : Int) : ∀ (r f : Nat), p ∈ clashL l ps rest a b r f ↔ ∃ i, f ≤ i ∧ i < f + r ∧ ps.getD i 0 = p ∧ clB (rd_T47 l (i : Int)) (ps.getD i 0) rest a b = true
  | 0, f => by
    constructor
    · intro h; cases h
    · rintro ⟨i, h1, h2, _⟩; omega
  | r + 1, f => by
    rw [clashL]
    have ih := mem_clashL l ps rest a b p r (f + 1)
    constructor
    · intro h
      split at h
      · rename_i hc
        rcases List.mem_cons.1 h with h | h
        · exact ⟨f, Nat.le_refl _, by omega, h.symm, hc⟩
        · obtain ⟨i, h1, h2, h3⟩ := ih.1 h
          exact ⟨i, by omega, by omega, h3⟩
      · obtain ⟨i, h1, h2, h3⟩ := ih.1 h
        exact ⟨i, by omega, by omega, h3⟩
    · rintro ⟨i, h1, h2, h3, h4⟩
      by_cases e : i = f
      · subst e
        rw [if_pos h4, h3]
        exact List.mem_cons_self
      · have := ih.2 ⟨i, by omega, by omega, h3, h4⟩
        split
        · exact List.mem_cons_of_mem _ this
        · exact this
theorem least_of {P : Nat → Prop} (h : ∃ m, P m) : ∃ m, P m ∧ ∀ j, j < m → ¬ P j := by
  obtain ⟨m, hm⟩ := h
  induction m using Nat.strongRecOn with
  | ind m ih =>
    by_cases c : ∃ j, j < m ∧ P j
    · obtain ⟨j, hj, hp⟩ := c
      exact ih j hj hp
    · exact ⟨m, hm, fun j hj hp => c ⟨j, hj, hp⟩⟩
theorem mex_exists (cs : List Int) : ∃ m, IsMex cs m := by
  have ex : ∃ m : Nat, (m : Int) ∉ cs := Classical.byContradiction fun h => by
    have := cover_len (n := cs.length + 1) (cs := cs) (fun j _ => Classical.byContradiction fun hj => h ⟨j, hj⟩)
    omega
  obtain ⟨m, hm, hl⟩ := least_of ex
  exact ⟨m, hm, fun j hj => Classical.byContradiction (hl j hj)⟩
theorem mexL_is (cs : List Int) : IsMex cs (mexL cs) := by
  obtain ⟨m, h⟩ := mex_exists cs
  rw [← mexL_eq h]
  exact h
def passN (p : List Int) : Int := p.foldl (fun n x => max n (x + 1)) 0
theorem mx_max (a b : Int) : mx a b = max a b := by unfold mx; omega
theorem passes_l0 (p : List Int) (hb : ∀ x ∈ p, -1 ≤ x ∧ x ≤ 1000) (hl : p.length ≤ 1000) : ∀ (m i k : Nat) (n : Int), i + m = p.length → m < k → punch_passes.l0 k n p p.length i = some ((p.drop i).foldl (fun n x => max n (x + 1)) n)
  | 0, i, 0, n, h, hk => by omega
  | m + 1, i, 0, n, h, hk => by omega
  | 0, i, k + 1, n, h, hk => by
    rw [punch_passes.l0, if_neg (by omega), List.drop_eq_nil_of_le (by omega)]
    rfl
  | m + 1, i, k + 1, n, h, hk => by
    have hi : i < p.length := by omega
    have hx := hb p[i] (List.getElem_mem hi)
    have e : p.drop i = p[i] :: p.drop (i + 1) := List.drop_eq_getElem_cons hi
    rw [e, List.foldl_cons, punch_passes.l0, if_pos (by omega), if_pos (by omega), if_pos (by omega), rdI_at hi, w_succ i (by omega), mx_max, show wrap64 (p[i] + 1) = p[i] + 1 by unfold wrap64; omega]
    exact passes_l0 p hb hl m (i + 1) k (max n (p[i] + 1)) (by omega) (by omega)
theorem passes_f (p : List Int) (hb : ∀ x ∈ p, -1 ≤ x ∧ x ≤ 1000) (hl : p.length ≤ 1000) : punch_passes.f (p.length + 1) p = some (passN p) := by
  have := passes_l0 p hb hl p.length 0 (p.length + 1) 0 (by omega) (by omega)
  simpa [punch_passes.f, passN] using this
end Go.Proofs.Ytegffliopblajaa.P
end
section
namespace Go.Proofs.Ytegffliopblajaa.P
open Go.RowKit Go.Proofs.YtegffliopblajaaW.PrintWords Go.Proofs.YtegffliopblajaaW.PrintLast Go.Proofs.YtegffliopblajaaW.PrintMore
set_option linter.unusedVariables false
set_option linter.unusedSimpArgs false
theorem noPass_iff {p : Int} : noPass p = false ↔ 0 ≤ p ∧ p ≤ 39 := by
  unfold noPass
  rw [Bool.not_eq_false', btw_iff]
def apartB (rest : Int) (l : List S47) (pl : List Int) (i : Nat) : Bool := (List.range i).all fun k => !(decide (rd pl (i : Int) = rd pl (k : Int)) && Cl rest (rd_T47 l (i : Int)) (rd_T47 l (k : Int)))
def planB (rest : Int) (l : List S47) (pl : List Int) : Bool := (List.range l.length).all (apartB rest l pl)
theorem apartB_iff {rest : Int} {l : List S47} {pl : List Int} {i : Nat} : apartB rest l pl i = true ↔ ∀ k, k < i → rd pl (i : Int) = rd pl (k : Int) → Cl rest (rd_T47 l (i : Int)) (rd_T47 l (k : Int)) = false := by
  unfold apartB
  rw [List.all_eq_true]
  constructor
  · intro h k hk e
    have := h k (List.mem_range.2 hk)
    rw [e] at this
    simpa using this
  · intro h k hk
    rw [Bool.not_eq_true', Bool.and_eq_false_iff]
    by_cases c : rd pl (i : Int) = rd pl (k : Int)
    · exact .inr (h k (List.mem_range.1 hk) c)
    · exact .inl (decide_eq_false c)
theorem psT_lt {pl : List Int} {i j : Nat} (h : j < i) (hi : i ≤ pl.length) : (psT pl i).getD j 0 = rd pl (j : Int) := by
  unfold psT
  rw [List.getD_eq_getElem?_getD, List.getElem?_append_left (by rw [List.length_take]; omega), List.getElem?_take_of_lt h, rdI_at (by omega), List.getElem?_eq_getElem (by omega)]
  rfl
theorem psT_ge {pl : List Int} {i j : Nat} (h : i ≤ j) (hi : i ≤ pl.length) (hj : j < 40) : (psT pl i).getD j 0 = -1 := by
  unfold psT
  rw [List.getD_eq_getElem?_getD, List.getElem?_append_right (by rw [List.length_take]; omega), List.length_take, List.getElem?_replicate, if_pos (by omega)]
  rfl
theorem mem_clashT {rest : Int} {l : List S47} {pl : List Int} {i : Nat} {p a b : Int} (hp : 0 ≤ p) (hi : i ≤ pl.length) (hl : i ≤ l.length) (h40 : l.length ≤ 40) :
    p ∈ clashL l (psT pl i) rest a b l.length 0 ↔ ∃ j, j < i ∧ rd pl (j : Int) = p ∧ Cl rest (rd_T47 l (j : Int)) ⟨a, b⟩ = true := by
  rw [mem_clashL]
  constructor
  · rintro ⟨j, _, h2, h3, h4⟩
    by_cases c : j < i
    · rw [psT_lt c hi] at h3 h4
      rw [clB_eq, Bool.and_eq_true] at h4
      exact ⟨j, c, h3, h4.1⟩
    · rw [psT_ge (by omega) hi (by omega)] at h3
      omega
  · rintro ⟨j, h1, h2, h3⟩
    refine ⟨j, Nat.zero_le _, by omega, by rw [psT_lt h1 hi]; exact h2, ?_⟩
    rw [psT_lt h1 hi, clB_eq, h3, h2, decide_eq_true hp]
    rfl
theorem okAt_eq {rest : Int} {l : List S47} {pl : List Int} {i : Nat} (hi : i < l.length) (hl : pl.length = l.length) (h40 : l.length ≤ 40) (hp : 0 ≤ rd pl (i : Int)) : okAt rest l pl i = apartB rest l pl i := by
  rw [Bool.eq_iff_iff, apartB_iff]
  unfold okAt clashAt
  rw [Bool.not_eq_true', ← Bool.not_eq_true, List.contains_iff_mem, mem_clashT hp (by omega) (by omega) h40]
  constructor
  · intro h k hk e
    rw [← Bool.not_eq_true]
    intro hc
    exact h ⟨k, hk, e.symm, by rw [Cl_comm]; exact hc⟩
  · rintro h ⟨k, hk, e, hc⟩
    have := h k hk e.symm
    rw [Cl_comm] at this
    have hc' : Cl rest (rd_T47 l (k : Int)) (rd_T47 l (i : Int)) = true := hc
    rw [this] at hc'
    cases hc'
theorem all_range_congr {f g : Nat → Bool} : ∀ {n : Nat}, (∀ i, i < n → f i = g i) → (List.range n).all f = (List.range n).all g := by
  intro n h
  rw [Bool.eq_iff_iff, List.all_eq_true, List.all_eq_true]
  exact ⟨fun a i hi => by rw [← h i (List.mem_range.1 hi)]; exact a i hi, fun a i hi => by rw [h i (List.mem_range.1 hi)]; exact a i hi⟩
theorem planOk_eq {rest : Int} {l : List S47} {pl : List Int} (hl : pl.length = l.length) (h40 : l.length ≤ 40) (hp : pl.any noPass = false) : planOk rest l pl = planB rest l pl := by
  unfold planOk planB
  refine all_range_congr fun i hi => okAt_eq hi hl h40 ?_
  rw [List.any_eq_false] at hp
  have := hp (rd pl (i : Int)) (by rw [rdI_at (show i < pl.length by omega)]; exact List.getElem_mem _)
  exact (noPass_iff.1 (by simpa using this)).1
def perr (rest : Int) (l : List S47) (pl : List Int) : Int := if chk rest l = 0 then (if pl.length = l.length then (if pl.any noPass = true then 3 else if planB rest l pl = true then 0 else 14) else 6) else chk rest l
theorem planErr_f (rest : Int) (l : List S47) (pl : List Int) : planErr rest l pl = some (perr rest l pl) := by
  unfold planErr perr
  rw [check_f]
  show (if chk rest l = 0 then _ else _) = _
  by_cases c : chk rest l = 0
  · have h40 := chk_len c
    rw [if_pos c, if_pos c, if_pos h40]
    by_cases c2 : pl.length = l.length
    · rw [if_pos c2, if_pos c2]
      by_cases c3 : pl.any noPass = true
      · rw [if_pos c3, if_pos c3]
      · rw [if_neg c3, if_neg c3, planOk_eq c2 h40 (by simpa using c3)]
        split <;> rfl
    · rw [if_neg c2, if_neg c2]
  · rw [if_neg c, if_neg c]
theorem perr_ok {rest : Int} {l : List S47} {pl : List Int} (h : perr rest l pl = 0) : chk rest l = 0 ∧ l.length ≤ 40 ∧ pl.length = l.length ∧ (∀ x ∈ pl, 0 ≤ x ∧ x ≤ 39) ∧ planB rest l pl = true := by
  unfold perr at h
  split at h
  · rename_i c
    split at h
    · rename_i c2
      split at h
      · cases h
      · rename_i c3
        split at h
        · rename_i c4
          have c3' : pl.any noPass = false := by simpa using c3
          rw [List.any_eq_false] at c3'
          exact ⟨c, chk_len c, c2, fun x hx => noPass_iff.1 (by simpa using c3' x hx), c4⟩
        · cases h
    · cases h
  · exact absurd h (by assumption)
def verR (rest : Int) (l : List S47) (pl : List Int) : Int × Int := if perr rest l pl = 0 then (passN pl, 0) else (0, perr rest l pl)
theorem Verify_f (rest : Int) (l : List S47) (pl : List Int) : punch_Verify.f rest l pl = some (verR rest l pl) := by
  unfold punch_Verify.f verR
  rw [planErr_f]
  show (if perr rest l pl = 0 then _ else _) = _
  by_cases c : perr rest l pl = 0
  · obtain ⟨_, h2, h3, h4, _⟩ := perr_ok c
    rw [if_pos c, if_pos c, passes_f pl (fun x hx => by have := h4 x hx; omega) (by omega)]
    rfl
  · rw [if_neg c, if_neg c]
end Go.Proofs.Ytegffliopblajaa.P
end
section
namespace Go.Proofs.Ytegffliopblajaa.P
open Go.RowKit Go.Proofs.YtegffliopblajaaW.PrintWords Go.Proofs.YtegffliopblajaaW.PrintLast Go.Proofs.YtegffliopblajaaW.PrintMore
set_option linter.unusedVariables false
set_option linter.unusedSimpArgs false
def oS (l : List S47) (r : Nat) : Nat := ((ordL l).getD r 0).toNat
theorem oS_lt {l : List S47} {r : Nat} (h : r < l.length) : oS l r < l.length := by
  have := ordL_mem h
  unfold oS
  omega
theorem ordF_perm (l : List S47) : (ordF l).Perm (List.finRange l.length) := List.mergeSort_perm _ _
theorem ordF_sorted (l : List S47) : (ordF l).Pairwise (fun x y => ltS l y x = false) := by
  have h1 : (ordF l).Pairwise (fun x y => (!ltS l y x) = true) := List.pairwise_mergeSort (fun a b c h1 h2 => by
    simp only [Bool.not_eq_true'] at *
    exact (ltS_swo l).ntrans c b a h2 h1) (fun a b => by
    cases h : ltS l b a
    · rfl
    · have : ltS l a b = false := by
        cases h2 : ltS l a b
        · rfl
        · have := (ltS_swo l).trans _ _ _ h h2
          rw [(ltS_swo l).irrefl] at this; cases this
      simp [this]) _
  exact h1.imp (fun h => by simpa using h)
theorem oS_at {l : List S47} {r : Nat} (h : r < l.length) : oS l r = ((ordF l)[r]'(by rw [ordF_len]; exact h)).1 := by
  unfold oS ordL
  rw [List.getD_eq_getElem?_getD, List.getElem?_map, List.getElem?_eq_getElem (by rw [ordF_len]; exact h)]
  simp
theorem oS_inj {l : List S47} {q r : Nat} (hq : q < l.length) (hr : r < l.length) (e : oS l q = oS l r) : q = r := by
  rw [oS_at hq, oS_at hr] at e
  have nd : (ordF l).Nodup := (ordF_perm l).nodup_iff.2 (List.nodup_finRange _)
  have np := List.pairwise_iff_getElem.1 nd
  rcases Nat.lt_trichotomy q r with h | h | h
  · exact absurd (Fin.ext e) (np q r (by rw [ordF_len]; omega) (by rw [ordF_len]; omega) h)
  · exact h
  · exact absurd (Fin.ext e.symm) (np r q (by rw [ordF_len]; omega) (by rw [ordF_len]; omega) h)
theorem oS_sur {l : List S47} {i : Nat} (h : i < l.length) : ∃ r, r < l.length ∧ oS l r = i := by
  have : (⟨i, h⟩ : Fin l.length) ∈ ordF l := (ordF_perm l).mem_iff.2 (List.mem_finRange _)
  obtain ⟨r, hr, e⟩ := List.mem_iff_getElem.1 this
  rw [ordF_len] at hr
  exact ⟨r, hr, by rw [oS_at hr, e]⟩
theorem oS_sorted {l : List S47} {q r : Nat} (h : q < r) (hr : r < l.length) : (rd_T47 l (oS l q : Nat)).f0 < (rd_T47 l (oS l r : Nat)).f0 ∨ (rd_T47 l (oS l q : Nat)).f0 = (rd_T47 l (oS l r : Nat)).f0 ∧ oS l q < oS l r := by
  have hs := List.pairwise_iff_getElem.1 (ordF_sorted l) q r (by rw [ordF_len]; omega) (by rw [ordF_len]; exact hr) h
  have hne : oS l q ≠ oS l r := fun e => by have := oS_inj (by omega) hr e; omega
  rw [oS_at (show q < l.length by omega), oS_at hr] at hne ⊢
  unfold ltS at hs
  have := of_decide_eq_false hs
  omega
def st (rest : Int) (l : List S47) (r : Nat) : List Int := fillL rest l ((ordL l).take r) (List.replicate 40 (-1))
def col (rest : Int) (l : List S47) (r : Nat) : Nat := mexL (clashL l (st rest l r) rest (rd_T47 l (oS l r : Nat)).f0 (rd_T47 l (oS l r : Nat)).f1 l.length 0)
theorem st_len (rest : Int) (l : List S47) (r : Nat) : (st rest l r).length = 40 := by unfold st; rw [fillL_len, List.length_replicate]
theorem st_succ (rest : Int) (l : List S47) {r : Nat} (h : r < l.length) : st rest l (r + 1) = (st rest l r).set (oS l r) (col rest l r) := by
  unfold st
  rw [fill_step rest l _ h]
  have := ordL_mem h
  unfold passOf col oS
  rw [show ((((ordL l).getD r 0).toNat : Nat) : Int) = (ordL l).getD r 0 by omega]
  rfl
theorem st_un (rest : Int) (l : List S47) (h40 : l.length ≤ 40) : ∀ (r : Nat), r ≤ l.length → ∀ j, j < l.length → (∀ q, q < r → oS l q ≠ j) → (st rest l r).getD j 0 = -1
  | 0, _, j, hj, _ => by
    unfold st
    rw [List.take_zero, fillL, List.getD_eq_getElem?_getD, List.getElem?_replicate, if_pos (by omega)]
    rfl
  | r + 1, hr, j, hj, hq => by
    rw [st_succ rest l (by omega), List.getD_eq_getElem?_getD, List.getElem?_set_ne (hq r (by omega)), ← List.getD_eq_getElem?_getD]
    exact st_un rest l h40 r (by omega) j hj (fun q h => hq q (by omega))
theorem st_at (rest : Int) (l : List S47) (h40 : l.length ≤ 40) : ∀ (r : Nat), r ≤ l.length → ∀ q, q < r → (st rest l r).getD (oS l q) 0 = col rest l q
  | 0, _, q, hq => by omega
  | r + 1, hr, q, hq => by
    rw [st_succ rest l (by omega), List.getD_eq_getElem?_getD]
    by_cases e : q = r
    · subst e
      rw [List.getElem?_set_self (by rw [st_len]; have := oS_lt (l := l) (r := q) (by omega); omega)]
      rfl
    · rw [List.getElem?_set_ne (fun h => e (oS_inj (by omega) (by omega) h.symm)), ← List.getD_eq_getElem?_getD]
      exact st_at rest l h40 r (by omega) q (by omega)
theorem st_cases (rest : Int) (l : List S47) (h40 : l.length ≤ 40) {r j : Nat} (hr : r ≤ l.length) (hj : j < l.length) : (∃ q, q < r ∧ oS l q = j ∧ (st rest l r).getD j 0 = col rest l q) ∨ ((∀ q, q < r → oS l q ≠ j) ∧ (st rest l r).getD j 0 = -1) := by
  by_cases c : ∃ q, q < r ∧ oS l q = j
  · obtain ⟨q, h1, h2⟩ := c
    exact .inl ⟨q, h1, h2, by rw [← h2]; exact st_at rest l h40 r hr q h1⟩
  · have : ∀ q, q < r → oS l q ≠ j := fun q h e => c ⟨q, h, e⟩
    exact .inr ⟨this, st_un rest l h40 r hr j hj this⟩
theorem mem_st (rest : Int) (l : List S47) (h40 : l.length ≤ 40) {r : Nat} (hr : r ≤ l.length) (s : S47) (p : Nat) :
    (p : Int) ∈ clashL l (st rest l r) rest s.f0 s.f1 l.length 0 ↔ ∃ q, q < r ∧ col rest l q = p ∧ Cl rest (rd_T47 l (oS l q : Nat)) s = true := by
  rw [mem_clashL]
  constructor
  · rintro ⟨j, _, h2, h3, h4⟩
    rcases st_cases rest l h40 hr (show j < l.length by omega) with ⟨q, h5, h6, h7⟩ | ⟨_, h7⟩
    · rw [clB_eq, Bool.and_eq_true] at h4
      exact ⟨q, h5, by omega, by rw [h6]; exact h4.1⟩
    · omega
  · rintro ⟨q, h1, h2, h3⟩
    have hlt := oS_lt (l := l) (r := q) (by omega)
    have := st_at rest l h40 r hr q h1
    refine ⟨oS l q, Nat.zero_le _, by omega, by rw [this, h2], ?_⟩
    rw [clB_eq, h3, this, decide_eq_true (by omega)]
    rfl
theorem col_mex (rest : Int) (l : List S47) (h40 : l.length ≤ 40) {r : Nat} (hr : r < l.length) :
    (∀ q, q < r → Cl rest (rd_T47 l (oS l q : Nat)) (rd_T47 l (oS l r : Nat)) = true → col rest l q ≠ col rest l r) ∧
    (∀ p, p < col rest l r → ∃ q, q < r ∧ col rest l q = p ∧ Cl rest (rd_T47 l (oS l q : Nat)) (rd_T47 l (oS l r : Nat)) = true) := by
  have h := mexL_is (clashL l (st rest l r) rest (rd_T47 l (oS l r : Nat)).f0 (rd_T47 l (oS l r : Nat)).f1 l.length 0)
  constructor
  · intro q hq hc e
    exact h.1 ((mem_st rest l h40 (by omega) _ _).2 ⟨q, hq, e, hc⟩)
  · intro p hp
    exact (mem_st rest l h40 (by omega) _ _).1 (h.2 p hp)
theorem col_le (rest : Int) (l : List S47) (h40 : l.length ≤ 40) {r : Nat} (hr : r < l.length) : col rest l r ≤ r := by
  have h := (col_mex rest l h40 hr).2
  have : ∀ j : Nat, j < col rest l r → (j : Int) ∈ (List.range r).map fun q => ((col rest l q : Nat) : Int) := fun j hj => by
    obtain ⟨q, h1, h2, _⟩ := h j hj
    exact List.mem_map.2 ⟨q, List.mem_range.2 h1, by rw [h2]⟩
  have := cover_len this
  simpa using this
theorem planL_len {rest : Int} {l : List S47} (h40 : l.length ≤ 40) : (planL rest l).length = l.length := by
  unfold planL
  rw [List.length_take, fillL_len, List.length_replicate]
  omega
theorem planL_eq (rest : Int) (l : List S47) : planL rest l = (st rest l l.length).take l.length := by
  unfold planL st
  rw [show (ordL l).take l.length = ordL l from List.take_of_length_le (by rw [ordL_len]; exact Nat.le_refl _)]
theorem take_getD {α : Type} {xs : List α} {n j : Nat} {d : α} (h : j < n) : (xs.take n).getD j d = xs.getD j d := by
  rw [List.getD_eq_getElem?_getD, List.getD_eq_getElem?_getD, List.getElem?_take_of_lt h]
theorem planL_at (rest : Int) (l : List S47) (h40 : l.length ≤ 40) {r : Nat} (hr : r < l.length) : rd (planL rest l) (oS l r : Nat) = col rest l r := by
  unfold rd
  rw [planL_eq, Int.toNat_natCast, take_getD (oS_lt hr)]
  exact st_at rest l h40 l.length (Nat.le_refl _) r hr
theorem planL_mem (rest : Int) (l : List S47) (h40 : l.length ≤ 40) {x : Int} (h : x ∈ planL rest l) : ∃ r, r < l.length ∧ x = col rest l r := by
  obtain ⟨i, hi, e⟩ := List.mem_iff_getElem.1 h
  rw [planL_len h40] at hi
  obtain ⟨r, hr, e2⟩ := oS_sur hi
  refine ⟨r, hr, ?_⟩
  rw [← planL_at rest l h40 hr, e2, rdI_at (by rw [planL_len h40]; exact hi)]
  exact e.symm
theorem planL_bd (rest : Int) (l : List S47) (h40 : l.length ≤ 40) {x : Int} (h : x ∈ planL rest l) : 0 ≤ x ∧ x ≤ 39 := by
  obtain ⟨r, hr, e⟩ := planL_mem rest l h40 h
  have := col_le rest l h40 hr
  omega
def passR (rest : Int) (l : List S47) : List Int × Int × Int := if chk rest l = 0 then (planL rest l, passN (planL rest l), 0) else ([], 0, chk rest l)
theorem Passes_f (rest : Int) (l : List S47) : punch_Passes.f rest l = some (passR rest l) := by
  unfold punch_Passes.f passR
  rw [check_f]
  show (if chk rest l = 0 then _ else _) = _
  by_cases c : chk rest l = 0
  · have h40 := chk_len c
    have := passes_f (planL rest l) (fun x hx => by have := planL_bd rest l h40 hx; omega) (by rw [planL_len h40]; omega)
    rw [planL_len h40] at this
    rw [if_pos c, if_pos c, if_pos h40, this]
    rfl
  · rw [if_neg c, if_neg c]
end Go.Proofs.Ytegffliopblajaa.P
end
section
namespace Go.Proofs.Ytegffliopblajaa.P
open Go.RowKit Go.Proofs.YtegffliopblajaaW.PrintWords Go.Proofs.YtegffliopblajaaW.PrintLast Go.Proofs.YtegffliopblajaaW.PrintMore
set_option linter.unusedVariables false
set_option linter.unusedSimpArgs false
theorem passN_spec (p : List Int) : ∀ (n : Int), n ≤ p.foldl (fun n x => max n (x + 1)) n ∧ (∀ x ∈ p, x + 1 ≤ p.foldl (fun n x => max n (x + 1)) n) ∧ (p.foldl (fun n x => max n (x + 1)) n = n ∨ ∃ x ∈ p, p.foldl (fun n x => max n (x + 1)) n = x + 1) := by
  induction p with
  | nil => intro n; exact ⟨Int.le_refl _, (fun x h => by cases h), .inl rfl⟩
  | cons a p ih =>
    intro n
    rw [List.foldl_cons]
    obtain ⟨h1, h2, h3⟩ := ih (max n (a + 1))
    refine ⟨by omega, fun x hx => ?_, ?_⟩
    · rcases List.mem_cons.1 hx with rfl | hx
      · omega
      · exact h2 x hx
    · rcases h3 with h3 | ⟨x, hx, h3⟩
      · by_cases c : n ≤ a + 1
        · exact .inr ⟨a, List.mem_cons_self, by omega⟩
        · exact .inl (by omega)
      · exact .inr ⟨x, List.mem_cons_of_mem _ hx, h3⟩
theorem passN_le {p : List Int} {x : Int} (h : x ∈ p) : x + 1 ≤ passN p := (passN_spec p 0).2.1 x h
theorem passN_nonneg (p : List Int) : 0 ≤ passN p := (passN_spec p 0).1
theorem passN_of (p : List Int) : passN p = 0 ∨ ∃ x ∈ p, passN p = x + 1 := (passN_spec p 0).2.2
theorem nodup_bound : ∀ (N : Nat) (xs : List Int), xs.Nodup → (∀ x ∈ xs, 0 ≤ x ∧ x < N) → xs.length ≤ N
  | 0, xs, _, h => by
    cases xs with
    | nil => exact Nat.le_refl _
    | cons a xs => have := h a List.mem_cons_self; omega
  | N + 1, xs, hn, h => by
    by_cases c : (N : Int) ∈ xs
    · have := nodup_bound N (xs.erase (N : Int)) (hn.erase _) (fun x hx => by
        have h1 := h x (List.mem_of_mem_erase hx)
        have h2 : x ≠ (N : Int) := fun e => by subst e; exact (hn.not_mem_erase) hx
        omega)
      rw [List.length_erase_of_mem c] at this
      omega
    · exact Nat.le_trans (nodup_bound N xs hn (fun x hx => by
        have h1 := h x hx
        have h2 : x ≠ (N : Int) := fun e => c (by rw [← e]; exact hx)
        omega)) (Nat.le_succ N)
theorem chk_good {rest : Int} {l : List S47} (h : chk rest l = 0) : 0 ≤ rest ∧ rest ≤ 1000 ∧ ∀ i, i < l.length → 0 ≤ (rd_T47 l (i : Nat)).f0 ∧ (rd_T47 l (i : Nat)).f0 < (rd_T47 l (i : Nat)).f1 ∧ (rd_T47 l (i : Nat)).f1 ≤ 1000000 := by
  unfold chk at h
  split at h
  · rename_i c
    split at h
    · cases h
    · split at h
      · cases h
      · rename_i c3
        have hb := btw_iff.1 c
        refine ⟨hb.1, hb.2, fun i hi => ?_⟩
        have c3' : (l.any fun x => !good x) = false := by simpa using c3
        rw [List.any_eq_false] at c3'
        have := c3' (rd_T47 l (i : Nat)) (by rw [rd47_at hi]; exact List.getElem_mem _)
        have hg : good (rd_T47 l (i : Nat)) = true := by simpa using this
        unfold good at hg
        simp only [Bool.and_eq_true, decide_eq_true_eq] at hg
        omega
  · cases h
theorem mem_crowd {rest m p : Int} {l : List S47} : p ∈ crowdL rest m l ↔ ∃ i : Nat, i < l.length ∧ p = i ∧ inB rest m (rd_T47 l (i : Int)) = true := by
  unfold crowdL crowdTo
  simp only [List.mem_map, List.mem_filter, List.mem_range]
  constructor
  · rintro ⟨i, ⟨h1, h2⟩, rfl⟩
    exact ⟨i, h1, rfl, h2⟩
  · rintro ⟨i, h1, rfl, h2⟩
    exact ⟨i, ⟨h1, h2⟩, rfl⟩
theorem inB_iff {rest m : Int} {x : S47} (h0 : 0 ≤ rest) (h1 : rest ≤ 1000) (h2 : 0 ≤ x.f1) (h3 : x.f1 ≤ 1000000) : inB rest m x = true ↔ x.f0 ≤ m ∧ m < x.f1 + rest := by
  unfold inB
  rw [show wrap64 (x.f1 + rest) = x.f1 + rest by unfold wrap64; omega, Bool.and_eq_true, decide_eq_true_eq, decide_eq_true_eq]
theorem Cl_iff {rest : Int} {x y : S47} (h0 : 0 ≤ rest) (h1 : rest ≤ 1000) (h2 : 0 ≤ x.f1) (h3 : x.f1 ≤ 1000000) (h4 : 0 ≤ y.f1) (h5 : y.f1 ≤ 1000000) : Cl rest x y = true ↔ x.f0 < y.f1 + rest ∧ y.f0 < x.f1 + rest := by
  unfold Cl
  rw [show wrap64 (x.f1 + rest) = x.f1 + rest by unfold wrap64; omega, show wrap64 (y.f1 + rest) = y.f1 + rest by unfold wrap64; omega, Bool.and_eq_true, decide_eq_true_eq, decide_eq_true_eq]
theorem plan_ok {rest : Int} {l : List S47} (h : chk rest l = 0) : perr rest l (planL rest l) = 0 := by
  have h40 := chk_len h
  have hb : planB rest l (planL rest l) = true := by
    unfold planB
    rw [List.all_eq_true]
    intro i hi
    rw [apartB_iff]
    intro k hk e
    have hi' := List.mem_range.1 hi
    obtain ⟨q, hq, eq⟩ := oS_sur hi'
    obtain ⟨q', hq', eq'⟩ := oS_sur (show k < l.length by omega)
    subst eq eq'
    rw [planL_at rest l h40 hq, planL_at rest l h40 hq'] at e
    rw [← Bool.not_eq_true]
    intro hc
    rcases Nat.lt_trichotomy q q' with h1 | h1 | h1
    · exact (col_mex rest l h40 hq').1 q h1 hc (by omega)
    · subst h1; omega
    · rw [Cl_comm] at hc
      exact (col_mex rest l h40 hq).1 q' h1 hc (by omega)
  have hn : (planL rest l).any noPass = false := by
    rw [List.any_eq_false]
    intro x hx
    rw [noPass_iff.2 (planL_bd rest l h40 hx)]
    decide
  unfold perr
  rw [if_pos h, if_pos (planL_len h40), if_neg (by rw [hn]; decide), if_pos hb]
theorem col_cnt {rest : Int} {l : List S47} (h : chk rest l = 0) {r : Nat} (hr : r < l.length) : ((col rest l r : Nat) : Int) + 1 ≤ cntAt rest l (rd_T47 l (oS l r : Nat)).f0 := by
  have h40 := chk_len h
  obtain ⟨g0, g1, g2⟩ := chk_good h
  have hor := g2 _ (oS_lt hr)
  have key : ∀ j : Nat, j < col rest l r + 1 → (j : Int) ∈ (crowdL rest (rd_T47 l (oS l r : Nat)).f0 l).map (rd (planL rest l)) := by
    intro j hj
    rw [List.mem_map]
    by_cases e : j = col rest l r
    · refine ⟨((oS l r : Nat) : Int), mem_crowd.2 ⟨oS l r, oS_lt hr, rfl, ?_⟩, by rw [planL_at rest l h40 hr, e]⟩
      rw [inB_iff g0 g1 (by omega) (by omega)]
      omega
    · obtain ⟨q, h1, h2, h3⟩ := (col_mex rest l h40 hr).2 j (by omega)
      have hoq := g2 _ (oS_lt (l := l) (r := q) (by omega))
      refine ⟨((oS l q : Nat) : Int), mem_crowd.2 ⟨oS l q, oS_lt (by omega), rfl, ?_⟩, by rw [planL_at rest l h40 (by omega), h2]⟩
      rw [inB_iff g0 g1 (by omega) (by omega)]
      rw [Cl_iff g0 g1 (by omega) (by omega) (by omega) (by omega)] at h3
      have := oS_sorted h1 hr
      omega
  have := cover_len key
  rw [List.length_map] at this
  unfold cntAt
  omega
theorem crowd_nodup (rest m : Int) (l : List S47) : (crowdL rest m l).Pairwise (· < ·) := by
  unfold crowdL crowdTo
  rw [List.pairwise_map]
  exact (List.pairwise_lt_range.filter _).imp (fun h => by omega)
theorem crowd_le {rest : Int} {l : List S47} {pl : List Int} (h : perr rest l pl = 0) (m : Int) : cntAt rest l m ≤ passN pl := by
  obtain ⟨hc, h40, hl, hb, hB⟩ := perr_ok h
  obtain ⟨g0, g1, g2⟩ := chk_good hc
  have hnd : ((crowdL rest m l).map (rd pl)).Nodup := by
    unfold List.Nodup
    rw [List.pairwise_map]
    refine (List.Pairwise.and_mem.1 (crowd_nodup rest m l)).imp ?_
    rintro a b ⟨ha, hb', hab⟩
    obtain ⟨i, hi, rfl, h1⟩ := mem_crowd.1 ha
    obtain ⟨k, hk, rfl, h2⟩ := mem_crowd.1 hb'
    intro e
    have hgi := g2 i hi
    have hgk := g2 k hk
    rw [inB_iff g0 g1 (by omega) (by omega)] at h1 h2
    have hk2 : apartB rest l pl k = true := by
      unfold planB at hB
      rw [List.all_eq_true] at hB
      exact hB k (List.mem_range.2 hk)
    have := apartB_iff.1 hk2 i (by omega) e.symm
    rw [← Bool.not_eq_true, Cl_iff g0 g1 (by omega) (by omega) (by omega) (by omega)] at this
    omega
  have hN := passN_nonneg pl
  have := nodup_bound (passN pl).toNat _ hnd (fun x hx => by
    obtain ⟨a, ha, rfl⟩ := List.mem_map.1 hx
    obtain ⟨i, hi, rfl, _⟩ := mem_crowd.1 ha
    have hm : rd pl (i : Int) ∈ pl := by rw [rdI_at (show i < pl.length by omega)]; exact List.getElem_mem _
    have h1 := hb _ hm
    have h2 := passN_le hm
    omega)
  rw [List.length_map] at this
  unfold cntAt
  omega
def MostSpec (rest : Int) (l : List S47) (fs : List Int) (s : Int × Int) : Prop := 0 ≤ s.2 ∧ (∀ f ∈ fs, cntAt rest l f ≤ s.2) ∧ (s.2 = 0 ∨ (s.1 ∈ fs ∧ cntAt rest l s.1 = s.2 ∧ ∀ f ∈ fs, f < s.1 → cntAt rest l f < s.2))
theorem most_spec (rest : Int) (l : List S47) : ∀ (fs pre : List Int) (s : Int × Int), (pre ++ fs).Pairwise (· ≤ ·) → MostSpec rest l pre s → MostSpec rest l (pre ++ fs) (fs.foldl (mostStep rest l) s)
  | [], pre, s, _, h => by rw [List.append_nil]; exact h
  | f :: fs, pre, s, hs, h => by
    rw [List.foldl_cons, show pre ++ f :: fs = (pre ++ [f]) ++ fs by simp]
    rw [show pre ++ f :: fs = (pre ++ [f]) ++ fs by simp] at hs
    refine most_spec rest l fs (pre ++ [f]) _ hs ?_
    have hpf := (List.pairwise_append.1 hs).1
    have hle : ∀ g ∈ pre, g ≤ f := fun g hg => (List.pairwise_append.1 hpf).2.2 g hg f (List.mem_singleton.2 rfl)
    obtain ⟨h0, h1, h2⟩ := h
    have hc0 : 0 ≤ cntAt rest l f := by unfold cntAt; omega
    unfold mostStep
    split
    · rename_i c
      refine ⟨by dsimp only; omega, fun g hg => ?_, .inr ⟨by simp, rfl, fun g hg hlt => ?_⟩⟩
      · rcases List.mem_append.1 hg with hg | hg
        · have := h1 g hg; dsimp only; omega
        · rw [List.mem_singleton.1 hg]; exact Int.le_refl _
      · rcases List.mem_append.1 hg with hg | hg
        · have := h1 g hg; dsimp only; omega
        · rw [List.mem_singleton.1 hg] at hlt; dsimp only at hlt; omega
    · rename_i c
      refine ⟨h0, fun g hg => ?_, ?_⟩
      · rcases List.mem_append.1 hg with hg | hg
        · exact h1 g hg
        · rw [List.mem_singleton.1 hg]; omega
      · rcases h2 with h2 | ⟨h2, h3, h4⟩
        · exact .inl h2
        · refine .inr ⟨List.mem_append_left _ h2, h3, fun g hg hlt => ?_⟩
          rcases List.mem_append.1 hg with hg | hg
          · exact h4 g hg hlt
          · rw [List.mem_singleton.1 hg] at hlt
            have := hle _ h2
            omega
theorem mostL_spec (rest : Int) (l : List S47) : MostSpec rest l (l.map S47.f0) (mostL rest l) := by
  have hs : (sortI (l.map S47.f0)).Pairwise (· ≤ ·) := (List.pairwise_mergeSort (le := fun a b : Int => decide (a ≤ b)) (fun a b c h1 h2 => by simp at *; omega) (fun a b => by simp; omega) (l.map S47.f0)).imp (fun h => by simpa using h)
  have h := most_spec rest l (sortI (l.map S47.f0)) [] (0, 0) (by simpa using hs) ⟨Int.le_refl _, (fun f hf => by cases hf), .inl rfl⟩
  rw [List.nil_append] at h
  have hm : ∀ f, f ∈ sortI (l.map S47.f0) ↔ f ∈ l.map S47.f0 := fun f => (List.mergeSort_perm _ _).mem_iff
  obtain ⟨h0, h1, h2⟩ := h
  refine ⟨h0, fun f hf => h1 f ((hm f).2 hf), ?_⟩
  rcases h2 with h2 | ⟨h2, h3, h4⟩
  · exact .inl h2
  · exact .inr ⟨(hm _).1 h2, h3, fun f hf hlt => h4 f ((hm f).2 hf) hlt⟩
theorem mem_f0 {l : List S47} {i : Nat} (h : i < l.length) : (rd_T47 l (i : Int)).f0 ∈ l.map S47.f0 := by
  rw [rd47_at h]
  exact List.mem_map.2 ⟨_, List.getElem_mem _, rfl⟩
theorem f0_mem {l : List S47} {f : Int} (h : f ∈ l.map S47.f0) : ∃ i : Nat, i < l.length ∧ f = (rd_T47 l (i : Int)).f0 := by
  obtain ⟨x, hx, rfl⟩ := List.mem_map.1 h
  obtain ⟨i, hi, rfl⟩ := List.mem_iff_getElem.1 hx
  exact ⟨i, hi, by rw [rd47_at hi]⟩
theorem pass_most {rest : Int} {l : List S47} (h : chk rest l = 0) : passN (planL rest l) = (mostL rest l).2 := by
  obtain ⟨h0, h1, h2⟩ := mostL_spec rest l
  have a : (mostL rest l).2 ≤ passN (planL rest l) := by
    rcases h2 with h2 | ⟨_, h3, _⟩
    · have := passN_nonneg (planL rest l); omega
    · rw [← h3]; exact crowd_le (plan_ok h) _
  have b : passN (planL rest l) ≤ (mostL rest l).2 := by
    rcases passN_of (planL rest l) with h3 | ⟨x, hx, h3⟩
    · omega
    · obtain ⟨r, hr, rfl⟩ := planL_mem rest l (chk_len h) hx
      have h4 := col_cnt h hr
      have h5 := h1 _ (mem_f0 (oS_lt hr))
      omega
  omega
def proveR (rest : Int) (l : List S47) : Int × Int := if chk rest l = 0 then (if (mostL rest l).2 = 0 then (0, 8) else ((mostL rest l).1, 0)) else (0, chk rest l)
theorem Prove_f (rest : Int) (l : List S47) : punch_Prove.f rest l = some (proveR rest l) := by
  unfold punch_Prove.f proveR
  rw [check_f]
  show (if chk rest l = 0 then _ else _) = _
  by_cases c : chk rest l = 0
  · rw [if_pos c, if_pos c, if_pos (chk_len c)]
    split <;> rfl
  · rw [if_neg c, if_neg c]
end Go.Proofs.Ytegffliopblajaa.P
end
section
namespace Go.Proofs.Ytegffliopblajaa.P
open Go.RowKit Go.Proofs.YtegffliopblajaaW.PrintWords Go.Proofs.YtegffliopblajaaW.PrintLast Go.Proofs.YtegffliopblajaaW.PrintMore
set_option linter.unusedVariables false
set_option linter.unusedSimpArgs false
def U8l (l : List S82) : Prop := ∀ s ∈ l, (0 ≤ s.f0 ∧ s.f0 ≤ 255) ∧ (0 ≤ s.f1 ∧ s.f1 ≤ 255)
def mkS (x : S82) : S47 := ⟨x.f0 % 40, x.f0 % 40 + 1 + x.f1 % 12⟩
def laneS (l : List S82) : List S47 := (l.take 7).map mkS
theorem laneS_len (l : List S82) : (laneS l).length ≤ 7 := by unfold laneS; rw [List.length_map, List.length_take]; omega
theorem rd82_at {l : List S82} {i : Nat} (h : i < l.length) : rd_T82 l (i : Int) = l[i] := by
  unfold rd_T82
  rw [List.getD_eq_getElem?_getD, Int.toNat_natCast, List.getElem?_eq_getElem h]; rfl
theorem lane_l0 (a b : Int) (l : List S82) (hu : U8l l) : ∀ (m i : Nat), i + m = min l.length 7 → Ev (fun k => pianolalaw03_Lane_made.l0 k i a l b ((l.take i).map mkS)) (b, laneS l)
  | 0, i, h => by
    have e : (l.take i).map mkS = laneS l := by
      unfold laneS
      by_cases c : l.length ≤ 7
      · rw [List.take_of_length_le (by omega), List.take_of_length_le (by omega)]
      · rw [show i = 7 by omega]
    rw [e]
    refine Ev.step (f := fun _ => some (b, laneS l)) (fun k => ?_) (Ev.now _)
    rw [pianolalaw03_Lane_made.l0]
    by_cases c : i < l.length
    · rw [if_pos (by omega), if_neg (by omega)]
    · rw [if_neg (by omega)]
  | m + 1, i, h => by
    have hi : i < l.length := by omega
    have h1 := hu l[i] (List.getElem_mem hi)
    refine Ev.step (fun k => ?_) (lane_l0 a b l hu m (i + 1) (by omega))
    rw [pianolalaw03_Lane_made.l0, if_pos (by omega), if_pos (by omega), if_pos (by omega), if_pos (by rw [List.length_map, List.length_take]; omega), w_succ i (by omega), rd82_at hi]
    congr 1
    rw [List.take_succ_eq_append_getElem hi, List.map_append]
    congr 1
    show [_] = [mkS l[i]]
    unfold mkS
    have e1 : wrap64 l[i].f0 = l[i].f0 := by unfold wrap64; omega
    have e2 : wrap64 l[i].f1 = l[i].f1 := by unfold wrap64; omega
    rw [e1, e2, Int.tmod_eq_emod_of_nonneg h1.1.1, Int.tmod_eq_emod_of_nonneg h1.2.1, show wrap64 (wrap64 (l[i].f0 % 40 + 1) + l[i].f1 % 12) = l[i].f0 % 40 + 1 + l[i].f1 % 12 by unfold wrap64; omega]
theorem lane_f (a : Int) (l : List S82) (ha : 0 ≤ a ∧ a ≤ 255) (hu : U8l l) : Ev (fun k => pianolalaw03_Lane_made.f k a l) (a % 8, laneS l) := by
  have := lane_l0 a (a % 8) l hu (min l.length 7) 0 (by omega)
  unfold pianolalaw03_Lane_made.f
  rw [show wrap64 a = a by unfold wrap64; omega, Int.tmod_eq_emod_of_nonneg ha.1]
  simpa using this
def Small (rest : Int) (l : List S47) : Prop := 0 ≤ rest ∧ rest ≤ 20 ∧ l.length ≤ 40 ∧ ∀ i : Nat, i < l.length → 0 ≤ (rd_T47 l (i : Int)).f0 ∧ (rd_T47 l (i : Int)).f0 ≤ 39 ∧ (rd_T47 l (i : Int)).f0 < (rd_T47 l (i : Int)).f1 ∧ (rd_T47 l (i : Int)).f1 ≤ 51
theorem lane_small (a : Int) (l : List S82) (ha : 0 ≤ a ∧ a ≤ 255) (hu : U8l l) : Small (a % 8) (laneS l) := by
  refine ⟨by omega, by omega, by have := laneS_len l; omega, fun i hi => ?_⟩
  rw [rd47_at hi]
  have hi' : i < (l.take 7).length := by unfold laneS at hi; simpa using hi
  have e : (laneS l)[i] = mkS (l.take 7)[i] := List.getElem_map (f := mkS) (l := l.take 7) (h := hi)
  rw [e]
  have h1 := hu (l.take 7)[i] (List.mem_of_mem_take (List.getElem_mem hi'))
  unfold mkS
  dsimp only
  omega
theorem small_chk {rest : Int} {l : List S47} (h : Small rest l) : chk rest l = 0 := by
  obtain ⟨h0, h1, h2, h3⟩ := h
  unfold chk
  have hb : btw 0 rest 1000 = true := btw_iff.2 ⟨h0, by omega⟩
  rw [if_pos hb, if_neg (by omega), if_neg]
  rw [Bool.not_eq_true, List.any_eq_false]
  intro x hx
  obtain ⟨i, hi, rfl⟩ := List.mem_iff_getElem.1 hx
  have := h3 i hi
  rw [rd47_at hi] at this
  have hg : good l[i] = true := by
    unfold good
    simp only [Bool.and_eq_true, decide_eq_true_eq]
    omega
  rw [hg]; decide
theorem near_l0 (x y : S47) (rest : Int) (h0 : 0 ≤ rest) (h1 : rest ≤ 20) (hx : 0 ≤ x.f0 ∧ x.f0 ≤ 39 ∧ x.f0 < x.f1 ∧ x.f1 ≤ 51) (hy : 0 ≤ y.f0 ∧ y.f0 ≤ 39 ∧ y.f0 < y.f1 ∧ y.f1 ≤ 51) :
    ∀ (m i : Nat), i + m = 80 → (∀ j : Nat, j < i → ¬ (x.f0 ≤ (j : Int) ∧ (j : Int) < x.f1 + rest ∧ y.f0 ≤ (j : Int) ∧ (j : Int) < y.f1 + rest)) → Ev (fun k => pianolalaw03_near.l0 k rest i x.f0 x.f1 y.f0 y.f1) (Cl rest x y)
  | 0, i, h, hj => by
    have hc : Cl rest x y = false := by
      rw [← Bool.not_eq_true, Cl_iff h0 (by omega) (by omega) (by omega) (by omega) (by omega)]
      intro hc
      exact hj (max x.f0 y.f0).toNat (by omega) (by omega)
    rw [hc]
    refine Ev.step (f := fun _ => some false) (fun k => ?_) (Ev.now _)
    rw [pianolalaw03_near.l0, if_neg (by omega)]
  | m + 1, i, h, hj => by
    have e : ∀ k, pianolalaw03_near.l0 (k + 1) rest i x.f0 x.f1 y.f0 y.f1 = if (x.f0 ≤ (i : Int) ∧ (i : Int) < x.f1 + rest ∧ y.f0 ≤ (i : Int) ∧ (i : Int) < y.f1 + rest) then some true else pianolalaw03_near.l0 k rest ((i + 1 : Nat) : Int) x.f0 x.f1 y.f0 y.f1 := fun k => by
      rw [pianolalaw03_near.l0, if_pos (by omega), w_succ i (by omega), show wrap64 (x.f1 + rest) = x.f1 + rest by unfold wrap64; omega, show wrap64 (y.f1 + rest) = y.f1 + rest by unfold wrap64; omega]
      by_cases c1 : x.f0 ≤ (i : Int)
      · rw [if_pos c1]
        by_cases c2 : (i : Int) < x.f1 + rest
        · rw [if_pos c2]
          by_cases c3 : y.f0 ≤ (i : Int)
          · rw [if_pos c3]
            by_cases c4 : (i : Int) < y.f1 + rest
            · rw [if_pos c4, if_pos ⟨c1, c2, c3, c4⟩]
            · rw [if_neg c4, if_neg (fun h => c4 h.2.2.2)]
          · rw [if_neg c3, if_neg (fun h => c3 h.2.2.1)]
        · rw [if_neg c2, if_neg (fun h => c2 h.2.1)]
      · rw [if_neg c1, if_neg (fun h => c1 h.1)]
    by_cases c : (x.f0 ≤ (i : Int) ∧ (i : Int) < x.f1 + rest ∧ y.f0 ≤ (i : Int) ∧ (i : Int) < y.f1 + rest)
    · have hc : Cl rest x y = true := by
        rw [Cl_iff h0 (by omega) (by omega) (by omega) (by omega) (by omega)]
        omega
      rw [hc]
      exact Ev.step (f := fun _ => some true) (fun k => (e k).trans (by rw [if_pos c])) (Ev.now _)
    · refine Ev.step (fun k => (e k).trans (by rw [if_neg c])) (near_l0 x y rest h0 h1 hx hy m (i + 1) (by omega) (fun j hj' => ?_))
      rcases Nat.lt_or_ge j i with h2 | h2
      · exact hj j h2
      · obtain rfl : j = i := by omega
        exact c
theorem near_f {rest : Int} {l : List S47} (h : Small rest l) {i j : Nat} (hi : i < l.length) (hj : j < l.length) : Ev (fun k => pianolalaw03_near.f k (rd_T47 l (i : Int)).f0 (rd_T47 l (i : Int)).f1 (rd_T47 l (j : Int)).f0 (rd_T47 l (j : Int)).f1 rest) (Cl rest (rd_T47 l (i : Int)) (rd_T47 l (j : Int))) := by
  have := near_l0 (rd_T47 l (i : Int)) (rd_T47 l (j : Int)) rest h.1 h.2.1 (h.2.2.2 i hi) (h.2.2.2 j hj) 80 0 (by omega) (fun j hj => by omega)
  simpa [pianolalaw03_near.f] using this
def planN (rest : Int) (l : List S47) (pl : List Int) (n : Nat) : Bool := (List.range n).all (apartB rest l pl)
theorem good_l1 {rest : Int} {l : List S47} (h : Small rest l) (pl : List Int) (hl : pl.length ≤ l.length) {i : Nat} (hi : i < pl.length) {r : Bool}
    (hr : apartB rest l pl i = true → Ev (fun k => pianolalaw03_good.l0 k pl pl.length ((i + 1 : Nat) : Int) rest l) r) (hb : apartB rest l pl i = false → r = false) :
    ∀ (m j : Nat), j + m = i → (∀ k, k < j → rd pl (i : Int) = rd pl (k : Int) → Cl rest (rd_T47 l (i : Int)) (rd_T47 l (k : Int)) = false) → Ev (fun k => pianolalaw03_good.l1 k pl i j pl.length i rest l) r
  | 0, j, hj, hk => by
    obtain rfl : j = i := by omega
    have h40 := h.2.2.1
    refine Ev.step (fun k => ?_) (hr (apartB_iff.2 hk))
    rw [pianolalaw03_good.l1, if_neg (by omega), w_succ j (by omega)]
  | m + 1, j, hj, hk => by
    have h40 := h.2.2.1
    have e : ∀ k, pianolalaw03_good.l1 (k + 1) pl i j pl.length i rest l = if rd pl (i : Int) = rd pl (j : Int) then ((pianolalaw03_near.f k (rd_T47 l (i : Int)).f0 (rd_T47 l (i : Int)).f1 (rd_T47 l (j : Int)).f0 (rd_T47 l (j : Int)).f1 rest).bind fun t => if t = true then some false else pianolalaw03_good.l1 k pl i ((j + 1 : Nat) : Int) pl.length i rest l) else pianolalaw03_good.l1 k pl i ((j + 1 : Nat) : Int) pl.length i rest l := fun k => by
      rw [pianolalaw03_good.l1, if_pos (by omega), if_pos (by omega), if_pos (by omega), if_pos (by omega), if_pos (by omega), w_succ j (by omega)]
      by_cases c : rd pl (i : Int) = rd pl (j : Int)
      · rw [if_pos c, if_pos c, if_pos (by omega), if_pos (by omega)]
      · rw [if_neg c, if_neg c]
    refine Ev.step e ?_
    have rec_ : (rd pl (i : Int) = rd pl (j : Int) → Cl rest (rd_T47 l (i : Int)) (rd_T47 l (j : Int)) = false) → Ev (fun k => pianolalaw03_good.l1 k pl i ((j + 1 : Nat) : Int) pl.length i rest l) r := fun hc =>
      good_l1 h pl hl hi hr hb m (j + 1) (by omega) (fun k hk' ek => by
        rcases Nat.lt_or_ge k j with h2 | h2
        · exact hk k h2 ek
        · obtain rfl : k = j := by omega
          exact hc ek)
    by_cases c : rd pl (i : Int) = rd pl (j : Int)
    · simp only [if_pos c]
      refine Ev.bind (near_f h (show i < l.length by omega) (show j < l.length by omega)) ?_
      cases hc : Cl rest (rd_T47 l (i : Int)) (rd_T47 l (j : Int)) with
      | true =>
        simp only [if_true]
        rw [hb (by rw [← Bool.not_eq_true, apartB_iff]; intro h2; rw [h2 j (by omega) c] at hc; cases hc)]
        exact Ev.now _
      | false =>
        simp only [Bool.false_eq_true, if_false]
        exact rec_ (fun _ => hc)
    · simp only [if_neg c]
      exact rec_ (fun hc => absurd hc c)
theorem good_l0 {rest : Int} {l : List S47} (h : Small rest l) (pl : List Int) (hl : pl.length ≤ l.length) : ∀ (m i : Nat), i + m = pl.length → (∀ k, k < i → apartB rest l pl k = true) → Ev (fun k => pianolalaw03_good.l0 k pl pl.length i rest l) (planN rest l pl pl.length)
  | 0, i, hi, hk => by
    have : planN rest l pl pl.length = true := by
      unfold planN
      rw [List.all_eq_true]
      exact fun k hk' => hk k (by have := List.mem_range.1 hk'; omega)
    rw [this]
    refine Ev.step (f := fun _ => some true) (fun k => ?_) (Ev.now _)
    rw [pianolalaw03_good.l0, if_neg (by omega)]
  | m + 1, i, hi, hk => by
    refine Ev.step (f := fun k => pianolalaw03_good.l1 k pl i 0 pl.length i rest l) (fun k => by rw [pianolalaw03_good.l0, if_pos (by omega)]) ?_
    refine good_l1 h pl hl (by omega) (fun hc => good_l0 h pl hl m (i + 1) (by omega) (fun k hk' => ?_)) (fun hc => ?_) i 0 (by omega) (fun k hk => by omega)
    · rcases Nat.lt_or_ge k i with h2 | h2
      · exact hk k h2
      · obtain rfl : k = i := by omega
        exact hc
    · unfold planN
      rw [← Bool.not_eq_true, List.all_eq_true]
      intro h2
      have := h2 i (List.mem_range.2 (by omega))
      rw [hc] at this; cases this
theorem goodp_f {rest : Int} {l : List S47} (h : Small rest l) (pl : List Int) (hl : pl.length ≤ l.length) : Ev (fun k => pianolalaw03_good.f k rest l pl) (planN rest l pl pl.length) := by
  have := good_l0 h pl hl pl.length 0 (by omega) (fun k hk => by omega)
  simpa [pianolalaw03_good.f] using this
theorem planN_iff {rest : Int} {l : List S47} {pl : List Int} {n : Nat} : planN rest l pl n = true ↔ ∀ i k, k < i → i < n → rd pl (i : Int) = rd pl (k : Int) → Cl rest (rd_T47 l (i : Int)) (rd_T47 l (k : Int)) = false := by
  unfold planN
  rw [List.all_eq_true]
  exact ⟨fun h i k hk hi => apartB_iff.1 (h i (List.mem_range.2 hi)) k hk, fun h i hi => apartB_iff.2 (fun k hk => h i k hk (List.mem_range.1 hi))⟩
end Go.Proofs.Ytegffliopblajaa.P
end
