/- Words and contracts for a claim. -/
import Derived.Test.YtegffliopblajaaPunchMore4
import Derived.OpenShut
import Derived.Deep.Slices
import Derived.ChangeSame
section
namespace Go.Proofs.Ytegffliopblajaa.P
open Go.ChangeShapes Go.WideShapes Go.Deep Go.RowKit Go.Proofs.YtegffliopblajaaW.PrintWords
set_option maxRecDepth 100000
set_option linter.unusedVariables false
set_option linter.unusedSimpArgs false
section
variable {H : Type} {enc : TypeId × Value → H} {w : World} {base : Nat} {spare : Nat → Bool} {held : Bool}
theorem byte_of {fuel : Nat} {u : Value} {x : DataW H × List MemPlace} (h : DataW.trod enc Try.prog w base spare held fuel 5 [u] = some x) : ∃ a : Int, u = .int .u8 a ∧ (Lit.int .u8 a).wf = true := by
  obtain ⟨a, e0, _, w0⟩ := DataW.trod_int Try.underlying5 h
  injection e0 with e0
  exact ⟨a, e0, w0⟩
theorem pair_u8 {fuel : Nat} {cs : List Value} {x : DataW H × List MemPlace} (h : DataW.trod enc Try.prog w base spare held fuel 82 cs = some x) :
    ∃ a b : Int, cs = [.int .u8 a, .int .u8 b] ∧ (Lit.int .u8 a).wf = true ∧ (Lit.int .u8 b).wf = true := by
  obtain ⟨xs, m, _, hx, hcl, hxl, hg⟩ := DataW.trod_array Try.underlying82 h
  have hc : Try.prog.cellsOf 82 = 2 := by kernel_rfl
  have hc5 : Try.prog.cellsOf 5 = 1 := by kernel_rfl
  rw [hc] at hcl
  obtain ⟨c0, c1, rfl⟩ := list_two hcl
  obtain ⟨y0, y1, rfl⟩ := list_two hxl
  have h0 := hg 0 (by omega)
  have h1 := hg 1 (by omega)
  rw [hc5] at h0 h1
  obtain ⟨a, rfl, w0⟩ := byte_of (show DataW.trod enc Try.prog w base spare held m 5 [c0] = some y0 from h0)
  obtain ⟨b, rfl, w1⟩ := byte_of (show DataW.trod enc Try.prog w base spare held m 5 [c1] = some y1 from h1)
  exact ⟨a, b, rfl, w0, w1⟩
theorem open_arr2 {r : Reach} {b0 : Nat} {v : Value} {d : DataW H} {p : List MemPlace} (hv : Value.okWide Try.prog w r b0 82 v) (h : DataW.Trod enc Try.prog w base spare held 82 v d p) :
    ∃ a b : Int, v = .agg #[.int .u8 a, .int .u8 b] ∧ (Lit.int .u8 a).wf = true ∧ (Lit.int .u8 b).wf = true := by
  simp only [Value.okWide, Try.underlying82] at hv
  obtain ⟨cs, rfl, h2, _⟩ := hv
  obtain ⟨fuel, hf⟩ := h
  obtain ⟨a, b, hcs, wa, wb⟩ := pair_u8 hf
  obtain ⟨l⟩ := cs
  have hl : l = [.int .u8 a, .int .u8 b] := hcs
  subst hl
  exact ⟨a, b, rfl, wa, wb⟩
theorem open_bytes2_72 {fuel : Nat} {A : Option Addr} {len cap : Nat} {x : DataW H × List MemPlace}
    (h : DataW.trod enc Try.prog w base spare held fuel 72 [.slice A len cap] = some x) :
    ∃ l : List S82, Kd.C k82 w A l.length l ∧ l.length = len ∧ l.length ≤ cap ∧ ∀ s ∈ l, (Lit.int .u8 s.f0).wf = true ∧ (Lit.int .u8 s.f1).wf = true := by
  have hc : Try.prog.cellsOf 82 = 2 := by kernel_rfl
  rcases open_slice Try.underlying72 h with ⟨hcs, _⟩ | ⟨a, len', cap', m, n, D, Pl, hcs, hb, hl, hm, hmm, hx, hi⟩
  · injection hcs with hcs _
    injection hcs with e1 e2 e3
    subst e1 e2 e3
    exact ⟨[], ⟨rfl, by simp, fun h => absurd h (by simp)⟩, rfl, Nat.le_refl _, fun _ h => by cases h⟩
  · injection hcs with hcs _
    injection hcs with e1 e2 e3
    subst e1 e2 e3
    have hlm : len ≤ m := by rw [hmm]; split <;> omega
    have each : ∀ i, i < len → ∃ s : S82, w.cell? (a.add (i * 2)) = some (.int .u8 s.f0) ∧ w.cell? (a.add (i * 2 + 1)) = some (.int .u8 s.f1) ∧ (Lit.int .u8 s.f0).wf = true ∧ (Lit.int .u8 s.f1).wf = true := by
      intro i hlt
      obtain ⟨cs', hcc, ht⟩ := hi i (by omega)
      rw [hc] at hcc
      obtain ⟨y0, y1, e, w0, w1⟩ := pair_u8 ht
      subst e
      obtain ⟨_, _, hat⟩ := World.cells?_some hcc
      have h0 := hat 0 (by omega)
      have h1 := hat 1 (by omega)
      rw [Go.Deep.add_add] at h0 h1
      exact ⟨⟨y0, y1⟩, h0, h1, w0, w1⟩
    obtain ⟨F, hF⟩ : ∃ F : Nat → S82, ∀ i, i < len → w.cell? (a.add (i * 2)) = some (.int .u8 (F i).f0) ∧ w.cell? (a.add (i * 2 + 1)) = some (.int .u8 (F i).f1) ∧ (Lit.int .u8 (F i).f0).wf = true ∧ (Lit.int .u8 (F i).f1).wf = true :=
      ⟨fun i => if h : i < len then Classical.choose (each i h) else z82, fun i h => by simp only [dif_pos h]; exact Classical.choose_spec (each i h)⟩
    have hlen : ((List.range len).map F).length = len := by simp
    refine ⟨(List.range len).map F, ?_, hlen, by rw [hlen]; exact hl, fun s hs => ?_⟩
    · rw [hlen]
      refine ⟨hlen, by unfold maxLen at hm; omega, fun _ => ⟨a, rfl, fun j p hp => ?_⟩⟩
      obtain ⟨hj, rfl⟩ := List.getElem?_eq_some_iff.1 hp
      have hF' := hF j (by simpa using hj)
      refine ⟨_, rfl, k82_mk w _, fun i u hu => ?_⟩
      simp only [List.getElem_map, List.getElem_range] at hu
      show w.cell? (a.add (j * 2 + i)) = _
      match i, hu with
      | 0, hu => cases hu; exact hF'.1
      | 1, hu => cases hu; exact hF'.2.1
      | _ + 2, hu => simp at hu
    · obtain ⟨i, hi, rfl⟩ := List.mem_map.1 hs
      exact (hF i (List.mem_range.1 hi)).2.2
theorem open_72 {fuel : Nat} {cs : List Value} {x : DataW H × List MemPlace} (h : DataW.trod enc Try.prog w base spare held fuel 72 cs = some x) :
    ∃ (l : List S82) (A : Option Addr) (c : Nat), cs = [.slice A l.length c] ∧ l.length ≤ c ∧ Kd.C k82 w A l.length l ∧ ∀ s ∈ l, (Lit.int .u8 s.f0).wf = true ∧ (Lit.int .u8 s.f1).wf = true := by
  rcases DataW.trod_slice Try.underlying72 h with ⟨rfl, _⟩ | ⟨a, len, cap, _, _, _, _, rfl, _⟩
  · exact ⟨[], none, 0, rfl, Nat.le_refl _, ⟨rfl, by simp, fun h => absurd h (by simp)⟩, fun _ h => by cases h⟩
  · obtain ⟨l, h1, h2, h3, h4⟩ := open_bytes2_72 h
    subst h2
    exact ⟨l, some a, cap, rfl, h3, h1, h4⟩
theorem open_lane {r : Reach} {b0 : Nat} {v : Value} {d : DataW H} {p : List MemPlace} (hv : Value.okWide Try.prog w r b0 74 v) (h : DataW.Trod enc Try.prog w base spare held 74 v d p) :
    ∃ (a : Int) (A : Option Addr) (c : Nat) (l : List S82), v = .agg #[.int .u8 a, .slice A l.length c] ∧ Kd.C k82 w A l.length l ∧ l.length ≤ c ∧ (Lit.int .u8 a).wf = true ∧ ∀ s ∈ l, (Lit.int .u8 s.f0).wf = true ∧ (Lit.int .u8 s.f1).wf = true := by
  simp only [Value.okWide, Try.underlying74] at hv
  obtain ⟨cs, rfl, h2, _⟩ := hv
  obtain ⟨fuel, hf⟩ := h
  obtain ⟨xs, m, _, hx, hcl, hxl, hg⟩ := DataW.trod_struct Try.underlying74 hf
  have c74 : Try.prog.cellsOf 74 = 2 := by kernel_rfl
  have c5 : Try.prog.cellsOf 5 = 1 := by kernel_rfl
  have c72 : Try.prog.cellsOf 72 = 1 := by kernel_rfl
  rw [c74] at h2 hcl
  obtain ⟨l⟩ := cs
  obtain ⟨a, b, rfl⟩ := list_two (show l.length = 2 from h2)
  obtain ⟨y0, y1, rfl⟩ := list_two (show xs.length = 2 from hxl)
  have g0 : DataW.trod enc Try.prog w base spare held m 5 (([a, b].drop 0).take (Try.prog.cellsOf 5)) = some y0 := hg 0 _ rfl
  have g1 : DataW.trod enc Try.prog w base spare held m 72 (([a, b].drop 1).take (Try.prog.cellsOf 72)) = some y1 := hg 1 _ rfl
  rw [c5] at g0
  rw [c72] at g1
  obtain ⟨a, rfl, wa⟩ := byte_of (show DataW.trod enc Try.prog w base spare held m 5 [a] = some y0 from g0)
  obtain ⟨l, A, c, e, h3, h4, h5⟩ := open_72 (show DataW.trod enc Try.prog w base spare held m 72 [b] = some y1 from g1)
  injection e with e _
  subst e
  exact ⟨a, A, c, l, rfl, h4, h3, wa, h5⟩
end
end Go.Proofs.Ytegffliopblajaa.P
end
section
namespace Go.Proofs.Ytegffliopblajaa.P
open Go.RowKit Go.Proofs.YtegffliopblajaaW.PrintWords Go.Proofs.YtegffliopblajaaW.PrintLast Go.Proofs.YtegffliopblajaaW.PrintMore
attribute [local go_sem] max2_int min2_int max_two min_two max_three min_three max_four min_four
set_option linter.unusedVariables false
set_option linter.unusedSimpArgs false
attribute [local go_sem high] eqA47
def pianolalaw03_Lane_made.l0 : Nat → Int → Int → List (S82) → Int → List (S47) → Option (Int × (List (S47)))
  | 0, _, _, _, _, _ => none
  | k + 1, x4, x380000, x380001, x382000, x382001 => if x4 < (x380001.length : Int) then (if x4 < 7 then (if 0 ≤ x4 then (if x382001.length < 8796093022208 then (pianolalaw03_Lane_made.l0 k (wrap64 (x4 + 1)) x380000 x380001 x382000 (x382001 ++ [(⟨Int.tmod (wrap64 ((rd_T82 x380001 x4).f0)) 40, wrap64 ((wrap64 ((Int.tmod (wrap64 ((rd_T82 x380001 x4).f0)) 40) + 1)) + (Int.tmod (wrap64 ((rd_T82 x380001 x4).f1)) 12))⟩ : S47)])) else (none)) else (none)) else (some (x382000, x382001))) else (some (x382000, x382001))
def pianolalaw03_Lane_made.f (k : Nat) (a0_0 : Int) (l0_1 : List (S82)) : Option (Int × (List (S47))) := pianolalaw03_Lane_made.l0 k 0 a0_0 l0_1 (Int.tmod (wrap64 (a0_0)) 8) ([] : List (S47))
def pianolalaw03_Lane_made.T6 : Bool × List (List Nat × List Nat) := (true, [([], []), ([0], [0]), ([], []), ([], []), ([3], [3]), ([], []), ([5], [5]), ([], []), ([6, 7], [6, 7]), ([8], [8]), ([9], [9]), ([10], [10]), ([11], [11]), ([4, 12], [4, 12]), ([2, 13], [2, 13]), ([14], [14]), ([1, 15], [1, 15]), ([0, 1, 2, 3, 4, 5, 6, 7, 8, 9, 10, 11, 12, 13, 14, 15, 16], []), ([17, 16, 16, 0, 1, 2, 3, 4, 5, 6, 7, 8, 9, 10, 11, 12, 13, 14, 15, 16], [16, 17])])
def pianolalaw03_Lane_made.B6 : List Nat := [0, 1, 0, 0, 8, 0, 32, 0, 224, 480, 992, 2016, 4064, 8184, 16380, 32764, 65535, 131071, 262143]
theorem pianolalaw03_Lane_made.tab6 : rtab .any (opsOf Try.f38 6) = pianolalaw03_Lane_made.T6 := by kernel_rfl
theorem pianolalaw03_Lane_made.bits6 : waitsOk pianolalaw03_Lane_made.T6.2 pianolalaw03_Lane_made.B6 = true := by kernel_rfl
set_option maxHeartbeats 8000000 in
set_option maxRecDepth 100000 in
theorem pianolalaw03_Lane_made.calls (k : Nat) (a0_0 : Int) (A0_1 : Option Addr) (c0_1 : Nat) (l0_1 : List (S82)) (r1 : Int) (r2 : List (S47)) (w : World) (hr0_1 : Kd.C k82 w A0_1 l0_1.length l0_1) (hc0_1 : l0_1.length ≤ c0_1) (h : pianolalaw03_Lane_made.f k a0_0 l0_1 = some (r1, r2)) :
  Calls Try.prog 38 #[.agg #[.int .u8 a0_0, .slice A0_1 l0_1.length c0_1]] w fun e w' => ∃ v1_ : Value, e = .returned (.agg #[.int .i64 r1, v1_]) ∧ Kd.R k47 47 w' w.heap.size (fun _ => True) v1_ r2 ∧ Below w.heap.size w w' := by
 have hu74 := Try.underlying74
 have hu24 := Try.underlying24
 have hu47 := Try.underlying47
 have HR0_1 := zA hr0_1
 have HC0_1 := zA hc0_1
 clear hr0_1 hc0_1
 have HB := zA (Below.refl w.heap.size w)
 have H : (pianolalaw03_Lane_made.l0 k 0 a0_0 l0_1 (Int.tmod (wrap64 (a0_0)) 8) ([] : List (S47))) = some (r1, r2) := h
 clear h
 have H' := zA H
 clear H
 go_enter Try.func38, Try.ntmps38
 go_wp2_with (first | ((with_reducible refine gate_dst (N := 1) rfl ?_); refine box_event ?hg (N := 1) ?hd (cs := #[.int .u8 a0_0, .slice A0_1 l0_1.length c0_1]) (t := 74) ?hr ?_; (case hd => rfl); (case hg => rfl); (case hr => first | (go_simp; done) | (go_simp; rfl)); intro gb379 hg w2 hbox hb; have n0_ := zA (below_step (zqA HB.out) hb); have n1_ := zA (hbox); have n2_ := zA ((by rw [hg]; exact (below_size (zqA HB.out)) : w.heap.size ≤ gb379)); have n3_ := zA ((by rw [hg]; exact (below_size (zqA HB.out)) : w.heap.size ≤ gb379)); clear HB; have HB := n0_; have BK379 := n1_; have GW379 := n2_; have GE379 := n3_; clear n0_ n1_ n2_ n3_; clear hb hbox hg) | ((with_reducible refine gate_dst (N := 2) rfl ?_); refine box_event ?hg (N := 2) ?hd (cs := #[.int .i64 0, .slice none 0 0]) (t := 24) ?hr ?_; (case hd => rfl); (case hg => rfl); (case hr => first | (go_simp; done) | (go_simp; rfl)); intro gb380 hg w3 hbox hb; have n0_ := zA (blk_below (g := gb379) (o := .cells #[.int .u8 a0_0, .slice A0_1 l0_1.length c0_1] 74 (0, 0)) (zqB BK379.out) hb); have n1_ := zA (below_step (zqG HB.out GE379.out) hb); have n2_ := zA (hbox); have n3_ := zA ((by rw [hg]; exact (below_size (zqG HB.out GE379.out)) : w.heap.size ≤ gb380)); have n4_ := zA ((by rw [hg]; exact (below_size (zqG HB.out GE379.out)) : w.heap.size ≤ gb380)); have n5_ := zA ((by rw [hg]; exact Nat.ne_of_lt (blk_lt (g := gb379) (o := .cells #[.int .u8 a0_0, .slice A0_1 l0_1.length c0_1] 74 (0, 0)) (zqB BK379.out)) : gb379 ≠ gb380)); have n6_ := zA ((by rw [hg]; exact Nat.ne_of_gt (blk_lt (g := gb379) (o := .cells #[.int .u8 a0_0, .slice A0_1 l0_1.length c0_1] 74 (0, 0)) (zqB BK379.out)) : gb380 ≠ gb379)); clear BK379; clear HB; have BK379 := n0_; have HB := n1_; have BK380 := n2_; have GW380 := n3_; have GE380 := n4_; have NB379_380 := n5_; have NB380_379 := n6_; clear n0_ n1_ n2_ n3_ n4_ n5_ n6_; clear hb hbox hg; have hnb4 := NB379_380.out; have hnc4 := NB380_379.out; have hcz5_0 : w3.cell? ⟨gb379, 0, none⟩ = some (.int .u8 a0_0) := (blk_cell BK379.out 0).trans rfl; have hcz5_1 : w3.cell? ⟨gb379, 1, none⟩ = some (.slice A0_1 l0_1.length c0_1) := (blk_cell BK379.out 1).trans rfl; have hfz5_0 := blk_frozen BK379.out 0; have hfz5_1 := blk_frozen BK379.out 1) | ((with_reducible refine gate_dst (N := 3) rfl ?_); refine box_event ?hg (N := 3) ?hd (cs := #[.int .i64 0, .slice none 0 0]) (t := 24) ?hr ?_; (case hd => rfl); (case hg => rfl); (case hr => first | (go_simp; done) | (go_simp; rfl)); intro gb381 hg w6 hbox hb; have n0_ := zA (blk_below (g := gb379) (o := .cells #[.int .u8 a0_0, .slice A0_1 l0_1.length c0_1] 74 (0, 0)) (zqB BK379.out) hb); have n1_ := zA (blk_below (g := gb380) (o := .cells #[.int .i64 0, .slice none 0 0] 24 (0, 0)) (zqB BK380.out) hb); have n2_ := zA (below_step (zqH HB.out GE379.out GE380.out) hb); have n3_ := zA (hbox); have n4_ := zA ((by rw [hg]; exact (below_size (zqH HB.out GE379.out GE380.out)) : w.heap.size ≤ gb381)); have n5_ := zA ((by rw [hg]; exact (below_size (zqH HB.out GE379.out GE380.out)) : w.heap.size ≤ gb381)); have n6_ := zA ((by rw [hg]; exact Nat.ne_of_lt (blk_lt (g := gb379) (o := .cells #[.int .u8 a0_0, .slice A0_1 l0_1.length c0_1] 74 (0, 0)) (zqB BK379.out)) : gb379 ≠ gb381)); have n7_ := zA ((by rw [hg]; exact Nat.ne_of_gt (blk_lt (g := gb379) (o := .cells #[.int .u8 a0_0, .slice A0_1 l0_1.length c0_1] 74 (0, 0)) (zqB BK379.out)) : gb381 ≠ gb379)); have n8_ := zA ((by rw [hg]; exact Nat.ne_of_lt (blk_lt (g := gb380) (o := .cells #[.int .i64 0, .slice none 0 0] 24 (0, 0)) (zqB BK380.out)) : gb380 ≠ gb381)); have n9_ := zA ((by rw [hg]; exact Nat.ne_of_gt (blk_lt (g := gb380) (o := .cells #[.int .i64 0, .slice none 0 0] 24 (0, 0)) (zqB BK380.out)) : gb381 ≠ gb380)); clear BK379; clear BK380; clear HB; have BK379 := n0_; have BK380 := n1_; have HB := n2_; have BK381 := n3_; have GW381 := n4_; have GE381 := n5_; have NB379_381 := n6_; have NB381_379 := n7_; have NB380_381 := n8_; have NB381_380 := n9_; clear n0_ n1_ n2_ n3_ n4_ n5_ n6_ n7_ n8_ n9_; clear hb hbox hg; have hnb7 := NB381_379.out; have hnc7 := NB379_381.out; have hnb8 := NB381_380.out; have hnc8 := NB380_381.out; have hcz9_0 : w6.cell? ⟨gb381, 0, none⟩ = some (.int .i64 0) := (blk_cell BK381.out 0).trans rfl; have hcz9_1 : w6.cell? ⟨gb381, 1, none⟩ = some (.slice none 0 0) := (blk_cell BK381.out 1).trans rfl; have hfz9_0 := blk_frozen BK381.out 0; have hfz9_1 := blk_frozen BK381.out 1))
 go_loopg [4] k (fun kq v4 w' => ∃ (x4_1 : Int) (x382001_1 : List (S47)) (u382001 : Value), v4 = .int .i64 x4_1 ∧ Aside0 (pianolalaw03_Lane_made.l0 kq x4_1 a0_0 l0_1 (Int.tmod (wrap64 (a0_0)) 8) x382001_1 = some (r1, r2)) ∧ Aside0 (kq ≤ k) ∧ Aside0 (Kd.R k47 47 w' w.heap.size (fun _ => True) u382001 x382001_1) ∧ Aside0 (w'.heap[gb379]? = some (.cells #[.int .u8 a0_0, (.slice A0_1 l0_1.length c0_1)] 74 (0, 0))) ∧ Aside0 (w'.heap[gb380]? = some (.cells #[.int .i64 0, (.slice none 0 0)] 24 (0, 0))) ∧ Aside0 (w'.heap[gb381]? = some (.cells #[.int .i64 (Int.tmod (wrap64 (a0_0)) 8), u382001] 24 (0, 0))) ∧ Aside0 (Below w.heap.size w w'))
 case atStart => exact ⟨(0), (([] : List (S47))), (.slice none 0 0), zqQ, H', ⟨Nat.le_refl _⟩, ⟨by first | exact Kd.R_nil _ _ _ _ _ | exact Kd.N_nil _ _ _ _ _ | exact Kd.V_nil _ _ _ _ _ | exact Kd.Q_nil _ _ _ _ _ | exact Kd.S_nil _ _ _ _ _⟩, ⟨by (with_reducible repeat (first | refine blk_drewN ?_ _ | refine blk_drew ?_ | refine blk_alloc ?_ _)); refine blk_far ?_ NB379_381.out _; (with_reducible repeat (first | refine blk_drewN ?_ _ | refine blk_drew ?_ | refine blk_alloc ?_ _)); refine blk_far ?_ NB379_381.out _; (with_reducible repeat (first | refine blk_drewN ?_ _ | refine blk_drew ?_ | refine blk_alloc ?_ _)); exact BK379.out⟩, ⟨by (with_reducible repeat (first | refine blk_drewN ?_ _ | refine blk_drew ?_ | refine blk_alloc ?_ _)); refine blk_far ?_ NB380_381.out _; (with_reducible repeat (first | refine blk_drewN ?_ _ | refine blk_drew ?_ | refine blk_alloc ?_ _)); refine blk_far ?_ NB380_381.out _; (with_reducible repeat (first | refine blk_drewN ?_ _ | refine blk_drew ?_ | refine blk_alloc ?_ _)); exact BK380.out⟩, ⟨by (with_reducible repeat (first | refine blk_drewN ?_ _ | refine blk_drew ?_ | refine blk_alloc ?_ _)); refine blk_put (cs := #[.int .i64 (Int.tmod (wrap64 (a0_0)) 8), .slice none 0 0]) ?_ 1 _ rfl; (with_reducible repeat (first | refine blk_drewN ?_ _ | refine blk_drew ?_ | refine blk_alloc ?_ _)); refine blk_put (cs := #[.int .i64 0, .slice none 0 0]) ?_ 0 _ rfl; (with_reducible repeat (first | refine blk_drewN ?_ _ | refine blk_drew ?_ | refine blk_alloc ?_ _)); exact BK381.out⟩, ⟨zqI HB.out GE379.out GE380.out GE381.out⟩⟩
 case round =>
  clear H'
  try clear p2
  try clear c3
  try clear c4
  try clear p6
  try clear c7
  try clear c8
  try clear hcz5_0
  try clear hcz5_1
  try clear hcz9_0
  try clear hcz9_1
  try clear hfz5_0
  try clear hfz5_1
  try clear hfz9_0
  try clear hfz9_1
  obtain ⟨x4_1, x382001_1, u382001, rfl, HA, HK1, HO_382001, BK379, BK380, BK381, HB⟩ := hrel
  cases gk with
  | zero => exact absurd HA.out (by simp [pianolalaw03_Lane_made.l0])
  | succ k1 =>
   have H := HA.out
   clear HA
   simp only [pianolalaw03_Lane_made.l0] at H
   by_cases c10 : x4_1 < (l0_1.length : Int)
   ·
    rw [if_pos c10] at H
    have c10b0 : decide (x4_1 < (l0_1.length : Int)) = true := decide_eq_true c10
    clear c10
    by_cases c11 : x4_1 < 7
    ·
     rw [if_pos c11] at H
     have c11b0 : decide (x4_1 < 7) = true := decide_eq_true c11
     clear c11
     by_cases c12 : 0 ≤ x4_1
     ·
      rw [if_pos c12] at H
      have c12b0 : decide (0 ≤ x4_1) = true := decide_eq_true c12
      clear c12
      by_cases c13 : x382001_1.length < 8796093022208
      ·
       rw [if_pos c13] at H
       have LMc13 := zA c13
       clear c13
       obtain ⟨y384, hy384⟩ : ∃ y_ : List (S47), y_ = (x382001_1 ++ [(⟨Int.tmod (wrap64 ((rd_T82 l0_1 x4_1).f0)) 40, wrap64 ((wrap64 ((Int.tmod (wrap64 ((rd_T82 l0_1 x4_1).f0)) 40) + 1)) + (Int.tmod (wrap64 ((rd_T82 l0_1 x4_1).f1)) 12))⟩ : S47)]) := ⟨_, rfl⟩
       replace H : (pianolalaw03_Lane_made.l0 k1 (wrap64 (x4_1 + 1)) a0_0 l0_1 (Int.tmod (wrap64 (a0_0)) 8) y384) = some (r1, r2) := zqF hy384 H
       have Ny384 := zA hy384
       clear hy384
       have H' := zA H
       clear H
       have hnb14 := NB379_380.out
       have hnc14 := NB380_379.out
       have hnb15 := NB379_381.out
       have hnc15 := NB381_379.out
       have hcz16_0 : wr.cell? ⟨gb379, 0, none⟩ = some (.int .u8 a0_0) := (blk_cell BK379.out 0).trans rfl
       have hcz16_1 : wr.cell? ⟨gb379, 1, none⟩ = some (.slice A0_1 l0_1.length c0_1) := (blk_cell BK379.out 1).trans rfl
       have hfz16_0 := blk_frozen BK379.out 0
       have hfz16_1 := blk_frozen BK379.out 1
       have p382 : 0 ≤ (x4_1 : Int) := of_decide_eq_true (zqD)
       have q382 : x4_1 < (l0_1.length : Int) := of_decide_eq_true (zqD)
       obtain ⟨ad382, e382, hx382_0, hx382_1⟩ := at_T82 HR0_1.out x4_1 p382 q382
       cases e382
       replace hx382_0 := (HB.out.cell (World.block_lt_of_cell? w _ hx382_0)).trans hx382_0
       replace hx382_1 := (HB.out.cell (World.block_lt_of_cell? w _ hx382_1)).trans hx382_1
       replace p382 := eq_true p382; replace q382 := eq_true q382
       try go_wp2
       have n0_ := zA (Kd.R_drew HO_382001.out); have n1_ := zA (blk_drew BK379.out); have n2_ := zA (blk_drew BK380.out); have n3_ := zA (blk_drew BK381.out); have n4_ := zA (below_drew1 HB.out); clear HO_382001 BK379 BK380 BK381 HB; have HO_382001 := n0_; have BK379 := n1_; have BK380 := n2_; have BK381 := n3_; have HB := n4_; clear n0_ n1_ n2_ n3_ n4_
       have p383 : 0 ≤ (x4_1 : Int) := of_decide_eq_true (zqD)
       have q383 : x4_1 < (l0_1.length : Int) := of_decide_eq_true (zqD)
       obtain ⟨ad383, e383, hx383_0, hx383_1⟩ := at_T82 HR0_1.out x4_1 p383 q383
       have hw383_1 := hx383_1; have hw383_0 := hx383_0
       obtain rfl : ad382 = ad383 := (by injection e383)
       replace hx383_0 := (HB.out.cell (World.block_lt_of_cell? w _ hx383_0)).trans hx383_0
       replace hx383_1 := (HB.out.cell (World.block_lt_of_cell? w _ hx383_1)).trans hx383_1
       replace p383 := eq_true p383; replace q383 := eq_true q383
       refine start_ (n := 19) (S := fun w' => w'.cell? ⟨gb381, 0, none⟩ = some (.int .i64 (Int.tmod (wrap64 (a0_0)) 8)) ∧ w'.cell? ⟨gb381, 1, none⟩ = some (u382001) ∧ w'.cell? ⟨gb379, 0, none⟩ = some (.int .u8 a0_0) ∧ w'.cell? ⟨gb379, 1, none⟩ = some (.slice (some ad382) l0_1.length c0_1) ∧ w'.cell? (ad382.add ((x4_1).toNat * 2)) = some (.int .u8 ((rd_T82 l0_1 x4_1).f0)) ∧ w'.cell? ⟨(ad382.add ((x4_1).toNat * 2)).block, (ad382.add ((x4_1).toNat * 2)).off + 1, none⟩ = some (.int .u8 ((rd_T82 l0_1 x4_1).f1))) (ds := [18]) #[false, false, false, false, false, false, false, false, false, false, false, false, false, false, false, false, false, false, false] (by kernel_rfl) rfl rfl ⟨(blk_cell BK381.out 0).trans rfl, (blk_cell BK381.out 1).trans rfl, (blk_cell BK379.out 0).trans rfl, (blk_cell BK379.out 1).trans rfl, ((HB.out.cell (World.block_lt_of_cell? w _ hw383_0)).trans hw383_0), ((HB.out.cell (World.block_lt_of_cell? w _ hw383_1)).trans hw383_1)⟩ (fun hHeld => ?_); refine with_tabW pianolalaw03_Lane_made.tab6 pianolalaw03_Lane_made.bits6 (fun HT_ HW_ => ?_)
       generalize wr.drew = w17 at HO_382001 BK379 BK380 BK381 HB hx383_0 hx383_1 hHeld ⊢
       refine pure_ (i := 0) (N := some 30) (v := ?_) (a' := ?_) #[true, false, false, false, false, false, false, false, false, false, false, false, false, false, false, false, false, false, false] rfl rfl (any_of HT_.out (by kernel_rfl)) (fun _ _ _ h => h) (Or.inl ⟨by rfl, ?_⟩) ?_ ?_
       rotate_left
       ·
        intro w'
        go_simp
        with_reducible rfl
       rotate_left
       · simp only [Act.put, List.setIfInBounds_toArray, List.set_cons_zero, List.set_cons_succ, i64_w, i32_w]; rfl
       refine pure_ (i := 2) (N := some 32) (v := ?_) (a' := ?_) #[true, false, true, false, false, false, false, false, false, false, false, false, false, false, false, false, false, false, false] rfl rfl (any_of HT_.out (by kernel_rfl)) (fun _ _ _ h => h) (Or.inl ⟨by rfl, ?_⟩) ?_ ?_
       rotate_left
       ·
        intro w'
        go_simp
        with_reducible rfl
       rotate_left
       · simp only [Act.put, List.setIfInBounds_toArray, List.set_cons_zero, List.set_cons_succ, i64_w, i32_w]; rfl
       refine pure_ (i := 3) (N := some 33) (v := ?_) (a' := ?_) #[true, false, true, true, false, false, false, false, false, false, false, false, false, false, false, false, false, false, false] rfl rfl (any_of HT_.out (by kernel_rfl)) (fun _ _ _ h => h) (Or.inl ⟨by rfl, ?_⟩) ?_ ?_
       rotate_left
       ·
        intro w'
        go_simp
        with_reducible rfl
       rotate_left
       · simp only [Act.put, List.setIfInBounds_toArray, List.set_cons_zero, List.set_cons_succ, i64_w, i32_w]; rfl
       refine pure_ (i := 4) (N := some 34) (v := ?_) (a' := ?_) #[true, false, true, true, true, false, false, false, false, false, false, false, false, false, false, false, false, false, false] rfl rfl (any_of HT_.out (by kernel_rfl)) (fun _ _ _ h => h) (Or.inl ⟨by rfl, ?_⟩) ?_ ?_
       rotate_left
       ·
        intro w'
        go_simp
        with_reducible rfl
       rotate_left
       · simp only [Act.put, List.setIfInBounds_toArray, List.set_cons_zero, List.set_cons_succ, i64_w, i32_w]; rfl
       refine pure_ (i := 5) (N := some 35) (v := ?_) (a' := ?_) #[true, false, true, true, true, true, false, false, false, false, false, false, false, false, false, false, false, false, false] rfl rfl (any_of HT_.out (by kernel_rfl)) (fun _ _ _ h => h) (Or.inl ⟨by rfl, ?_⟩) ?_ ?_
       rotate_left
       ·
        intro w'
        go_simp
        with_reducible rfl
       rotate_left
       · simp only [Act.put, List.setIfInBounds_toArray, List.set_cons_zero, List.set_cons_succ, i64_w, i32_w]; rfl
       refine pure_ (i := 7) (N := some 37) (v := ?_) (a' := ?_) #[true, false, true, true, true, true, false, true, false, false, false, false, false, false, false, false, false, false, false] rfl rfl (any_of HT_.out (by kernel_rfl)) (fun _ _ _ h => h) (Or.inl ⟨by rfl, ?_⟩) ?_ ?_
       rotate_left
       ·
        intro w'
        go_simp
        with_reducible rfl
       rotate_left
       · simp only [Act.put, List.setIfInBounds_toArray, List.set_cons_zero, List.set_cons_succ, i64_w, i32_w]; rfl
       refine take_ (i := 1) (N := some 31) (v := ?_) (a' := ?_) #[true, true, true, true, true, true, false, true, false, false, false, false, false, false, false, false, false, false, false] rfl rfl (take_ofW HT_.out HW_.out (by kernel_rfl)) (fun _ _ _ h => h) (Or.inl ⟨by rfl, ?_⟩) hHeld ?_ ?_
       rotate_left
       ·
        rintro w' ⟨s0, s1, s2, s3, s4, s5⟩
        go_simp
        with_reducible rfl
       rotate_left
       · simp only [Act.put, List.setIfInBounds_toArray, List.set_cons_zero, List.set_cons_succ, i64_w, i32_w]; rfl
       refine take_ (i := 6) (N := some 36) (v := ?_) (a' := ?_) #[true, true, true, true, true, true, true, true, false, false, false, false, false, false, false, false, false, false, false] rfl rfl (take_ofW HT_.out HW_.out (by kernel_rfl)) (fun _ _ _ h => h) (Or.inl ⟨by rfl, ?_⟩) hHeld ?_ ?_
       rotate_left
       ·
        rintro w' ⟨s0, s1, s2, s3, s4, s5⟩
        go_simp
        with_reducible rfl
       rotate_left
       · simp only [Act.put, List.setIfInBounds_toArray, List.set_cons_zero, List.set_cons_succ, i64_w, i32_w]; rfl
       refine pure_ (i := 8) (N := some 38) (v := ?_) (a' := ?_) #[true, true, true, true, true, true, true, true, true, false, false, false, false, false, false, false, false, false, false] rfl rfl (any_of HT_.out (by kernel_rfl)) (fun _ _ _ h => h) (Or.inl ⟨by rfl, ?_⟩) ?_ ?_
       rotate_left
       ·
        intro w'
        go_simp
        with_reducible rfl
       rotate_left
       · simp only [Act.put, List.setIfInBounds_toArray, List.set_cons_zero, List.set_cons_succ, i64_w, i32_w]; rfl
       refine pure_ (i := 9) (N := some 39) (v := ?_) (a' := ?_) #[true, true, true, true, true, true, true, true, true, true, false, false, false, false, false, false, false, false, false] rfl rfl (any_of HT_.out (by kernel_rfl)) (fun _ _ _ h => h) (Or.inl ⟨by rfl, ?_⟩) ?_ ?_
       rotate_left
       ·
        intro w'
        go_simp
        with_reducible rfl
       rotate_left
       · simp only [Act.put, List.setIfInBounds_toArray, List.set_cons_zero, List.set_cons_succ, i64_w, i32_w]; rfl
       refine take_ (i := 10) (N := some 40) (v := ?_) (a' := ?_) #[true, true, true, true, true, true, true, true, true, true, true, false, false, false, false, false, false, false, false] rfl rfl (take_ofW HT_.out HW_.out (by kernel_rfl)) (fun _ _ _ h => h) (Or.inl ⟨by rfl, ?_⟩) hHeld ?_ ?_
       rotate_left
       ·
        rintro w' ⟨s0, s1, s2, s3, s4, s5⟩
        go_simp
        with_reducible rfl
       rotate_left
       · simp only [Act.put, List.setIfInBounds_toArray, List.set_cons_zero, List.set_cons_succ, i64_w, i32_w]; rfl
       refine pure_ (i := 11) (N := some 41) (v := ?_) (a' := ?_) #[true, true, true, true, true, true, true, true, true, true, true, true, false, false, false, false, false, false, false] rfl rfl (any_of HT_.out (by kernel_rfl)) (fun _ _ _ h => h) (Or.inl ⟨by rfl, ?_⟩) ?_ ?_
       rotate_left
       ·
        intro w'
        go_simp
        with_reducible rfl
       rotate_left
       · simp only [Act.put, List.setIfInBounds_toArray, List.set_cons_zero, List.set_cons_succ, i64_w, i32_w]; rfl
       refine pure_ (i := 12) (N := some 42) (v := ?_) (a' := ?_) #[true, true, true, true, true, true, true, true, true, true, true, true, true, false, false, false, false, false, false] rfl rfl (any_of HT_.out (by kernel_rfl)) (fun _ _ _ h => h) (Or.inl ⟨by rfl, ?_⟩) ?_ ?_
       rotate_left
       ·
        intro w'
        go_simp
        with_reducible rfl
       rotate_left
       · simp only [Act.put, List.setIfInBounds_toArray, List.set_cons_zero, List.set_cons_succ, i64_w, i32_w]; rfl
       refine pure_ (i := 13) (N := some 43) (v := ?_) (a' := ?_) #[true, true, true, true, true, true, true, true, true, true, true, true, true, true, false, false, false, false, false] rfl rfl (any_of HT_.out (by kernel_rfl)) (fun _ _ _ h => h) (Or.inl ⟨by rfl, ?_⟩) ?_ ?_
       rotate_left
       ·
        intro w'
        go_simp
        with_reducible rfl
       rotate_left
       · simp only [Act.put, List.setIfInBounds_toArray, List.set_cons_zero, List.set_cons_succ, i64_w, i32_w]; rfl
       refine pure_ (i := 14) (N := some 44) (v := ?_) (a' := ?_) #[true, true, true, true, true, true, true, true, true, true, true, true, true, true, true, false, false, false, false] rfl rfl (any_of HT_.out (by kernel_rfl)) (fun _ _ _ h => h) (Or.inl ⟨by rfl, ?_⟩) ?_ ?_
       rotate_left
       ·
        intro w'
        go_simp
        with_reducible rfl
       rotate_left
       · simp only [Act.put, List.setIfInBounds_toArray, List.set_cons_zero, List.set_cons_succ, i64_w, i32_w]; rfl
       refine one_ (i := 15) (N := some 45) #[true, true, true, true, true, true, true, true, true, true, true, true, true, true, true, true, false, false, false] rfl rfl (one_of HT_.out (by kernel_rfl)) (by decide) (fun K hK => ?_)
       refine value_ (w1 := ?_) (v := ?_) (by rfl) rfl ?_ ?_
       rotate_left 2
       ·
        go_simp
        constructor
        ·
         rfl
        ·
         rfl
       refine hK.out _ _ ⟨(blk_cell (blk_alloc BK381.out _) 0).trans rfl, (blk_cell (blk_alloc BK381.out _) 1).trans rfl, (blk_cell (blk_alloc BK379.out _) 0).trans rfl, (blk_cell (blk_alloc BK379.out _) 1).trans rfl, (World.cell?_alloc_lt _ _ _ (World.block_lt_of_cell? _ _ (((HB.out.cell (World.block_lt_of_cell? w _ hw383_0)).trans hw383_0)))).trans (((HB.out.cell (World.block_lt_of_cell? w _ hw383_0)).trans hw383_0)), (World.cell?_alloc_lt _ _ _ (World.block_lt_of_cell? _ _ (((HB.out.cell (World.block_lt_of_cell? w _ hw383_1)).trans hw383_1)))).trans (((HB.out.cell (World.block_lt_of_cell? w _ hw383_1)).trans hw383_1))⟩ (fun hHeld => ?_)
       clear hK K; refine norm_ (a' := ?_) ?_ ?_; rotate_left
       · show Act.put _ (some 45) _ = _; simp only [Act.put, List.setIfInBounds_toArray, List.set_cons_zero, List.set_cons_succ, i64_w, i32_w]; rfl
       refine one_ (i := 16) (N := some 46) #[true, true, true, true, true, true, true, true, true, true, true, true, true, true, true, true, true, false, false] rfl rfl (one_of HT_.out (by kernel_rfl)) (by decide) (fun K hK => ?_)
       refine Kd.R_append_step k47 (w0 := w) w.heap.size (by rfl) (.tmp 31) (.tmp 45) 22 47 (.agg #[(.int .i64 0), (.int .i64 0)]) 16 rfl Try.underlying22 info47 rfl (by decide) (by omega) u382001 x382001_1 (⟨Int.tmod (wrap64 ((rd_T82 l0_1 x4_1).f0)) 40, wrap64 ((wrap64 ((Int.tmod (wrap64 ((rd_T82 l0_1 x4_1).f0)) 40) + 1)) + (Int.tmod (wrap64 ((rd_T82 l0_1 x4_1).f1)) 12))⟩ : S47) [.int .i64 (Int.tmod (wrap64 ((rd_T82 l0_1 x4_1).f0)) 40), .int .i64 (wrap64 ((wrap64 ((Int.tmod (wrap64 ((rd_T82 l0_1 x4_1).f0)) 40) + 1)) + (Int.tmod (wrap64 ((rd_T82 l0_1 x4_1).f1)) 12)))] (fun _ => True) (fun _ => False) rfl rfl ?aP (fun _ hk => hk.elim) ?aF ?aO ?aB ?aS ?aL ?_
       (case aP => exact k47_mkM _ _ _ (⟨Int.tmod (wrap64 ((rd_T82 l0_1 x4_1).f0)) 40, wrap64 ((wrap64 ((Int.tmod (wrap64 ((rd_T82 l0_1 x4_1).f0)) 40) + 1)) + (Int.tmod (wrap64 ((rd_T82 l0_1 x4_1).f1)) 12))⟩ : S47))
       (case aB => exact (zqI HB.out GE379.out GE380.out GE381.out))
       (case aF => exact (fun _ _ => trivial))
       (case aO => exact (zqC HO_382001.out))
       (case aS => exact (below_size (zqI HB.out GE379.out GE380.out GE381.out)))
       (case aL => have := LMc13.out; omega)
       intro v385 w18 ho hb hg hat
       rw [← Ny384.out] at ho
       have n0_ := zA (blk_grown (g := gb379) (o := .cells #[.int .u8 a0_0, .slice (some ad382) l0_1.length c0_1] 74 (0, 0)) (zqB BK379.out) hg (Kd.R_ne HO_382001.out BK379.out (by decide))); have n1_ := zA (blk_grown (g := gb380) (o := .cells #[.int .i64 0, .slice none 0 0] 24 (0, 0)) (zqB BK380.out) hg (Kd.R_ne HO_382001.out BK380.out (by decide))); have n2_ := zA (blk_grown (g := gb381) (o := .cells #[.int .i64 (Int.tmod (wrap64 (a0_0)) 8), u382001] 24 (0, 0)) (zqB BK381.out) hg (Kd.R_ne HO_382001.out BK381.out (by decide))); have n3_ := zA (hb); have n4_ := zA (ho); clear BK379 BK380 BK381 HB HO_382001; have BK379 := n0_; have BK380 := n1_; have BK381 := n2_; have HB := n3_; have HO386 := n4_; clear n0_ n1_ n2_ n3_ n4_ ho hb hg hat
       obtain ⟨Ao19, co19, eo19⟩ := Kd.R_slice HO386.out
       (first | subst eo19 | (injection eo19 with f1_ f2_ f3_; have f4_ := f1_.symm; have f5_ := f3_.symm; clear f1_ f2_ f3_; subst f4_; subst f5_))
       refine hK.out _ _ ⟨(blk_cell BK381.out 0).trans rfl, (blk_cell BK381.out 1).trans rfl, (blk_cell BK379.out 0).trans rfl, (blk_cell BK379.out 1).trans rfl, ((HB.out.cell (World.block_lt_of_cell? w _ hw383_0)).trans hw383_0), ((HB.out.cell (World.block_lt_of_cell? w _ hw383_1)).trans hw383_1)⟩ (fun hHeld => ?_)
       clear hK K; refine norm_ (a' := ?_) ?_ ?_; rotate_left
       · show Act.put _ (some 46) _ = _; simp only [Act.put, List.setIfInBounds_toArray, List.set_cons_zero, List.set_cons_succ, i64_w, i32_w]; rfl
       refine pure_ (i := 17) (N := some 47) (v := ?_) (a' := ?_) #[true, true, true, true, true, true, true, true, true, true, true, true, true, true, true, true, true, true, false] rfl rfl (any_of HT_.out (by kernel_rfl)) (fun _ _ _ h => h) (Or.inl ⟨by rfl, ?_⟩) ?_ ?_
       rotate_left
       ·
        intro w'
        go_simp
        with_reducible rfl
       rotate_left
       · simp only [Act.put, List.setIfInBounds_toArray, List.set_cons_zero, List.set_cons_succ, i64_w, i32_w]; rfl
       refine last_ (i := 18) (N := none) #[true, true, true, true, true, true, true, true, true, true, true, true, true, true, true, true, true, true, true] rfl rfl (one_of HT_.out (by kernel_rfl)) (by decide) (fun K hK => ?_)
       have hs20 : w18.cell? ⟨gb381, 1, none⟩ = some (u382001) := (blk_cell BK381.out 1).trans rfl
       have hfs20 := blk_frozen BK381.out 1
       have hns20_0 := NB379_381.out
       have hns20_1 := NB380_381.out
       have hms20_0 := NB381_379.out
       have hms20_1 := NB381_380.out
       refine skip_ (w1 := ?_) (by rfl) rfl ?_ ?_
       rotate_left
       ·
        go_simp
        rfl
       refine hK.out _ _ ?_
       clear hK K
       refine done_ (done_of HT_.out (by kernel_rfl)) ?_
       try go_wp2
       go_roundg k1
       case measure => have := HK1.out; omega
       case rel => exact ⟨(wrap64 (x4_1 + 1)), (y384), (.slice Ao19 y384.length co19), zqQ, H', ⟨by have := HK1.out; omega⟩, ⟨by (with_reducible repeat (first | apply Kd.R_alloc | apply Kd.R_drewN | apply Kd.R_drew)); exact Kd.R_mono (Kd.R_far (p := ⟨gb381, 1, none⟩) (Kd.R_types HO386.out BK381.out (by decide)) (fun _ hk => hk.2) (.slice Ao19 y384.length co19)) (fun _ hk => trivial)⟩, ⟨by (with_reducible repeat (first | refine blk_drewN ?_ _ | refine blk_drew ?_ | refine blk_alloc ?_ _)); refine blk_far ?_ NB379_381.out _; (with_reducible repeat (first | refine blk_drewN ?_ _ | refine blk_drew ?_ | refine blk_alloc ?_ _)); exact BK379.out⟩, ⟨by (with_reducible repeat (first | refine blk_drewN ?_ _ | refine blk_drew ?_ | refine blk_alloc ?_ _)); refine blk_far ?_ NB380_381.out _; (with_reducible repeat (first | refine blk_drewN ?_ _ | refine blk_drew ?_ | refine blk_alloc ?_ _)); exact BK380.out⟩, ⟨by (with_reducible repeat (first | refine blk_drewN ?_ _ | refine blk_drew ?_ | refine blk_alloc ?_ _)); refine blk_put (cs := #[.int .i64 (Int.tmod (wrap64 (a0_0)) 8), u382001]) ?_ 1 _ rfl; (with_reducible repeat (first | refine blk_drewN ?_ _ | refine blk_drew ?_ | refine blk_alloc ?_ _)); exact BK381.out⟩, ⟨zqI HB.out GE379.out GE380.out GE381.out⟩⟩
      ·
       rw [if_neg c13] at H
       exact absurd H (by simp)
     ·
      rw [if_neg c12] at H
      exact absurd H (by simp)
    ·
     rw [if_neg c11] at H
     have c11b0 : decide (x4_1 < 7) = false := decide_eq_false c11
     clear c11
     simp only [Option.some.injEq, Prod.mk.injEq] at H
     obtain ⟨rfl, rfl⟩ := H
     have hnb21 := NB379_380.out
     have hnc21 := NB380_379.out
     have hnb22 := NB379_381.out
     have hnc22 := NB381_379.out
     have hcz23_0 : wr.cell? ⟨gb379, 0, none⟩ = some (.int .u8 a0_0) := (blk_cell BK379.out 0).trans rfl
     have hcz23_1 : wr.cell? ⟨gb379, 1, none⟩ = some (.slice A0_1 l0_1.length c0_1) := (blk_cell BK379.out 1).trans rfl
     have hfz23_0 := blk_frozen BK379.out 0
     have hfz23_1 := blk_frozen BK379.out 1
     have hnb24 := NB381_380.out
     have hnc24 := NB380_381.out
     have hcz25_0 : wr.cell? ⟨gb381, 0, none⟩ = some (.int .i64 (Int.tmod (wrap64 (a0_0)) 8)) := (blk_cell BK381.out 0).trans rfl
     have hcz25_1 : wr.cell? ⟨gb381, 1, none⟩ = some (u382001) := (blk_cell BK381.out 1).trans rfl
     have hfz25_0 := blk_frozen BK381.out 0
     have hfz25_1 := blk_frozen BK381.out 1
     have hcz26_0 : wr.cell? ⟨gb380, 0, none⟩ = some (.int .i64 0) := (blk_cell BK380.out 0).trans rfl
     have hcz26_1 : wr.cell? ⟨gb380, 1, none⟩ = some (.slice none 0 0) := (blk_cell BK380.out 1).trans rfl
     have hfz26_0 := blk_frozen BK380.out 0
     have hfz26_1 := blk_frozen BK380.out 1
     obtain ⟨Ao27, co27, eo27⟩ := Kd.R_slice HO_382001.out
     subst eo27
     go_wp2
     refine bodyPost_ret (results_cell_row rfl _ _ gb380 24 #[.int .i64 (Int.tmod (wrap64 (a0_0)) 8), .slice Ao27 x382001_1.length co27] (0, 0) _ rfl (by (with_reducible repeat (first | refine blk_drewN ?_ _ | refine blk_drew ?_ | refine blk_alloc ?_ _)); refine blk_put (cs := #[.int .i64 (Int.tmod (wrap64 (a0_0)) 8), .slice none 0 0]) ?_ 1 _ rfl; (with_reducible repeat (first | refine blk_drewN ?_ _ | refine blk_drew ?_ | refine blk_alloc ?_ _)); refine blk_put (cs := #[.int .i64 0, .slice none 0 0]) ?_ 0 _ rfl; (with_reducible repeat (first | refine blk_drewN ?_ _ | refine blk_drew ?_ | refine blk_alloc ?_ _)); exact BK380.out) Try.underlying24 rfl (by kernel_rfl)) rfl ?_
     exact ⟨_, zqR, by (with_reducible repeat (first | apply Kd.R_alloc | apply Kd.R_drewN | apply Kd.R_drew)); exact Kd.R_mono (Kd.R_far (p := ⟨gb380, 1, none⟩) (Kd.R_far (p := ⟨gb380, 0, none⟩) (Kd.R_types HO_382001.out BK380.out (by decide)) (fun _ hk => hk.2) (.int .i64 (Int.tmod (wrap64 (a0_0)) 8))) (fun _ hk => hk.2) (.slice Ao27 x382001_1.length co27)) (fun _ hk => trivial), zqI HB.out GE379.out GE380.out GE381.out⟩
   ·
    rw [if_neg c10] at H
    have c10b0 : decide (x4_1 < (l0_1.length : Int)) = false := decide_eq_false c10
    clear c10
    simp only [Option.some.injEq, Prod.mk.injEq] at H
    obtain ⟨rfl, rfl⟩ := H
    have hnb28 := NB379_380.out
    have hnc28 := NB380_379.out
    have hnb29 := NB379_381.out
    have hnc29 := NB381_379.out
    have hcz30_0 : wr.cell? ⟨gb379, 0, none⟩ = some (.int .u8 a0_0) := (blk_cell BK379.out 0).trans rfl
    have hcz30_1 : wr.cell? ⟨gb379, 1, none⟩ = some (.slice A0_1 l0_1.length c0_1) := (blk_cell BK379.out 1).trans rfl
    have hfz30_0 := blk_frozen BK379.out 0
    have hfz30_1 := blk_frozen BK379.out 1
    have hnb31 := NB381_380.out
    have hnc31 := NB380_381.out
    have hcz32_0 : wr.cell? ⟨gb381, 0, none⟩ = some (.int .i64 (Int.tmod (wrap64 (a0_0)) 8)) := (blk_cell BK381.out 0).trans rfl
    have hcz32_1 : wr.cell? ⟨gb381, 1, none⟩ = some (u382001) := (blk_cell BK381.out 1).trans rfl
    have hfz32_0 := blk_frozen BK381.out 0
    have hfz32_1 := blk_frozen BK381.out 1
    have hcz33_0 : wr.cell? ⟨gb380, 0, none⟩ = some (.int .i64 0) := (blk_cell BK380.out 0).trans rfl
    have hcz33_1 : wr.cell? ⟨gb380, 1, none⟩ = some (.slice none 0 0) := (blk_cell BK380.out 1).trans rfl
    have hfz33_0 := blk_frozen BK380.out 0
    have hfz33_1 := blk_frozen BK380.out 1
    obtain ⟨Ao34, co34, eo34⟩ := Kd.R_slice HO_382001.out
    subst eo34
    go_wp2
    refine bodyPost_ret (results_cell_row rfl _ _ gb380 24 #[.int .i64 (Int.tmod (wrap64 (a0_0)) 8), .slice Ao34 x382001_1.length co34] (0, 0) _ rfl (by (with_reducible repeat (first | refine blk_drewN ?_ _ | refine blk_drew ?_ | refine blk_alloc ?_ _)); refine blk_put (cs := #[.int .i64 (Int.tmod (wrap64 (a0_0)) 8), .slice none 0 0]) ?_ 1 _ rfl; (with_reducible repeat (first | refine blk_drewN ?_ _ | refine blk_drew ?_ | refine blk_alloc ?_ _)); refine blk_put (cs := #[.int .i64 0, .slice none 0 0]) ?_ 0 _ rfl; (with_reducible repeat (first | refine blk_drewN ?_ _ | refine blk_drew ?_ | refine blk_alloc ?_ _)); exact BK380.out) Try.underlying24 rfl (by kernel_rfl)) rfl ?_
    exact ⟨_, zqR, by (with_reducible repeat (first | apply Kd.R_alloc | apply Kd.R_drewN | apply Kd.R_drew)); exact Kd.R_mono (Kd.R_far (p := ⟨gb380, 1, none⟩) (Kd.R_far (p := ⟨gb380, 0, none⟩) (Kd.R_types HO_382001.out BK380.out (by decide)) (fun _ hk => hk.2) (.int .i64 (Int.tmod (wrap64 (a0_0)) 8))) (fun _ hk => hk.2) (.slice Ao34 x382001_1.length co34)) (fun _ hk => trivial), zqI HB.out GE379.out GE380.out GE381.out⟩
end Go.Proofs.Ytegffliopblajaa.P
end
section
namespace Go.Proofs.Ytegffliopblajaa.P
open Go.RowKit Go.Proofs.YtegffliopblajaaW.PrintWords Go.Proofs.YtegffliopblajaaW.PrintLast Go.Proofs.YtegffliopblajaaW.PrintMore
set_option linter.unusedVariables false
set_option linter.unusedSimpArgs false
def latB (T : List (List Nat × List Nat)) : Nat → List Bool → List Nat → Bool
  | 0, _, R => R.isEmpty
  | n + 1, l, R => (readyT T l == R) && R.all fun i => latB T n (l.set i true) (R.erase i)
theorem fold_set {x : Nat × Tmp} : ∀ (R : List (Nat × Tmp)) (l : Array Bool), x ∈ R → (R.erase x).foldl (fun l y => l.setIfInBounds y.1 true) (l.setIfInBounds x.1 true) = R.foldl (fun l y => l.setIfInBounds y.1 true) l
  | [], l, h => by cases h
  | y :: R, l, h => by
    by_cases e : y = x
    · subst e
      rw [List.erase_cons_head]; rfl
    · have hx : x ∈ R := by
        rcases List.mem_cons.1 h with h | h
        · exact absurd h.symm e
        · exact h
      rw [List.erase_cons_tail (by simpa using e)]
      show (R.erase x).foldl _ ((l.setIfInBounds x.1 true).setIfInBounds y.1 true) = R.foldl _ (l.setIfInBounds y.1 true)
      rw [← fold_set R (l.setIfInBounds y.1 true) hx]
      congr 1
      by_cases c : x.1 = y.1
      · rw [c]
      · exact Array.setIfInBounds_comm _ _ c
theorem put_comm {a : Act} {m n : Tmp} {u v : Value} (h : m ≠ n) : (a.put (some m) u).put (some n) v = (a.put (some n) v).put (some m) u := by
  unfold Act.put
  dsimp only
  rw [Array.setIfInBounds_comm _ _ h]
def boxesA (g : Tmp → Nat) (R : List (Nat × Tmp)) (a : Act) : Act := R.foldl (fun a x => a.put (some x.2) (.pointer (some ⟨g x.2, 0, none⟩))) a
theorem boxesA_congr {g h : Tmp → Nat} : ∀ (R : List (Nat × Tmp)) (a : Act), (∀ x ∈ R, g x.2 = h x.2) → boxesA g R a = boxesA h R a
  | [], a, _ => rfl
  | x :: R, a, e => by
    show boxesA g R (a.put (some x.2) (.pointer (some ⟨g x.2, 0, none⟩))) = boxesA h R (a.put (some x.2) (.pointer (some ⟨h x.2, 0, none⟩)))
    rw [e x List.mem_cons_self]
    exact boxesA_congr R _ (fun y hy => e y (List.mem_cons_of_mem _ hy))
theorem fold_put {g : Tmp → Nat} {x : Nat × Tmp} : ∀ (R : List (Nat × Tmp)) (a : Act), x ∈ R → (R.map (·.2)).Nodup → boxesA g (R.erase x) (a.put (some x.2) (.pointer (some ⟨g x.2, 0, none⟩))) = boxesA g R a
  | [], a, h, _ => by cases h
  | y :: R, a, h, hn => by
    by_cases e : y = x
    · subst e
      rw [List.erase_cons_head]; rfl
    · have hx : x ∈ R := by
        rcases List.mem_cons.1 h with h | h
        · exact absurd h.symm e
        · exact h
      have hn' := List.nodup_cons.1 (show (y.2 :: R.map (·.2)).Nodup from hn)
      have hne : x.2 ≠ y.2 := fun c => hn'.1 (List.mem_map.2 ⟨x, hx, c⟩)
      rw [List.erase_cons_tail (by simpa using e)]
      show boxesA g (R.erase x) ((a.put (some x.2) _).put (some y.2) _) = boxesA g R (a.put (some y.2) _)
      rw [put_comm hne]
      exact fold_put R _ hx hn'.2
theorem erase_map {x : Nat × Tmp} : ∀ (R : List (Nat × Tmp)), x ∈ R → (R.map (·.1)).Nodup → (R.erase x).map (·.1) = (R.map (·.1)).erase x.1
  | [], h, _ => by cases h
  | y :: R, h, hn => by
    have hn' := List.nodup_cons.1 (show (y.1 :: R.map (·.1)).Nodup from hn)
    by_cases e : y = x
    · subst e
      rw [List.erase_cons_head]
      show R.map (·.1) = (y.1 :: R.map (·.1)).erase y.1
      rw [List.erase_cons_head]
    · have hx : x ∈ R := by
        rcases List.mem_cons.1 h with h | h
        · exact absurd h.symm e
        · exact h
      have hne : y.1 ≠ x.1 := fun c => hn'.1 (List.mem_map.2 ⟨x, hx, c.symm⟩)
      rw [List.erase_cons_tail (by simpa using e)]
      show y.1 :: (R.erase x).map (·.1) = (y.1 :: R.map (·.1)).erase x.1
      rw [List.erase_cons_tail (by simpa using hne), erase_map R hx hn'.2]
theorem erase_snd : ∀ (R : List (Nat × Tmp)), (R.map (·.2)).Nodup → ∀ x ∈ R, ∀ y ∈ R.erase x, y.2 ≠ x.2
  | [], _, x, hx, _, _ => by cases hx
  | z :: R, hn, x, hx, y, hy => by
    have hn' := List.nodup_cons.1 (show (z.2 :: R.map (·.2)).Nodup from hn)
    by_cases e : z = x
    · subst e
      rw [List.erase_cons_head] at hy
      exact fun c => hn'.1 (List.mem_map.2 ⟨y, hy, c⟩)
    · have hxR : x ∈ R := by
        rcases List.mem_cons.1 hx with h | h
        · exact absurd h.symm e
        · exact h
      rw [List.erase_cons_tail (by simpa using e)] at hy
      rcases List.mem_cons.1 hy with h | h
      · subst h
        exact fun c => hn'.1 (List.mem_map.2 ⟨x, hxR, c.symm⟩)
      · exact erase_snd R hn'.2 x hxR y h
theorem boxes_ {P : Program} {ops : Array Oper} {Q : Exit → Act → World → Prop} {md : Region.Mode} {S : World → Prop} {ds : List Nat} {T : Bool × List (List Nat × List Nat)} {cs : Array Value} {t : TypeId} (hT : rtab md ops = T) :
  ∀ (n : Nat) (R : List (Nat × Tmp)) (l : Array Bool) (a : Act) (w : World) (fuel : Nat), R.length = n → latB T.2 n l.toList (R.map (·.1)) = true → (R.map (·.1)).Nodup → (R.map (·.2)).Nodup →
   (∀ x ∈ R, ∃ oi, ops[x.1]? = some oi ∧ oi.dst = some x.2 ∧ (∀ y, Region.wanted oi y = true) ∧ ∀ (a : Act) w, (execOp a.eval oi).run P w = .ok (.value (.pointer (some ⟨w.heap.size, 0, none⟩))) (w.alloc (.cells cs t (0, 0)))) → (∀ x ∈ R, x.1 ∉ ds) → (∀ w', Below w.heap.size w w' → S w') →
   (∀ (g : Tmp → Nat) w', (∀ x ∈ R, w'.heap[g x.2]? = some (.cells cs t (0, 0)) ∧ w.heap.size ≤ g x.2) → (∀ x ∈ R, ∀ y ∈ R, x.2 ≠ y.2 → g x.2 ≠ g y.2) → Below w.heap.size w w' → S w' →
    wpAnyLast P md ops Q S ds fuel (R.foldl (fun l x => l.setIfInBounds x.1 true) l) (boxesA g R a) w') →
   wpAnyLast P md ops Q S ds (fuel + n) l a w
 | 0, R, l, a, w, fuel, hR, hlat, hn1, hn2, hop, hds, hS, go => by
  obtain rfl : R = [] := List.length_eq_zero_iff.1 hR
  exact go (fun _ => 0) w (fun x hx => by cases hx) (fun x hx => by cases hx) (Below.refl _ _) (hS w (Below.refl _ _))
 | n + 1, R, l, a, w, fuel, hR, hlat, hn1, hn2, hop, hds, hS, go => by
  simp only [latB, Bool.and_eq_true] at hlat
  obtain ⟨h1, h2⟩ := hlat
  have hne : R.map (·.1) ≠ [] := fun e => by
   have := congrArg List.length e
   rw [List.length_map, List.length_nil] at this
   omega
  refine wpAnyLast_ready (rs := R.map (·.1)) (by subst hT; rw [ready_eq]; simpa using h1) hne (fun i hi => ?_)
  obtain ⟨x, hx, rfl⟩ := List.mem_map.1 hi
  obtain ⟨oi, ho, hd, hw, hrun⟩ := hop x hx
  refine AllReadyL.cons (rs := []) ho (hds x hx) (fun K hK => ?_) AllReadyL.nil x.1 (by simp)
  refine box_step (hw _) hd (hrun a w) (fun g0 hg0 w1 hbox hb => ?_)
  have hsz : w.heap.size < w1.heap.size := by subst hg0; exact (Array.getElem?_eq_some_iff.1 hbox).1
  have tr : ∀ {w'}, Below w1.heap.size w1 w' → Below w.heap.size w w' := fun h => hb.trans (h.mono (by omega))
  refine hK _ _ (hS w1 hb) (fun _ => ?_)
  have hl2 := List.all_eq_true.1 h2 x.1 hi
  rw [← erase_map R hx hn1] at hl2
  refine boxes_ hT n (R.erase x) (l.setIfInBounds x.1 true) (a.put oi.dst (.pointer (some ⟨g0, 0, none⟩))) w1 fuel (by rw [List.length_erase_of_mem hx]; omega) (by simpa using hl2) (hn1.sublist ((List.erase_sublist).map _)) (hn2.sublist ((List.erase_sublist).map _)) (fun y hy => hop y (List.mem_of_mem_erase hy)) (fun y hy => hds y (List.mem_of_mem_erase hy)) (fun w' h => hS w' (tr h)) (fun g w' f1 f2 f3 f4 => ?_)
  obtain ⟨G, hGx, hG⟩ : ∃ G : Tmp → Nat, G x.2 = g0 ∧ ∀ y ∈ R.erase x, G y.2 = g y.2 := ⟨fun m => if m = x.2 then g0 else g m, if_pos rfl, fun y hy => if_neg (erase_snd R hn2 x hx y hy)⟩
  have mem : ∀ y ∈ R, y = x ∨ y ∈ R.erase x := fun y hy => by
   by_cases c : y = x
   ·
    exact .inl c
   ·
    exact .inr ((List.mem_erase_of_ne c).2 hy)
  have := go G w' (fun y hy => by
    rcases mem y hy with rfl | hy
    ·
     rw [hGx]; exact ⟨blk_keep hbox f3, by omega⟩
    ·
     rw [hG y hy]
     have := f1 y hy
     exact ⟨this.1, by omega⟩) (fun y hy z hz hyz => by
    rcases mem y hy with rfl | hy
    ·
     rcases mem z hz with rfl | hz
     ·
      exact absurd rfl hyz
     ·
      rw [hGx, hG z hz]
      have := (f1 z hz).2
      omega
    ·
     rcases mem z hz with rfl | hz
     ·
      rw [hGx, hG y hy]
      have := (f1 y hy).2
      omega
     ·
      rw [hG y hy, hG z hz]
      exact f2 y hy z hz hyz) (tr f3) f4
  rw [fold_set R l hx]
  rw [hd]
  rw [← fold_put (g := G) R a hx hn2, boxesA_congr (R.erase x) _ hG, hGx] at this
  exact this
end Go.Proofs.Ytegffliopblajaa.P
end
section
namespace Go.Proofs.Ytegffliopblajaa.P
open Go.RowKit Go.Proofs.YtegffliopblajaaW.PrintWords Go.Proofs.YtegffliopblajaaW.PrintLast Go.Proofs.YtegffliopblajaaW.PrintMore
attribute [local go_sem] max2_int min2_int max_two min_two max_three min_three max_four min_four
set_option linter.unusedVariables false
set_option linter.unusedSimpArgs false
def pianolalaw03_PunchMore.l0 : Nat → Int → Int → List Int → Int → Int → List (S47) → Int → Int → Int → List (S47) → Int → List (S47) → Int → List (S47) → Int → List (S47) → Int → List (S47) → Option (Bool)
  | 0, _, _, _, _, _, _, _, _, _, _, _, _, _, _, _, _, _, _ => none
  | k + 1, x3, x4, x12, x13, x14, x77, x78, x79, x118000, x118001, x124000, x124001, x125000, x125001, x126000, x126001, x127000, x127001 => if x79 < x78 then (if 0 ≤ x79 then (if x79 < (x77.length : Int) then (if (x118001.length : Int) = 0 then (none) else (if 0 ≤ (Int.tmod (wrap64 (x79 + (wrap64 (x4)))) (x118001.length : Int)) then (if (Int.tmod (wrap64 (x79 + (wrap64 (x4)))) (x118001.length : Int)) < (x118001.length : Int) then ((some (([(⟨(rd_T47 x118001 (Int.tmod (wrap64 (x79 + (wrap64 (x4)))) (x118001.length : Int))).f0, (rd_T47 x118001 (Int.tmod (wrap64 (x79 + (wrap64 (x4)))) (x118001.length : Int))).f1⟩ : S47)] : List (S47)) : List (S47))).bind fun y142 => (if x126001.length + y142.length < 8796093022208 then ((some (([(⟨wrap64 (((rd_T47 x77 x79).f0) + (wrap64 (x3))), wrap64 (((rd_T47 x77 x79).f1) + (wrap64 (x3)))⟩ : S47)] : List (S47)) : List (S47))).bind fun y148 => (if x127001.length + y148.length < 8796093022208 then (pianolalaw03_PunchMore.l0 k x3 x4 x12 x13 x14 x77 x78 (wrap64 (x79 + 1)) x118000 x118001 x124000 x124001 x125000 x125001 x126000 (x126001 ++ y142) x127000 (x127001 ++ y148)) else (none))) else (none))) else (none)) else (none))) else (none)) else (none)) else ((punch_Passes.f x124000 x124001).bind fun bt154 => ((punch_Passes.f x125000 x125001).bind fun bt159 => ((punch_Passes.f x126000 x126001).bind fun bt164 => ((punch_Passes.f x127000 x127001).bind fun bt169 => (if x14 = 0 then (if bt154.2.2 = 0 then (if bt159.2.2 = 0 then (if bt164.2.2 = 0 then (if bt169.2.2 = 0 then (if bt154.2.1 ≥ x13 then (if bt154.2.1 ≤ (wrap64 (x13 + 1)) then (if bt159.2.1 ≥ x13 then (if bt164.2.1 = x13 then (if bt169.2.1 = x13 then ((pianolalaw03_numbers.f k x12 bt169.1).bind fun t174 => (if t174 = true then ((pianolalaw03_works.f).bind fun t175 => (some t175)) else (some false))) else (some false)) else (some false)) else (some false)) else (some false)) else (some false)) else (some false)) else (some false)) else (some false)) else (some false)) else (some false))))))
def pianolalaw03_PunchMore.f (k : Nat) (a0_0 : Int) (l0_1 : List (S82)) (a1_0 : Int) (a1_1 : Int) (a2 : Int) (a3 : Int) (a4 : Int) : Option (Bool) := (pianolalaw03_Lane_made.f k a0_0 l0_1).bind fun bt113 => ((punch_Passes.f bt113.1 bt113.2).bind fun bt118 => ((some (([] : List (S47)) : List (S47))).bind fun y127 => (if y127.length + bt113.2.length < 8796093022208 then ((some (y127 ++ bt113.2 : List (S47))).bind fun y130 => ((some (([(⟨Int.tmod (wrap64 (a1_0)) 40, wrap64 ((wrap64 ((Int.tmod (wrap64 (a1_0)) 40) + 1)) + (Int.tmod (wrap64 (a1_1)) 12))⟩ : S47)] : List (S47)) : List (S47))).bind fun y133 => (if y130.length + y133.length < 8796093022208 then (pianolalaw03_PunchMore.l0 k a3 a4 bt118.1 bt118.2.1 bt118.2.2 bt113.2 (bt113.2.length : Int) 0 bt113.1 bt113.2 bt113.1 (y130 ++ y133) (wrap64 (bt113.1 + (wrap64 (a2)))) bt113.2 bt113.1 ([] : List (S47)) bt113.1 ([] : List (S47))) else (none)))) else (none))))
def pianolalaw03_PunchMore.T4 : Bool × List (List Nat × List Nat) := (true, [([], []), ([], []), ([], []), ([2], [2]), ([3], [3]), ([], []), ([5], [5]), ([6], [6]), ([], []), ([], []), ([], []), ([], []), ([8, 0, 0, 8, 9, 10, 11], [0, 8]), ([9, 1, 12, 0, 1, 8, 9, 10, 11, 12], [1, 9]), ([10, 4, 13, 0, 1, 2, 3, 4, 8, 9, 10, 11, 12, 13], [4, 10]), ([11, 7, 14, 0, 1, 2, 3, 4, 5, 6, 7, 8, 9, 10, 11, 12, 13, 14], [7, 11])])
def pianolalaw03_PunchMore.B4 : List Nat := [0, 0, 0, 4, 12, 0, 32, 96, 0, 0, 0, 0, 3841, 7939, 16159, 32767]
theorem pianolalaw03_PunchMore.tab4 : rtab .any (opsOf Try.f10 4) = pianolalaw03_PunchMore.T4 := by kernel_rfl
theorem pianolalaw03_PunchMore.bits4 : waitsOk pianolalaw03_PunchMore.T4.2 pianolalaw03_PunchMore.B4 = true := by kernel_rfl
def pianolalaw03_PunchMore.T5 : Bool × List (List Nat × List Nat) := (true, [([], []), ([], []), ([1], [1]), ([0, 2], [0, 2]), ([], []), ([], []), ([5], [5]), ([], []), ([7], [7]), ([8], [8]), ([9], [9]), ([6, 10], [6, 10]), ([4, 11], [4, 11]), ([12], [12]), ([3, 13, 3], [3, 13]), ([0, 1, 2, 3, 4, 5, 6, 7, 8, 9, 10, 11, 12, 13, 14], []), ([15, 14, 14, 0, 1, 2, 3, 4, 5, 6, 7, 8, 9, 10, 11, 12, 13, 14], [14, 15])])
def pianolalaw03_PunchMore.B5 : List Nat := [0, 0, 2, 7, 0, 0, 32, 0, 128, 384, 896, 2016, 4080, 8176, 16383, 32767, 65535]
theorem pianolalaw03_PunchMore.tab5 : rtab .any (opsOf Try.f10 5) = pianolalaw03_PunchMore.T5 := by kernel_rfl
theorem pianolalaw03_PunchMore.bits5 : waitsOk pianolalaw03_PunchMore.T5.2 pianolalaw03_PunchMore.B5 = true := by kernel_rfl
def pianolalaw03_PunchMore.T10 : Bool × List (List Nat × List Nat) := (true, [([], []), ([0], [0]), ([], []), ([2], [2]), ([], []), ([], []), ([5], [5]), ([4, 6], [4, 6]), ([], []), ([8], [8]), ([9], [9]), ([7, 10], [7, 10]), ([3, 11], [3, 11]), ([12], [12]), ([13], [13]), ([1, 14], [1, 14]), ([0, 1, 2, 3, 4, 5, 6, 7, 8, 9, 10, 11, 12, 13, 14, 15], []), ([16, 15, 15, 0, 1, 2, 3, 4, 5, 6, 7, 8, 9, 10, 11, 12, 13, 14, 15], [15, 16])])
def pianolalaw03_PunchMore.B10 : List Nat := [0, 1, 0, 4, 0, 0, 32, 112, 0, 256, 768, 2032, 4092, 8188, 16380, 32767, 65535, 131071]
theorem pianolalaw03_PunchMore.tab10 : rtab .any (opsOf Try.f10 10) = pianolalaw03_PunchMore.T10 := by kernel_rfl
theorem pianolalaw03_PunchMore.bits10 : waitsOk pianolalaw03_PunchMore.T10.2 pianolalaw03_PunchMore.B10 = true := by kernel_rfl
end Go.Proofs.Ytegffliopblajaa.P
end
