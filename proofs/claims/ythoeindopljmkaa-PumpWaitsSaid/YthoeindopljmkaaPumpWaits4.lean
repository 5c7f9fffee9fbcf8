/- Words and contracts for a claim. -/
import Derived.Test.YthoeindopljmkaaPumpWaits3
import Derived.OpenShut
import Derived.Deep.Slices
import Derived.ChangeSame
section
namespace Go.Proofs.Ythoeindopljmkaa.P
open Go.ChangeShapes Go.WideShapes Go.Deep Go.RowKit Go.Proofs.YthoeindopljmkaaW.PrintWords
set_option maxRecDepth 100000
set_option linter.unusedVariables false
set_option linter.unusedSimpArgs false
theorem list_two {α : Type} {l : List α} (h : l.length = 2) : ∃ a b, l = [a, b] := by
  match l, h with
  | [a, b], _ => exact ⟨a, b, rfl⟩
theorem pair_u8 {H : Type} {enc : TypeId × Value → H} {w : World} {base : Nat} {spare : Nat → Bool} {held : Bool} {fuel : Nat} {cs : List Value} {x : DataW H × List MemPlace} (h : DataW.trod enc Try.prog w base spare held fuel 86 cs = some x) :
    ∃ a b : Int, cs = [.int .u8 a, .int .u8 b] ∧ (Lit.int .u8 a).wf = true ∧ (Lit.int .u8 b).wf = true ∧ x = (.agg [.lit (.int .u8 a), .lit (.int .u8 b)], []) := by
  obtain ⟨xs, m, _, hx, hcl, hxl, hg⟩ := DataW.trod_array Try.underlying86 h
  have hc : Try.prog.cellsOf 86 = 2 := by kernel_rfl
  have hc5 : Try.prog.cellsOf 5 = 1 := by kernel_rfl
  rw [hc] at hcl
  obtain ⟨c0, c1, rfl⟩ := list_two hcl
  obtain ⟨y0, y1, rfl⟩ := list_two hxl
  have h0 := hg 0 (by omega)
  have h1 := hg 1 (by omega)
  rw [hc5] at h0 h1
  obtain ⟨a, e0, z0, w0⟩ := DataW.trod_int Try.underlying5 (show DataW.trod enc Try.prog w base spare held m 5 [c0] = some y0 from h0)
  obtain ⟨b, e1, z1, w1⟩ := DataW.trod_int Try.underlying5 (show DataW.trod enc Try.prog w base spare held m 5 [c1] = some y1 from h1)
  injection e0 with e0
  injection e1 with e1
  subst e0 e1 z0 z1
  exact ⟨a, b, rfl, w0, w1, hx⟩
theorem open_bytes2_66 {H : Type} {enc : TypeId × Value → H} {w : World} {base : Nat} {spare : Nat → Bool} {held : Bool} {fuel : Nat} {A : Option Addr} {len cap : Nat} {x : DataW H × List MemPlace}
    (h : DataW.trod enc Try.prog w base spare held fuel 66 [.slice A len cap] = some x) :
    ∃ l : List S86, Kd.C k86 w A l.length l ∧ l.length = len ∧ l.length ≤ cap ∧ ∀ s ∈ l, (Lit.int .u8 s.f0).wf = true ∧ (Lit.int .u8 s.f1).wf = true := by
  have hc : Try.prog.cellsOf 86 = 2 := by kernel_rfl
  rcases open_slice Try.underlying66 h with ⟨hcs, _⟩ | ⟨a, len', cap', m, n, D, Pl, hcs, hb, hl, hm, hmm, hx, hi⟩
  · injection hcs with hcs _
    injection hcs with e1 e2 e3
    subst e1 e2 e3
    exact ⟨[], ⟨rfl, by simp, fun h => absurd h (by simp)⟩, rfl, Nat.le_refl _, fun _ h => by cases h⟩
  · injection hcs with hcs _
    injection hcs with e1 e2 e3
    subst e1 e2 e3
    have hlm : len ≤ m := by rw [hmm]; split <;> omega
    have each : ∀ i, i < len → ∃ s : S86, w.cell? (a.add (i * 2)) = some (.int .u8 s.f0) ∧ w.cell? (a.add (i * 2 + 1)) = some (.int .u8 s.f1) ∧ (Lit.int .u8 s.f0).wf = true ∧ (Lit.int .u8 s.f1).wf = true := by
      intro i hlt
      obtain ⟨cs', hcc, ht⟩ := hi i (by omega)
      rw [hc] at hcc
      obtain ⟨y0, y1, e, w0, w1, _⟩ := pair_u8 ht
      subst e
      obtain ⟨_, _, hat⟩ := World.cells?_some hcc
      have h0 := hat 0 (by omega)
      have h1 := hat 1 (by omega)
      rw [Go.Deep.add_add] at h0 h1
      exact ⟨⟨y0, y1⟩, h0, h1, w0, w1⟩
    obtain ⟨F, hF⟩ : ∃ F : Nat → S86, ∀ i, i < len → w.cell? (a.add (i * 2)) = some (.int .u8 (F i).f0) ∧ w.cell? (a.add (i * 2 + 1)) = some (.int .u8 (F i).f1) ∧ (Lit.int .u8 (F i).f0).wf = true ∧ (Lit.int .u8 (F i).f1).wf = true :=
      ⟨fun i => if h : i < len then Classical.choose (each i h) else z86, fun i h => by simp only [dif_pos h]; exact Classical.choose_spec (each i h)⟩
    have hlen : ((List.range len).map F).length = len := by simp
    refine ⟨(List.range len).map F, ?_, hlen, by rw [hlen]; exact hl, fun s hs => ?_⟩
    · rw [hlen]
      refine ⟨hlen, by unfold maxLen at hm; omega, fun _ => ⟨a, rfl, fun j p hp => ?_⟩⟩
      obtain ⟨hj, rfl⟩ := List.getElem?_eq_some_iff.1 hp
      have hF' := hF j (by simpa using hj)
      refine ⟨_, rfl, k86_mk w _, fun i u hu => ?_⟩
      simp only [List.getElem_map, List.getElem_range] at hu
      show w.cell? (a.add (j * 2 + i)) = _
      match i, hu with
      | 0, hu => cases hu; exact hF'.1
      | 1, hu => cases hu; exact hF'.2.1
      | _ + 2, hu => simp at hu
    · obtain ⟨i, hi, rfl⟩ := List.mem_map.1 hs
      exact (hF i (List.mem_range.1 hi)).2.2
end Go.Proofs.Ythoeindopljmkaa.P
end
section
namespace Go.Proofs.Ythoeindopljmkaa.P
open Go.ChangeShapes Go.WideShapes Go.Deep Go.RowKit Go.Proofs.YthoeindopljmkaaW.PrintWords
set_option maxRecDepth 100000
set_option linter.unusedVariables false
set_option linter.unusedSimpArgs false
theorem list_three {α : Type} {l : List α} (h : l.length = 3) : ∃ a b c, l = [a, b, c] := by
  match l, h with
  | [a, b, c], _ => exact ⟨a, b, c, rfl⟩
theorem list_six {α : Type} {l : List α} (h : l.length = 6) : ∃ a b c d e f, l = [a, b, c, d, e, f] := by
  match l, h with
  | [a, b, c, d, e, f], _ => exact ⟨a, b, c, d, e, f, rfl⟩
def U8f (l : List S86) : Prop := ∀ s ∈ l, (Lit.int .u8 s.f0).wf = true ∧ (Lit.int .u8 s.f1).wf = true
section
variable {H : Type} {enc : TypeId × Value → H} {w : World} {base : Nat} {spare : Nat → Bool} {held : Bool}
theorem open_66 {m : Nat} {u : Value} {x : DataW H × List MemPlace} (h : DataW.trod enc Try.prog w base spare held m 66 [u] = some x) :
    ∃ A c, ∃ l : List S86, u = .slice A l.length c ∧ Kd.C k86 w A l.length l ∧ l.length ≤ c ∧ U8f l := by
  rcases DataW.trod_slice Try.underlying66 h with ⟨e, _⟩ | ⟨a, len, cap, _, _, _, _, e, _⟩
  · injection e with e
    subst e
    exact ⟨none, 0, [], rfl, ⟨rfl, by simp, fun h => absurd h (by simp)⟩, Nat.le_refl _, fun _ h => by cases h⟩
  · injection e with e
    subst e
    obtain ⟨l, h1, rfl, h3, h4⟩ := open_bytes2_66 h
    exact ⟨some a, cap, l, rfl, h1, h3, h4⟩
theorem open_76 {m : Nat} {u v : Value} {x : DataW H × List MemPlace} (h : DataW.trod enc Try.prog w base spare held m 76 [u, v] = some x) :
    ∃ n y z, DataW.trod enc Try.prog w base spare held n 66 [u] = some y ∧ DataW.trod enc Try.prog w base spare held n 66 [v] = some z := by
  obtain ⟨xs, n, _, _, hcl, hxl, hg⟩ := DataW.trod_array Try.underlying76 h
  have c66 : Try.prog.cellsOf 66 = 1 := by kernel_rfl
  obtain ⟨y, z, rfl⟩ := list_two hxl
  have h0 := hg 0 (by omega)
  have h1 := hg 1 (by omega)
  rw [c66] at h0 h1
  exact ⟨n, y, z, h0, h1⟩
theorem open_77 {m : Nat} {u v : Value} {x : DataW H × List MemPlace} (h : DataW.trod enc Try.prog w base spare held m 77 [u, v] = some x) :
    ∃ a b : Bool, u = .bool a ∧ v = .bool b := by
  obtain ⟨xs, n, _, _, hcl, hxl, hg⟩ := DataW.trod_array Try.underlying77 h
  have c4 : Try.prog.cellsOf 4 = 1 := by kernel_rfl
  obtain ⟨y, z, rfl⟩ := list_two hxl
  have h0 := hg 0 (by omega)
  have h1 := hg 1 (by omega)
  rw [c4] at h0 h1
  have g0 : DataW.trod enc Try.prog w base spare held n 4 [u] = some y := h0
  have g1 : DataW.trod enc Try.prog w base spare held n 4 [v] = some z := h1
  obtain ⟨a, ha, _⟩ := DataW.trod_bool Try.underlying4 g0
  obtain ⟨b, hb, _⟩ := DataW.trod_bool Try.underlying4 g1
  injection ha with ha
  injection hb with hb
  exact ⟨a, b, ha, hb⟩
theorem open_engine {r : Reach} {b0 : Nat} {v : Value} {d : DataW H} {p : List MemPlace} (hv : Value.okWide Try.prog w r b0 79 v) (h : DataW.Trod enc Try.prog w base spare held 79 v d p) :
    ∃ A0 c0, ∃ l0 : List S86, ∃ A1 c1, ∃ l1 : List S86, ∃ A2 c2, ∃ l2 : List S86, ∃ A3 c3, ∃ l3 : List S86, ∃ t u : Bool, v = .agg #[.slice A0 l0.length c0, .slice A1 l1.length c1, .slice A2 l2.length c2, .slice A3 l3.length c3, .bool t, .bool u] ∧
      (Kd.C k86 w A0 l0.length l0 ∧ l0.length ≤ c0) ∧ (Kd.C k86 w A1 l1.length l1 ∧ l1.length ≤ c1) ∧ (Kd.C k86 w A2 l2.length l2 ∧ l2.length ≤ c2) ∧ (Kd.C k86 w A3 l3.length l3 ∧ l3.length ≤ c3) ∧ U8f l0 ∧ U8f l1 ∧ U8f l2 ∧ U8f l3 := by
  simp only [Value.okWide, Try.underlying79] at hv
  obtain ⟨cs, rfl, h2, _⟩ := hv
  obtain ⟨fuel, hf⟩ := h
  obtain ⟨xs, m, _, hx, hcl, hxl, hg⟩ := DataW.trod_struct Try.underlying79 hf
  have c79 : Try.prog.cellsOf 79 = 6 := by kernel_rfl
  have c76 : Try.prog.cellsOf 76 = 2 := by kernel_rfl
  have c77 : Try.prog.cellsOf 77 = 2 := by kernel_rfl
  rw [c79] at h2 hcl
  obtain ⟨l⟩ := cs
  obtain ⟨v0, v1, v2, v3, v4, v5, rfl⟩ := list_six (show l.length = 6 from h2)
  obtain ⟨y0, y1, y2, rfl⟩ := list_three (show xs.length = 3 from hxl)
  have g0 : DataW.trod enc Try.prog w base spare held m 76 (([v0, v1, v2, v3, v4, v5].drop 0).take (Try.prog.cellsOf 76)) = some y0 := hg 0 _ rfl
  have g1 : DataW.trod enc Try.prog w base spare held m 76 (([v0, v1, v2, v3, v4, v5].drop 2).take (Try.prog.cellsOf 76)) = some y1 := hg 1 _ rfl
  have g2 : DataW.trod enc Try.prog w base spare held m 77 (([v0, v1, v2, v3, v4, v5].drop 4).take (Try.prog.cellsOf 77)) = some y2 := hg 2 _ rfl
  rw [c76] at g0 g1
  rw [c77] at g2
  obtain ⟨_, _, _, a0, a1⟩ := open_76 (show DataW.trod enc Try.prog w base spare held m 76 [v0, v1] = some y0 from g0)
  obtain ⟨_, _, _, a2, a3⟩ := open_76 (show DataW.trod enc Try.prog w base spare held m 76 [v2, v3] = some y1 from g1)
  obtain ⟨t, u, rfl, rfl⟩ := open_77 (show DataW.trod enc Try.prog w base spare held m 77 [v4, v5] = some y2 from g2)
  obtain ⟨A0, c0, l0, rfl, p0, q0, u0⟩ := open_66 a0
  obtain ⟨A1, c1, l1, rfl, p1, q1, u1⟩ := open_66 a1
  obtain ⟨A2, c2, l2, rfl, p2, q2, u2⟩ := open_66 a2
  obtain ⟨A3, c3, l3, rfl, p3, q3, u3⟩ := open_66 a3
  exact ⟨A0, c0, l0, A1, c1, l1, A2, c2, l2, A3, c3, l3, t, u, rfl, ⟨p0, q0⟩, ⟨p1, q1⟩, ⟨p2, q2⟩, ⟨p3, q3⟩, u0, u1, u2, u3⟩
end
end Go.Proofs.Ythoeindopljmkaa.P
end
section
open List (setIfInBounds_toArray set_cons_zero set_cons_succ)
section
namespace Go.Proofs.Ythoeindopljmkaa.P
open Go.RowKit Go.Proofs.YthoeindopljmkaaW.PrintWords Go.Proofs.YthoeindopljmkaaW.PrintLast Go.Proofs.YthoeindopljmkaaW.PrintMore
attribute [local go_sem] max2_int min2_int max_two min_two max_three min_three max_four min_four
set_option linter.unusedVariables false
set_option linter.unusedSimpArgs false
mutual
def pianolalaw04_Set_made.l0 : Nat → List (S86) → List (S71) → Int → Option ((List (S71)))
  | 0, _, _, _ => none
  | k + 1, x0, x3, x4 => if x4 < (x0.length : Int) then (pianolalaw04_Set_made.j1 k x0 x3 x4 (decide (x4 < 3))) else (pianolalaw04_Set_made.j1 k x0 x3 x4 false)
def pianolalaw04_Set_made.j1 : Nat → List (S86) → List (S71) → Int → Bool → Option ((List (S71)))
  | 0, _, _, _, _ => none
  | k + 1, x0, x3, x4, x15 => if x15 = true then (if 0 ≤ x4 then (if x4 < (x0.length : Int) then (if x4 = 0 then (if 0 < (x3.length : Int) then (pianolalaw04_Set_made.l0 k x0 (x3.set (0 : Int).toNat (⟨wrap64 (1 + (Int.tmod (wrap64 ((rd_T86 x0 x4).f0)) 4)), Int.tmod (wrap64 ((rd_T86 x0 x4).f1)) 6⟩ : S71)) (wrap64 (x4 + 1))) else (none)) else (if x3.length < 8796093022208 then (pianolalaw04_Set_made.l0 k x0 (x3 ++ [(⟨wrap64 (1 + (Int.tmod (wrap64 ((rd_T86 x0 x4).f0)) 4)), Int.tmod (wrap64 ((rd_T86 x0 x4).f1)) 6⟩ : S71)]) (wrap64 (x4 + 1))) else (none))) else (none)) else (none)) else (some x3)
end
def pianolalaw04_Set_made.f (k : Nat) (l0 : List (S86)) : Option ((List (S71))) := pianolalaw04_Set_made.l0 k l0 (([(⟨2, 3⟩ : S71)] : List (S71))) 0
theorem pianolalaw04_Set_made.mono_l : ∀ k, (∀ y0 y1 y2, LeO (pianolalaw04_Set_made.l0 k y0 y1 y2) (pianolalaw04_Set_made.l0 (k + 1) y0 y1 y2)) ∧ (∀ y0 y1 y2 y3, LeO (pianolalaw04_Set_made.j1 k y0 y1 y2 y3) (pianolalaw04_Set_made.j1 (k + 1) y0 y1 y2 y3))
  | 0 => ⟨fun _ _ _ r h => by simp [pianolalaw04_Set_made.l0] at h, fun _ _ _ _ r h => by simp [pianolalaw04_Set_made.j1] at h⟩
  | k + 1 => by
    obtain ⟨ih0, ih1⟩ := pianolalaw04_Set_made.mono_l k
    refine ⟨?_, ?_⟩
    · intro y0 y1 y2
      unfold pianolalaw04_Set_made.l0
      repeat' first
      | (with_reducible exact ih0 _ _ _)
      | (with_reducible exact ih1 _ _ _ _)
      | (with_reducible exact LeO.refl _)
      | (with_reducible exact LeO.none _)
      | (with_reducible refine LeO.ite ?_ ?_)
      | (with_reducible refine LeO.bind ?_ (fun _ => ?_))
      | exact ih0 _ _ _
      | exact ih1 _ _ _ _
      | exact LeO.none _
      | refine LeO.ite ?_ ?_
      | refine LeO.bind ?_ (fun _ => ?_)
    · intro y0 y1 y2 y3
      unfold pianolalaw04_Set_made.j1
      repeat' first
      | (with_reducible exact ih0 _ _ _)
      | (with_reducible exact ih1 _ _ _ _)
      | (with_reducible exact LeO.refl _)
      | (with_reducible exact LeO.none _)
      | (with_reducible refine LeO.ite ?_ ?_)
      | (with_reducible refine LeO.bind ?_ (fun _ => ?_))
      | exact ih0 _ _ _
      | exact ih1 _ _ _ _
      | exact LeO.none _
      | refine LeO.ite ?_ ?_
      | refine LeO.bind ?_ (fun _ => ?_)
theorem pianolalaw04_Set_made.mono : ∀ a0 k, LeO (pianolalaw04_Set_made.f k a0) (pianolalaw04_Set_made.f (k + 1) a0) := by
  intro a0 k
  obtain ⟨ih0, ih1⟩ := pianolalaw04_Set_made.mono_l k
  unfold pianolalaw04_Set_made.f
  repeat' first
      | (with_reducible exact ih0 _ _ _)
      | (with_reducible exact ih1 _ _ _ _)
      | (with_reducible exact LeO.refl _)
      | (with_reducible exact LeO.none _)
      | (with_reducible refine LeO.ite ?_ ?_)
      | (with_reducible refine LeO.bind ?_ (fun _ => ?_))
      | exact ih0 _ _ _
      | exact ih1 _ _ _ _
      | exact LeO.none _
      | refine LeO.ite ?_ ?_
      | refine LeO.bind ?_ (fun _ => ?_)
def pianolalaw04_Set_made.T5 : Bool × List (List Nat × List Nat) := (true, [([], []), ([], []), ([0, 1], [0, 1]), ([2], [2]), ([3], [3]), ([4], [4]), ([5], [5]), ([6], [6]), ([], []), ([], []), ([8, 9], [8, 9]), ([10], [10]), ([11], [11]), ([12], [12]), ([13], [13]), ([7, 14], [7, 14]), ([], []), ([16, 15, 0, 1, 2, 3, 4, 5, 6, 7, 8, 9, 10, 11, 12, 13, 14, 15, 16], [15, 16])])
def pianolalaw04_Set_made.B5 : List Nat := [0, 0, 3, 7, 15, 31, 63, 127, 0, 0, 768, 1792, 3840, 7936, 16128, 32767, 0, 131071]
theorem pianolalaw04_Set_made.tab5 : rtab .any (opsOf Try.f40 5) = pianolalaw04_Set_made.T5 := by kernel_rfl
theorem pianolalaw04_Set_made.bits5 : waitsOk pianolalaw04_Set_made.T5.2 pianolalaw04_Set_made.B5 = true := by kernel_rfl
set_option maxHeartbeats 8000000 in
set_option maxRecDepth 100000 in
theorem pianolalaw04_Set_made.calls (k : Nat) (A0 : Option Addr) (c0 : Nat) (l0 : List (S86)) (r : List (S71)) (w : World) (hr0 : Kd.C k86 w A0 l0.length l0) (hc0 : l0.length ≤ c0) (h : pianolalaw04_Set_made.f k l0 = some r) :
  Calls Try.prog 40 #[.slice A0 l0.length c0] w fun e w' => ∃ v0_ : Value, e = .returned (v0_) ∧ Kd.R k71 71 w' w.heap.size (fun _ => True) v0_ r ∧ Below w.heap.size w w' := by
 have hu71 := Try.underlying71
 have HR0 := zA hr0
 have HC0 := zA hc0
 clear hr0 hc0
 have HB := zA (Below.refl w.heap.size w)
 have H : (pianolalaw04_Set_made.l0 k l0 (([(⟨2, 3⟩ : S71)] : List (S71))) 0) = some r := h
 clear h
 obtain ⟨y453, hy453⟩ : ∃ y_ : List (S71), y_ = (([(⟨2, 3⟩ : S71)] : List (S71))) := ⟨_, rfl⟩
 replace H : (pianolalaw04_Set_made.l0 k l0 y453 0) = some r := zqF hy453 H
 have Ny453 := zA hy453
 clear hy453
 have H' := zA H
 clear H
 go_enter Try.func40, Try.ntmps40
 go_wp2_with (first | ((with_reducible refine gate_dst (N := 7) rfl ?_); refine Kd.R_lit k71 _ 71 ?hg (N := 7) ?hd (xs := ([(⟨2, 3⟩ : S71)] : List (S71))) (inner := [.int .i64 2, .int .i64 3]) (ok := fun _ => True) (okp := fun _ => True) ?hr ?hp (fun _ hk => hk) trivial (Below.refl _ _) (Nat.le_refl _) (by simp) ?_; (case hd => rfl); (case hg => rfl); (case hr => first | (go_simp; done) | (go_simp; rfl)); (case hp => exact (Reps.c2 (show Kd.M k71 _ _ _ (⟨2, 3⟩ : S71) [.int .i64 2, .int .i64 3] from (k71_mkM _ _ _ (⟨2, 3⟩ : S71) )) (Reps.none _ _))); intro v454 w2 ho3 hb hg_ hnew_; clear hg_ hnew_; (first | rw [← Ny453.out] at ho3 | (simp only [Int.reduceToNat] at ho3; rw [← Ny453.out] at ho3)); have n0_ := zA (Kd.R_lower ho3 (below_size (zqA HB.out))); have n1_ := zA (below_step (zqA HB.out) hb); clear HB; have HO455 := n0_; have HB := n1_; clear n0_ n1_; clear hb ho3))
 go_loopg [3, 4] k (fun kq v3 v4 w' => ∃ (x3_1 : List (S71)) (x4_1 : Int), v4 = .int .i64 x4_1 ∧ Aside0 (pianolalaw04_Set_made.l0 kq l0 x3_1 x4_1 = some r) ∧ Aside0 (kq ≤ k) ∧ Aside0 (Kd.R k71 71 w' w.heap.size (fun _ => True) v3 x3_1) ∧ Aside0 (Below w.heap.size w w'))
 case atStart => exact ⟨(y453), (0), zqQ, H', ⟨Nat.le_refl _⟩, ⟨zqC HO455.out⟩, ⟨zqA HB.out⟩⟩
 case round =>
  clear H'
  try clear c2
  try clear p2
  obtain ⟨x3_1, x4_1, rfl, HA, HK1, HO_3, HB⟩ := hrel
  cases gk with
  | zero => exact absurd HA.out (by simp [pianolalaw04_Set_made.l0])
  | succ k1 =>
   have H := HA.out
   clear HA
   simp only [pianolalaw04_Set_made.l0] at H
   have HC4 := zA H
   clear H
   go_upto_region 3 with (fail)
   go_cut [15] (fun v15 wc => ∃ (kq : Nat) (x15_3 : Bool), v15 = .bool x15_3 ∧ Aside0 (pianolalaw04_Set_made.j1 kq l0 x3_1 x4_1 x15_3 = some r) ∧ Aside0 (kq ≤ k1) ∧ Aside0 (Kd.R k71 71 wc w.heap.size (fun _ => True) u3 x3_1) ∧ Aside0 (Below w.heap.size w wc))
   case first =>
    have H := HC4.out
    clear HC4
    by_cases c5 : x4_1 < (l0.length : Int)
    ·
     rw [if_pos c5] at H
     have c5b0 : decide (x4_1 < (l0.length : Int)) = true := decide_eq_true c5
     clear c5
     (first | rw [c5b0] | (simp only [i64_w, i32_w]; rw [c5b0]) | skip)
     have H' := zA H
     clear H
     go_wp2
     go_meet
     case rel => exact ⟨_, (decide (x4_1 < 3)), zqQ, H', ⟨by have := HK1.out; first | omega | exact Nat.le_refl _⟩, ⟨zqC HO_3.out⟩, ⟨zqA HB.out⟩⟩
    ·
     rw [if_neg c5] at H
     have c5b0 : decide (x4_1 < (l0.length : Int)) = false := decide_eq_false c5
     clear c5
     (first | rw [c5b0] | (simp only [i64_w, i32_w]; rw [c5b0]) | skip)
     have H' := zA H
     clear H
     go_wp2
     go_meet
     case rel => exact ⟨_, (false), zqQ, H', ⟨by have := HK1.out; first | omega | exact Nat.le_refl _⟩, ⟨zqC HO_3.out⟩, ⟨zqA HB.out⟩⟩
   case rest =>
    clear HC4
    try clear c2
    try clear p2
    try clear c4
    try clear c5
    try clear c5b0
    try clear p2
    obtain ⟨kq, x15_3, rfl, HA, HJ3, HO_3, HB⟩ := hcut
    cases kq with
    | zero => exact absurd HA.out (by simp [pianolalaw04_Set_made.j1])
    | succ kj3 =>
     have H := HA.out
     clear HA
     simp only [pianolalaw04_Set_made.j1] at H
     by_cases c6 : x15_3 = true
     ·
      subst c6
      have H1 : (if 0 ≤ x4_1 then (if x4_1 < (l0.length : Int) then (if x4_1 = 0 then (if 0 < (x3_1.length : Int) then (pianolalaw04_Set_made.l0 kj3 l0 (x3_1.set (0 : Int).toNat (⟨wrap64 (1 + (Int.tmod (wrap64 ((rd_T86 l0 x4_1).f0)) 4)), Int.tmod (wrap64 ((rd_T86 l0 x4_1).f1)) 6⟩ : S71)) (wrap64 (x4_1 + 1))) else (none)) else (if x3_1.length < 8796093022208 then (pianolalaw04_Set_made.l0 kj3 l0 (x3_1 ++ [(⟨wrap64 (1 + (Int.tmod (wrap64 ((rd_T86 l0 x4_1).f0)) 4)), Int.tmod (wrap64 ((rd_T86 l0 x4_1).f1)) 6⟩ : S71)]) (wrap64 (x4_1 + 1))) else (none))) else (none)) else (none)) = some r := by rw [if_pos rfl] at H; exact H
      clear H; have H := H1; clear H1
      by_cases c7 : 0 ≤ x4_1
      ·
       rw [if_pos c7] at H
       have c7b0 : decide (0 ≤ x4_1) = true := decide_eq_true c7
       clear c7
       by_cases c8 : x4_1 < (l0.length : Int)
       ·
        rw [if_pos c8] at H
        have c8b0 : decide (x4_1 < (l0.length : Int)) = true := decide_eq_true c8
        clear c8
        by_cases c9 : x4_1 = 0
        ·
         rw [if_pos c9] at H
         have c9b0 : (x4_1 == 0) = true := beq_iff_eq.mpr c9
         have c9b1 : (x4_1 != 0) = false := bne_eq_false_iff_eq.mpr c9
         clear c9
         by_cases c10 : 0 < (x3_1.length : Int)
         ·
          rw [if_pos c10] at H
          have c10b0 : decide (0 < (x3_1.length : Int)) = true := decide_eq_true c10
          have c10b1 : decide (0 < x3_1.length) = true := decide_eq_true (by omega)
          clear c10
          obtain ⟨y459, hy459⟩ : ∃ y_ : List (S71), y_ = (x3_1.set (0 : Int).toNat (⟨wrap64 (1 + (Int.tmod (wrap64 ((rd_T86 l0 x4_1).f0)) 4)), Int.tmod (wrap64 ((rd_T86 l0 x4_1).f1)) 6⟩ : S71)) := ⟨_, rfl⟩
          replace H : (pianolalaw04_Set_made.l0 kj3 l0 y459 (wrap64 (x4_1 + 1))) = some r := zqF hy459 H
          have Ny459 := zA hy459
          clear hy459
          have H' := zA H
          clear H
          try go_wp2
          have n0_ := zA (Kd.R_drew HO_3.out); have n1_ := zA (below_drew1 HB.out); clear HO_3 HB; have HO_3 := n0_; have HB := n1_; clear n0_ n1_
          have p456 : 0 ≤ (x4_1 : Int) := of_decide_eq_true (zqD)
          have q456 : x4_1 < (l0.length : Int) := of_decide_eq_true (zqD)
          obtain ⟨ad456, e456, hx456_0, hx456_1⟩ := at_T86 HR0.out x4_1 p456 q456
          have hw456_1 := hx456_1; have hw456_0 := hx456_0; cases e456
          replace hx456_0 := (HB.out.cell (World.block_lt_of_cell? w _ hx456_0)).trans hx456_0
          replace hx456_1 := (HB.out.cell (World.block_lt_of_cell? w _ hx456_1)).trans hx456_1
          replace p456 := eq_true p456; replace q456 := eq_true q456
          have p457 : 0 ≤ (x4_1 : Int) := of_decide_eq_true (zqD)
          have q457 : x4_1 < (l0.length : Int) := of_decide_eq_true (zqD)
          obtain ⟨ad457, e457, hx457_0, hx457_1⟩ := at_T86 HR0.out x4_1 p457 q457
          have hw457_1 := hx457_1; have hw457_0 := hx457_0
          obtain rfl : ad456 = ad457 := (by injection e457)
          replace hx457_0 := (HB.out.cell (World.block_lt_of_cell? w _ hx457_0)).trans hx457_0
          replace hx457_1 := (HB.out.cell (World.block_lt_of_cell? w _ hx457_1)).trans hx457_1
          replace p457 := eq_true p457; replace q457 := eq_true q457
          refine start_ (n := 18) (S := fun w' => w'.cell? (ad456.add ((x4_1).toNat * 2)) = some (.int .u8 ((rd_T86 l0 x4_1).f0)) ∧ w'.cell? ⟨(ad456.add ((x4_1).toNat * 2)).block, (ad456.add ((x4_1).toNat * 2)).off + 1, none⟩ = some (.int .u8 ((rd_T86 l0 x4_1).f1)) ∧ w'.cell? (ad456.add ((x4_1).toNat * 2)) = some (.int .u8 ((rd_T86 l0 x4_1).f0)) ∧ w'.cell? ⟨(ad456.add ((x4_1).toNat * 2)).block, (ad456.add ((x4_1).toNat * 2)).off + 1, none⟩ = some (.int .u8 ((rd_T86 l0 x4_1).f1))) (ds := []) #[false, false, false, false, false, false, false, false, false, false, false, false, false, false, false, false, false, false] (by kernel_rfl) rfl rfl ⟨((HB.out.cell (World.block_lt_of_cell? w _ hw456_0)).trans hw456_0), ((HB.out.cell (World.block_lt_of_cell? w _ hw456_1)).trans hw456_1), ((HB.out.cell (World.block_lt_of_cell? w _ hw457_0)).trans hw457_0), ((HB.out.cell (World.block_lt_of_cell? w _ hw457_1)).trans hw457_1)⟩ (fun hHeld => ?_); refine with_tabW pianolalaw04_Set_made.tab5 pianolalaw04_Set_made.bits5 (fun HT_ HW_ => ?_)
          generalize wc.drew = w12 at HO_3 HB hx456_0 hx456_1 hx457_0 hx457_1 hHeld ⊢
          refine pure_ (i := 0) (N := some 18) (v := ?_) (a' := ?_) #[true, false, false, false, false, false, false, false, false, false, false, false, false, false, false, false, false, false] rfl rfl (any_of HT_.out (by kernel_rfl)) (fun _ _ _ h => h) (Or.inl ⟨by rfl, ?_⟩) ?_ ?_
          rotate_left
          ·
           intro w'
           go_simp
           with_reducible rfl
          rotate_left
          · simp only [Act.put, setIfInBounds_toArray, set_cons_zero, set_cons_succ, i64_w, i32_w]; rfl
          refine pure_ (i := 1) (N := some 19) (v := ?_) (a' := ?_) #[true, true, false, false, false, false, false, false, false, false, false, false, false, false, false, false, false, false] rfl rfl (any_of HT_.out (by kernel_rfl)) (fun _ _ _ h => h) (Or.inl ⟨by rfl, ?_⟩) ?_ ?_
          rotate_left
          ·
           intro w'
           go_simp
           with_reducible rfl
          rotate_left
          · simp only [Act.put, setIfInBounds_toArray, set_cons_zero, set_cons_succ, i64_w, i32_w]; rfl
          refine pure_ (i := 2) (N := some 20) (v := ?_) (a' := ?_) #[true, true, true, false, false, false, false, false, false, false, false, false, false, false, false, false, false, false] rfl rfl (any_of HT_.out (by kernel_rfl)) (fun _ _ _ h => h) (Or.inl ⟨by rfl, ?_⟩) ?_ ?_
          rotate_left
          ·
           intro w'
           go_simp
           with_reducible rfl
          rotate_left
          · simp only [Act.put, setIfInBounds_toArray, set_cons_zero, set_cons_succ, i64_w, i32_w]; rfl
          refine pure_ (i := 3) (N := some 21) (v := ?_) (a' := ?_) #[true, true, true, true, false, false, false, false, false, false, false, false, false, false, false, false, false, false] rfl rfl (any_of HT_.out (by kernel_rfl)) (fun _ _ _ h => h) (Or.inl ⟨by rfl, ?_⟩) ?_ ?_
          rotate_left
          ·
           intro w'
           go_simp
           with_reducible rfl
          rotate_left
          · simp only [Act.put, setIfInBounds_toArray, set_cons_zero, set_cons_succ, i64_w, i32_w]; rfl
          refine pure_ (i := 8) (N := some 26) (v := ?_) (a' := ?_) #[true, true, true, true, false, false, false, false, true, false, false, false, false, false, false, false, false, false] rfl rfl (any_of HT_.out (by kernel_rfl)) (fun _ _ _ h => h) (Or.inl ⟨by rfl, ?_⟩) ?_ ?_
          rotate_left
          ·
           intro w'
           go_simp
           with_reducible rfl
          rotate_left
          · simp only [Act.put, setIfInBounds_toArray, set_cons_zero, set_cons_succ, i64_w, i32_w]; rfl
          refine pure_ (i := 9) (N := some 27) (v := ?_) (a' := ?_) #[true, true, true, true, false, false, false, false, true, true, false, false, false, false, false, false, false, false] rfl rfl (any_of HT_.out (by kernel_rfl)) (fun _ _ _ h => h) (Or.inl ⟨by rfl, ?_⟩) ?_ ?_
          rotate_left
          ·
           intro w'
           go_simp
           with_reducible rfl
          rotate_left
          · simp only [Act.put, setIfInBounds_toArray, set_cons_zero, set_cons_succ, i64_w, i32_w]; rfl
          refine pure_ (i := 10) (N := some 28) (v := ?_) (a' := ?_) #[true, true, true, true, false, false, false, false, true, true, true, false, false, false, false, false, false, false] rfl rfl (any_of HT_.out (by kernel_rfl)) (fun _ _ _ h => h) (Or.inl ⟨by rfl, ?_⟩) ?_ ?_
          rotate_left
          ·
           intro w'
           go_simp
           with_reducible rfl
          rotate_left
          · simp only [Act.put, setIfInBounds_toArray, set_cons_zero, set_cons_succ, i64_w, i32_w]; rfl
          refine pure_ (i := 11) (N := some 29) (v := ?_) (a' := ?_) #[true, true, true, true, false, false, false, false, true, true, true, true, false, false, false, false, false, false] rfl rfl (any_of HT_.out (by kernel_rfl)) (fun _ _ _ h => h) (Or.inl ⟨by rfl, ?_⟩) ?_ ?_
          rotate_left
          ·
           intro w'
           go_simp
           with_reducible rfl
          rotate_left
          · simp only [Act.put, setIfInBounds_toArray, set_cons_zero, set_cons_succ, i64_w, i32_w]; rfl
          refine take_ (i := 4) (N := some 22) (v := ?_) (a' := ?_) #[true, true, true, true, true, false, false, false, true, true, true, true, false, false, false, false, false, false] rfl rfl (take_ofW HT_.out HW_.out (by kernel_rfl)) (fun _ _ _ h => h) (Or.inl ⟨by rfl, ?_⟩) hHeld ?_ ?_
          rotate_left
          ·
           rintro w' ⟨s0, s1, s2, s3⟩
           go_simp
           with_reducible rfl
          rotate_left
          · simp only [Act.put, setIfInBounds_toArray, set_cons_zero, set_cons_succ, i64_w, i32_w]; rfl
          refine pure_ (i := 5) (N := some 23) (v := ?_) (a' := ?_) #[true, true, true, true, true, true, false, false, true, true, true, true, false, false, false, false, false, false] rfl rfl (any_of HT_.out (by kernel_rfl)) (fun _ _ _ h => h) (Or.inl ⟨by rfl, ?_⟩) ?_ ?_
          rotate_left
          ·
           intro w'
           go_simp
           with_reducible rfl
          rotate_left
          · simp only [Act.put, setIfInBounds_toArray, set_cons_zero, set_cons_succ, i64_w, i32_w]; rfl
          refine pure_ (i := 6) (N := some 24) (v := ?_) (a' := ?_) #[true, true, true, true, true, true, true, false, true, true, true, true, false, false, false, false, false, false] rfl rfl (any_of HT_.out (by kernel_rfl)) (fun _ _ _ h => h) (Or.inl ⟨by rfl, ?_⟩) ?_ ?_
          rotate_left
          ·
           intro w'
           go_simp
           with_reducible rfl
          rotate_left
          · simp only [Act.put, setIfInBounds_toArray, set_cons_zero, set_cons_succ, i64_w, i32_w]; rfl
          refine pure_ (i := 7) (N := some 25) (v := ?_) (a' := ?_) #[true, true, true, true, true, true, true, true, true, true, true, true, false, false, false, false, false, false] rfl rfl (any_of HT_.out (by kernel_rfl)) (fun _ _ _ h => h) (Or.inl ⟨by rfl, ?_⟩) ?_ ?_
          rotate_left
          ·
           intro w'
           go_simp
           with_reducible rfl
          rotate_left
          · simp only [Act.put, setIfInBounds_toArray, set_cons_zero, set_cons_succ, i64_w, i32_w]; rfl
          refine take_ (i := 12) (N := some 30) (v := ?_) (a' := ?_) #[true, true, true, true, true, true, true, true, true, true, true, true, true, false, false, false, false, false] rfl rfl (take_ofW HT_.out HW_.out (by kernel_rfl)) (fun _ _ _ h => h) (Or.inl ⟨by rfl, ?_⟩) hHeld ?_ ?_
          rotate_left
          ·
           rintro w' ⟨s0, s1, s2, s3⟩
           go_simp
           with_reducible rfl
          rotate_left
          · simp only [Act.put, setIfInBounds_toArray, set_cons_zero, set_cons_succ, i64_w, i32_w]; rfl
          refine pure_ (i := 13) (N := some 31) (v := ?_) (a' := ?_) #[true, true, true, true, true, true, true, true, true, true, true, true, true, true, false, false, false, false] rfl rfl (any_of HT_.out (by kernel_rfl)) (fun _ _ _ h => h) (Or.inl ⟨by rfl, ?_⟩) ?_ ?_
          rotate_left
          ·
           intro w'
           go_simp
           with_reducible rfl
          rotate_left
          · simp only [Act.put, setIfInBounds_toArray, set_cons_zero, set_cons_succ, i64_w, i32_w]; rfl
          refine pure_ (i := 14) (N := some 32) (v := ?_) (a' := ?_) #[true, true, true, true, true, true, true, true, true, true, true, true, true, true, true, false, false, false] rfl rfl (any_of HT_.out (by kernel_rfl)) (fun _ _ _ h => h) (Or.inl ⟨by rfl, ?_⟩) ?_ ?_
          rotate_left
          ·
           intro w'
           go_simp
           with_reducible rfl
          rotate_left
          · simp only [Act.put, setIfInBounds_toArray, set_cons_zero, set_cons_succ, i64_w, i32_w]; rfl
          refine pure_ (i := 15) (N := some 33) (v := ?_) (a' := ?_) #[true, true, true, true, true, true, true, true, true, true, true, true, true, true, true, true, false, false] rfl rfl (any_of HT_.out (by kernel_rfl)) (fun _ _ _ h => h) (Or.inl ⟨by rfl, ?_⟩) ?_ ?_
          rotate_left
          ·
           intro w'
           go_simp
           with_reducible rfl
          rotate_left
          · simp only [Act.put, setIfInBounds_toArray, set_cons_zero, set_cons_succ, i64_w, i32_w]; rfl
          refine one_ (i := 16) (N := some 5) #[true, true, true, true, true, true, true, true, true, true, true, true, true, true, true, true, true, false] rfl rfl (one_of HT_.out (by kernel_rfl)) (by decide) (fun K hK => ?_)
          refine box_step ?hg (N := 5) ?hd (cs := #[.int .i64 0, .int .i64 0]) (t := 71) ?hr ?_; (case hd => rfl); (case hg => rfl); (case hr => first | (go_simp; done) | (go_simp; rfl))
          intro gb458 hg w13 hbox hb
          have n0_ := zA (Kd.R_below (Kd.R_elderB (zqC HO_3.out) gb458 (Nat.le_of_eq hg.symm)) hb); have n1_ := zA (below_step (zqA HB.out) hb); have n2_ := zA (hbox)
          have n3_ := zA ((by rw [hg]; exact (below_size (zqA HB.out)) : w.heap.size ≤ gb458))
          have n4_ := zA ((by rw [hg]; exact (below_size (zqA HB.out)) : w.heap.size ≤ gb458))
          clear HO_3 HB; have HO_3 := n0_; have HB := n1_; have BK458 := n2_; have GW458 := n3_; have GE458 := n4_; clear n0_ n1_ n2_ n3_ n4_ hb hbox hg
          refine hK.out _ _ ⟨((HB.out.cell (World.block_lt_of_cell? w _ hw456_0)).trans hw456_0), ((HB.out.cell (World.block_lt_of_cell? w _ hw456_1)).trans hw456_1), ((HB.out.cell (World.block_lt_of_cell? w _ hw457_0)).trans hw457_0), ((HB.out.cell (World.block_lt_of_cell? w _ hw457_1)).trans hw457_1)⟩ (fun hHeld => ?_)
          clear hK K; refine norm_ (a' := ?_) ?_ ?_; rotate_left
          · show Act.put _ (some 5) _ = _; simp only [Act.put, setIfInBounds_toArray, set_cons_zero, set_cons_succ, i64_w, i32_w]; rfl
          refine one_ (i := 17) (N := none) #[true, true, true, true, true, true, true, true, true, true, true, true, true, true, true, true, true, true] rfl rfl (one_of HT_.out (by kernel_rfl)) (by decide) (fun K hK => ?_)
          have hs14 : w13.cell? ⟨gb458, 0, none⟩ = some (.int .i64 0) := (blk_cell BK458.out 0).trans rfl
          have hfs14 := blk_frozen BK458.out 0
          have hs15 : w13.cell? ⟨gb458, 1, none⟩ = some (.int .i64 0) := (blk_cell BK458.out 1).trans rfl
          have hfs15 := blk_frozen BK458.out 1
          refine skip_ (w1 := ?_) (by rfl) rfl ?_ ?_
          rotate_left
          ·
           go_simp
           rfl
          refine hK.out _ _ ⟨((cell_far (p := ⟨gb458, _, none⟩) (by repeat (first | exact Nat.ne_of_lt (Nat.lt_of_lt_of_le (by have := World.block_lt_of_cell? _ _ hw456_0; first | rwa [add_block] at this | exact this) GW458.out) | rw [add_block] | (show (Addr.add _ _).block ≠ _; rw [add_block]) | dsimp only)) _).trans (((cell_far (p := ⟨gb458, _, none⟩) (by repeat (first | exact Nat.ne_of_lt (Nat.lt_of_lt_of_le (by have := World.block_lt_of_cell? _ _ hw456_0; first | rwa [add_block] at this | exact this) GW458.out) | rw [add_block] | (show (Addr.add _ _).block ≠ _; rw [add_block]) | dsimp only)) _).trans (hHeld.1)))), ((cell_far (p := ⟨gb458, _, none⟩) (by repeat (first | exact Nat.ne_of_lt (Nat.lt_of_lt_of_le (by have := World.block_lt_of_cell? _ _ hw456_1; first | rwa [add_block] at this | exact this) GW458.out) | rw [add_block] | (show (Addr.add _ _).block ≠ _; rw [add_block]) | dsimp only)) _).trans (((cell_far (p := ⟨gb458, _, none⟩) (by repeat (first | exact Nat.ne_of_lt (Nat.lt_of_lt_of_le (by have := World.block_lt_of_cell? _ _ hw456_1; first | rwa [add_block] at this | exact this) GW458.out) | rw [add_block] | (show (Addr.add _ _).block ≠ _; rw [add_block]) | dsimp only)) _).trans (hHeld.2.1)))), ((cell_far (p := ⟨gb458, _, none⟩) (by repeat (first | exact Nat.ne_of_lt (Nat.lt_of_lt_of_le (by have := World.block_lt_of_cell? _ _ hw457_0; first | rwa [add_block] at this | exact this) GW458.out) | rw [add_block] | (show (Addr.add _ _).block ≠ _; rw [add_block]) | dsimp only)) _).trans (((cell_far (p := ⟨gb458, _, none⟩) (by repeat (first | exact Nat.ne_of_lt (Nat.lt_of_lt_of_le (by have := World.block_lt_of_cell? _ _ hw457_0; first | rwa [add_block] at this | exact this) GW458.out) | rw [add_block] | (show (Addr.add _ _).block ≠ _; rw [add_block]) | dsimp only)) _).trans (hHeld.2.2.1)))), ((cell_far (p := ⟨gb458, _, none⟩) (by repeat (first | exact Nat.ne_of_lt (Nat.lt_of_lt_of_le (by have := World.block_lt_of_cell? _ _ hw457_1; first | rwa [add_block] at this | exact this) GW458.out) | rw [add_block] | (show (Addr.add _ _).block ≠ _; rw [add_block]) | dsimp only)) _).trans (((cell_far (p := ⟨gb458, _, none⟩) (by repeat (first | exact Nat.ne_of_lt (Nat.lt_of_lt_of_le (by have := World.block_lt_of_cell? _ _ hw457_1; first | rwa [add_block] at this | exact this) GW458.out) | rw [add_block] | (show (Addr.add _ _).block ≠ _; rw [add_block]) | dsimp only)) _).trans (hHeld.2.2.2))))⟩ (fun hHeld => ?_)
          clear hK K
          refine done_ (done_of HT_.out (by kernel_rfl)) ?_
          have n0_ : Aside0 (Kd.R k71 71 ((w13.setCell ⟨gb458, 0, none⟩ (.int .i64 (wrap64 (1 + (Int.tmod (wrap64 ((rd_T86 l0 x4_1).f0)) 4))))).setCell ⟨gb458, 1, none⟩ (.int .i64 (Int.tmod (wrap64 ((rd_T86 l0 x4_1).f1)) 6))) w.heap.size (fun k_ => k_ ≠ gb458) u3 x3_1) := ⟨by (with_reducible repeat (first | apply Kd.R_alloc | apply Kd.R_drewN | apply Kd.R_drew)); exact Kd.R_mono (Kd.R_far (p := ⟨gb458, 1, none⟩) (Kd.R_far (p := ⟨gb458, 0, none⟩) (Kd.R_mono HO_3.out (fun k_ hk => (⟨hk, hk.2⟩ : _ ∧ k_ ≠ gb458))) (fun _ hk => hk.2) (.int .i64 (wrap64 (1 + (Int.tmod (wrap64 ((rd_T86 l0 x4_1).f0)) 4))))) (fun _ hk => hk.2) (.int .i64 (Int.tmod (wrap64 ((rd_T86 l0 x4_1).f1)) 6))) (fun _ hk => hk.1.2)⟩
          have n1_ : Aside0 (((w13.setCell ⟨gb458, 0, none⟩ (.int .i64 (wrap64 (1 + (Int.tmod (wrap64 ((rd_T86 l0 x4_1).f0)) 4))))).setCell ⟨gb458, 1, none⟩ (.int .i64 (Int.tmod (wrap64 ((rd_T86 l0 x4_1).f1)) 6))).heap[gb458]? = some (.cells #[.int .i64 (wrap64 (1 + (Int.tmod (wrap64 ((rd_T86 l0 x4_1).f0)) 4))), .int .i64 (Int.tmod (wrap64 ((rd_T86 l0 x4_1).f1)) 6)] 71 (0, 0))) := ⟨by (with_reducible repeat (first | refine blk_drewN ?_ _ | refine blk_drew ?_ | refine blk_alloc ?_ _)); refine blk_put (cs := #[.int .i64 (wrap64 (1 + (Int.tmod (wrap64 ((rd_T86 l0 x4_1).f0)) 4))), .int .i64 0]) ?_ 1 _ rfl; (with_reducible repeat (first | refine blk_drewN ?_ _ | refine blk_drew ?_ | refine blk_alloc ?_ _)); refine blk_put (cs := #[.int .i64 0, .int .i64 0]) ?_ 0 _ rfl; (with_reducible repeat (first | refine blk_drewN ?_ _ | refine blk_drew ?_ | refine blk_alloc ?_ _)); exact BK458.out⟩
          have n2_ : Aside0 (Below w.heap.size w ((w13.setCell ⟨gb458, 0, none⟩ (.int .i64 (wrap64 (1 + (Int.tmod (wrap64 ((rd_T86 l0 x4_1).f0)) 4))))).setCell ⟨gb458, 1, none⟩ (.int .i64 (Int.tmod (wrap64 ((rd_T86 l0 x4_1).f1)) 6)))) := ⟨zqG HB.out GE458.out⟩
          (try clear HO_3)
          (try clear BK458)
          (try clear HB)
          generalize ((w13.setCell ⟨gb458, 0, none⟩ (.int .i64 (wrap64 (1 + (Int.tmod (wrap64 ((rd_T86 l0 x4_1).f0)) 4))))).setCell ⟨gb458, 1, none⟩ (.int .i64 (Int.tmod (wrap64 ((rd_T86 l0 x4_1).f1)) 6))) = w16 at n0_ n1_ n2_ ⊢; have HO_3 := n0_; have BK458 := n1_; have HB := n2_; clear n0_ n1_ n2_
          have hcz17_0 : w16.cell? ⟨gb458, 0, none⟩ = some (.int .i64 (wrap64 (1 + (Int.tmod (wrap64 ((rd_T86 l0 x4_1).f0)) 4)))) := (blk_cell BK458.out 0).trans rfl
          have hcz17_1 : w16.cell? ⟨gb458, 1, none⟩ = some (.int .i64 (Int.tmod (wrap64 ((rd_T86 l0 x4_1).f1)) 6)) := (blk_cell BK458.out 1).trans rfl
          have hfz17_0 := blk_frozen BK458.out 0
          have hfz17_1 := blk_frozen BK458.out 1
          have p11 : 0 ≤ (0 : Int) := (by omega)
          have q11 : (0 : Int) < ((x3_1.length : Int) : Int) := of_decide_eq_true (zqD)
          have qi11 : (0 < x3_1.length) = True := eq_true (by omega)
          obtain ⟨go11, co11, eo11, gb11, gl11, cl11, HG11⟩ := Kd.R_form HO_3.out (by omega)
          (first | cases eo11 | (injection eo11 with ea_ en_ ec_; (first | subst ea_ | (injection ea_ with ea_; subst ea_)); subst ec_; clear en_))
          have GB11 := zA gb11
          have GG11 := zA HG11
          clear gb11 gl11 HG11
          obtain ⟨ce11, hcl11, hM11, hcc11, hfr11⟩ := Kd.R_elem HO_3.out z71 (0 : Int) p11 q11
          obtain rfl := k71_openM hM11
          have hx11_0 : w16.cell? ⟨go11, (0 : Int).toNat * 2, none⟩ = some (.int .i64 ((rd_T71 x3_1 0).f0)) := hcc11 0 _ rfl
          have hx11_1 : w16.cell? ⟨go11, (0 : Int).toNat * 2 + 1, none⟩ = some (.int .i64 ((rd_T71 x3_1 0).f1)) := hcc11 1 _ rfl
          have hf11_0 : w16.frozen? ⟨go11, (0 : Int).toNat * 2, none⟩ = false := hfr11 0
          have hf11_1 : w16.frozen? ⟨go11, (0 : Int).toNat * 2 + 1, none⟩ = false := hfr11 1
          clear hcl11 hcc11 hfr11 hM11
          (try rw [show ((0 : Int)).toNat = 0 from rfl] at hx11_0)
          (try simp only [Nat.reduceMul, Nat.zero_mul, Nat.zero_add, Nat.reduceAdd] at hx11_0)
          (try rw [show ((0 : Int)).toNat = 0 from rfl] at hf11_0)
          (try simp only [Nat.reduceMul, Nat.zero_mul, Nat.zero_add, Nat.reduceAdd] at hf11_0)
          (try rw [show ((0 : Int)).toNat = 0 from rfl] at hx11_1)
          (try simp only [Nat.reduceMul, Nat.zero_mul, Nat.zero_add, Nat.reduceAdd] at hx11_1)
          (try rw [show ((0 : Int)).toNat = 0 from rfl] at hf11_1)
          (try simp only [Nat.reduceMul, Nat.zero_mul, Nat.zero_add, Nat.reduceAdd] at hf11_1)
          replace p11 := eq_true p11; replace q11 := eq_true q11
          have HX18 := zA (show Kd.R k71 71 w16 w.heap.size (fun k_ => k_ ≠ gb458) (.slice (some ⟨go11, 0, none⟩) x3_1.length co11) x3_1 from (zqC HO_3.out))
          obtain ⟨ce18, hcl18, hM18, hcc18, hfr18⟩ := Kd.R_elem HX18.out z71 (0 : Int) (by omega) (by have h_ : (0 : Int) < ((x3_1.length : Int) : Int) := of_decide_eq_true (zqD); first | exact h_ | (have e_ := (Kd.R_reads' HO_3.out).1; omega) | simpa using h_)
          obtain rfl := k71_openM hM18
          have HP18 := Kd.R_seg HX18.out (0 : Int) (by omega) (by have h_ : (0 : Int) < ((x3_1.length : Int) : Int) := of_decide_eq_true (zqD); first | exact h_ | (have e_ := (Kd.R_reads' HO_3.out).1; omega) | simpa using h_) (seg := [.int .i64 (wrap64 (1 + (Int.tmod (wrap64 ((rd_T86 l0 x4_1).f0)) 4))), .int .i64 (Int.tmod (wrap64 ((rd_T86 l0 x4_1).f1)) 6)]) (j := 0) hcl18 hcc18 (show 2 ≤ 2 from by decide) (x' := (⟨wrap64 (1 + (Int.tmod (wrap64 ((rd_T86 l0 x4_1).f0)) 4)), Int.tmod (wrap64 ((rd_T86 l0 x4_1).f1)) 6⟩ : S71)) (k71_mkM _ _ _ (⟨wrap64 (1 + (Int.tmod (wrap64 ((rd_T86 l0 x4_1).f0)) 4)), Int.tmod (wrap64 ((rd_T86 l0 x4_1).f1)) 6⟩ : S71) ) (fun _ hk => hk)
          have hx18_0 := hcc18 0 _ rfl
          (try simp only [show (k71).sz = 2 from rfl, Nat.mul_one, Nat.add_zero] at hx18_0)
          (try rw [show ((0 : Int)).toNat = 0 from rfl] at hx18_0)
          (try simp only [Nat.reduceMul, Nat.zero_mul, Nat.zero_add, Nat.reduceAdd] at hx18_0)
          have hf18_0 := hfr18 0
          (try simp only [show (k71).sz = 2 from rfl, Nat.mul_one, Nat.add_zero] at hf18_0)
          (try rw [show ((0 : Int)).toNat = 0 from rfl] at hf18_0)
          (try simp only [Nat.reduceMul, Nat.zero_mul, Nat.zero_add, Nat.reduceAdd] at hf18_0)
          have hx18_1 := hcc18 1 _ rfl
          (try simp only [show (k71).sz = 2 from rfl, Nat.mul_one, Nat.add_zero] at hx18_1)
          (try rw [show ((0 : Int)).toNat = 0 from rfl] at hx18_1)
          (try simp only [Nat.reduceMul, Nat.zero_mul, Nat.zero_add, Nat.reduceAdd] at hx18_1)
          have hf18_1 := hfr18 1
          (try simp only [show (k71).sz = 2 from rfl, Nat.mul_one, Nat.add_zero] at hf18_1)
          (try rw [show ((0 : Int)).toNat = 0 from rfl] at hf18_1)
          (try simp only [Nat.reduceMul, Nat.zero_mul, Nat.zero_add, Nat.reduceAdd] at hf18_1)
          clear hcl18 hcc18 hfr18 hM18
          try go_wp2_with (first | ((with_reducible refine gate_store (t := 71) (p := 38) rfl ?_); refine store_event (t := 71) (p := 38) (v := ?vo_w19) (w1 := ((w16.setCell ⟨go11, 0, none⟩ (.int .i64 (wrap64 (1 + (Int.tmod (wrap64 ((rd_T86 l0 x4_1).f0)) 4))))).setCell ⟨go11, 1, none⟩ (.int .i64 (Int.tmod (wrap64 ((rd_T86 l0 x4_1).f1)) 6)))) ?hg ?ho ?hn ?hr ?_; (case ho => rfl); (case hg => rfl); (case hn => rfl); (case hr => first | (go_simp; done) | (go_simp; rfl)); intro w19 hw; have hg : w16.grownBy w19 (some go11) := (by rw [hw]; exact HP18.2); have hp_ : Kd.R k71 71 w19 w.heap.size (fun k_ => k_ ≠ gb458) (.slice (some ⟨go11, 0, none⟩) x3_1.length co11) y459 := (by rw [hw, Ny459.out]; exact HP18.1); clear HP18; have n0_ := zA (hp_); have n1_ := zA (blk_grown (g := gb458) (o := .cells #[.int .i64 (wrap64 (1 + (Int.tmod (wrap64 ((rd_T86 l0 x4_1).f0)) 4))), .int .i64 (Int.tmod (wrap64 ((rd_T86 l0 x4_1).f1)) 6)] 71 (0, 0)) (zqB BK458.out) hg (Kd.R_away HO_3.out (fun _ hk => hk))); have n2_ := zA ((by rw [hw]; exact below_set (below_set (HB.out) GB11.out) GB11.out : Below w.heap.size w w19)); clear HO_3; clear BK458; clear HB; have HO_3 := n0_; have BK458 := n1_; have HB := n2_; clear n0_ n1_ n2_; clear hg hw hp_))
          go_roundg kj3
          case measure => have := HK1.out; have := HJ3.out; omega
          case rel => exact ⟨(y459), (wrap64 (x4_1 + 1)), zqQ, H', ⟨by have := HK1.out; have := HJ3.out; omega⟩, ⟨by (with_reducible repeat (first | apply Kd.R_alloc | apply Kd.R_drewN | apply Kd.R_drew)); exact Kd.R_mono HO_3.out (fun _ hk => trivial)⟩, ⟨zqG HB.out GE458.out⟩⟩
         ·
          rw [if_neg c10] at H
          exact absurd H (by simp)
        ·
         rw [if_neg c9] at H
         have c9b0 : (x4_1 == 0) = false := beq_eq_false_iff_ne.mpr c9
         have c9b1 : (x4_1 != 0) = true := bne_iff_ne.mpr c9
         by_cases c20 : x3_1.length < 8796093022208
         ·
          rw [if_pos c20] at H
          have LMc20 := zA c20
          clear c20
          obtain ⟨y460, hy460⟩ : ∃ y_ : List (S71), y_ = (x3_1 ++ [(⟨wrap64 (1 + (Int.tmod (wrap64 ((rd_T86 l0 x4_1).f0)) 4)), Int.tmod (wrap64 ((rd_T86 l0 x4_1).f1)) 6⟩ : S71)]) := ⟨_, rfl⟩
          replace H : (pianolalaw04_Set_made.l0 kj3 l0 y460 (wrap64 (x4_1 + 1))) = some r := zqF hy460 H
          have Ny460 := zA hy460
          clear hy460
          have H' := zA H
          clear H
          try go_wp2
          have n0_ := zA (Kd.R_drew HO_3.out); have n1_ := zA (below_drew1 HB.out); clear HO_3 HB; have HO_3 := n0_; have HB := n1_; clear n0_ n1_
          have p456 : 0 ≤ (x4_1 : Int) := of_decide_eq_true (zqD)
          have q456 : x4_1 < (l0.length : Int) := of_decide_eq_true (zqD)
          obtain ⟨ad456, e456, hx456_0, hx456_1⟩ := at_T86 HR0.out x4_1 p456 q456
          have hw456_1 := hx456_1; have hw456_0 := hx456_0; cases e456
          replace hx456_0 := (HB.out.cell (World.block_lt_of_cell? w _ hx456_0)).trans hx456_0
          replace hx456_1 := (HB.out.cell (World.block_lt_of_cell? w _ hx456_1)).trans hx456_1
          replace p456 := eq_true p456; replace q456 := eq_true q456
          have p457 : 0 ≤ (x4_1 : Int) := of_decide_eq_true (zqD)
          have q457 : x4_1 < (l0.length : Int) := of_decide_eq_true (zqD)
          obtain ⟨ad457, e457, hx457_0, hx457_1⟩ := at_T86 HR0.out x4_1 p457 q457
          have hw457_1 := hx457_1; have hw457_0 := hx457_0
          obtain rfl : ad456 = ad457 := (by injection e457)
          replace hx457_0 := (HB.out.cell (World.block_lt_of_cell? w _ hx457_0)).trans hx457_0
          replace hx457_1 := (HB.out.cell (World.block_lt_of_cell? w _ hx457_1)).trans hx457_1
          replace p457 := eq_true p457; replace q457 := eq_true q457
          refine start_ (n := 18) (S := fun w' => w'.cell? (ad456.add ((x4_1).toNat * 2)) = some (.int .u8 ((rd_T86 l0 x4_1).f0)) ∧ w'.cell? ⟨(ad456.add ((x4_1).toNat * 2)).block, (ad456.add ((x4_1).toNat * 2)).off + 1, none⟩ = some (.int .u8 ((rd_T86 l0 x4_1).f1)) ∧ w'.cell? (ad456.add ((x4_1).toNat * 2)) = some (.int .u8 ((rd_T86 l0 x4_1).f0)) ∧ w'.cell? ⟨(ad456.add ((x4_1).toNat * 2)).block, (ad456.add ((x4_1).toNat * 2)).off + 1, none⟩ = some (.int .u8 ((rd_T86 l0 x4_1).f1))) (ds := []) #[false, false, false, false, false, false, false, false, false, false, false, false, false, false, false, false, false, false] (by kernel_rfl) rfl rfl ⟨((HB.out.cell (World.block_lt_of_cell? w _ hw456_0)).trans hw456_0), ((HB.out.cell (World.block_lt_of_cell? w _ hw456_1)).trans hw456_1), ((HB.out.cell (World.block_lt_of_cell? w _ hw457_0)).trans hw457_0), ((HB.out.cell (World.block_lt_of_cell? w _ hw457_1)).trans hw457_1)⟩ (fun hHeld => ?_); refine with_tabW pianolalaw04_Set_made.tab5 pianolalaw04_Set_made.bits5 (fun HT_ HW_ => ?_)
          generalize wc.drew = w21 at HO_3 HB hx456_0 hx456_1 hx457_0 hx457_1 hHeld ⊢
          refine pure_ (i := 0) (N := some 18) (v := ?_) (a' := ?_) #[true, false, false, false, false, false, false, false, false, false, false, false, false, false, false, false, false, false] rfl rfl (any_of HT_.out (by kernel_rfl)) (fun _ _ _ h => h) (Or.inl ⟨by rfl, ?_⟩) ?_ ?_
          rotate_left
          ·
           intro w'
           go_simp
           with_reducible rfl
          rotate_left
          · simp only [Act.put, setIfInBounds_toArray, set_cons_zero, set_cons_succ, i64_w, i32_w]; rfl
          refine pure_ (i := 1) (N := some 19) (v := ?_) (a' := ?_) #[true, true, false, false, false, false, false, false, false, false, false, false, false, false, false, false, false, false] rfl rfl (any_of HT_.out (by kernel_rfl)) (fun _ _ _ h => h) (Or.inl ⟨by rfl, ?_⟩) ?_ ?_
          rotate_left
          ·
           intro w'
           go_simp
           with_reducible rfl
          rotate_left
          · simp only [Act.put, setIfInBounds_toArray, set_cons_zero, set_cons_succ, i64_w, i32_w]; rfl
          refine pure_ (i := 2) (N := some 20) (v := ?_) (a' := ?_) #[true, true, true, false, false, false, false, false, false, false, false, false, false, false, false, false, false, false] rfl rfl (any_of HT_.out (by kernel_rfl)) (fun _ _ _ h => h) (Or.inl ⟨by rfl, ?_⟩) ?_ ?_
          rotate_left
          ·
           intro w'
           go_simp
           with_reducible rfl
          rotate_left
          · simp only [Act.put, setIfInBounds_toArray, set_cons_zero, set_cons_succ, i64_w, i32_w]; rfl
          refine pure_ (i := 3) (N := some 21) (v := ?_) (a' := ?_) #[true, true, true, true, false, false, false, false, false, false, false, false, false, false, false, false, false, false] rfl rfl (any_of HT_.out (by kernel_rfl)) (fun _ _ _ h => h) (Or.inl ⟨by rfl, ?_⟩) ?_ ?_
          rotate_left
          ·
           intro w'
           go_simp
           with_reducible rfl
          rotate_left
          · simp only [Act.put, setIfInBounds_toArray, set_cons_zero, set_cons_succ, i64_w, i32_w]; rfl
          refine pure_ (i := 8) (N := some 26) (v := ?_) (a' := ?_) #[true, true, true, true, false, false, false, false, true, false, false, false, false, false, false, false, false, false] rfl rfl (any_of HT_.out (by kernel_rfl)) (fun _ _ _ h => h) (Or.inl ⟨by rfl, ?_⟩) ?_ ?_
          rotate_left
          ·
           intro w'
           go_simp
           with_reducible rfl
          rotate_left
          · simp only [Act.put, setIfInBounds_toArray, set_cons_zero, set_cons_succ, i64_w, i32_w]; rfl
          refine pure_ (i := 9) (N := some 27) (v := ?_) (a' := ?_) #[true, true, true, true, false, false, false, false, true, true, false, false, false, false, false, false, false, false] rfl rfl (any_of HT_.out (by kernel_rfl)) (fun _ _ _ h => h) (Or.inl ⟨by rfl, ?_⟩) ?_ ?_
          rotate_left
          ·
           intro w'
           go_simp
           with_reducible rfl
          rotate_left
          · simp only [Act.put, setIfInBounds_toArray, set_cons_zero, set_cons_succ, i64_w, i32_w]; rfl
          refine pure_ (i := 10) (N := some 28) (v := ?_) (a' := ?_) #[true, true, true, true, false, false, false, false, true, true, true, false, false, false, false, false, false, false] rfl rfl (any_of HT_.out (by kernel_rfl)) (fun _ _ _ h => h) (Or.inl ⟨by rfl, ?_⟩) ?_ ?_
          rotate_left
          ·
           intro w'
           go_simp
           with_reducible rfl
          rotate_left
          · simp only [Act.put, setIfInBounds_toArray, set_cons_zero, set_cons_succ, i64_w, i32_w]; rfl
          refine pure_ (i := 11) (N := some 29) (v := ?_) (a' := ?_) #[true, true, true, true, false, false, false, false, true, true, true, true, false, false, false, false, false, false] rfl rfl (any_of HT_.out (by kernel_rfl)) (fun _ _ _ h => h) (Or.inl ⟨by rfl, ?_⟩) ?_ ?_
          rotate_left
          ·
           intro w'
           go_simp
           with_reducible rfl
          rotate_left
          · simp only [Act.put, setIfInBounds_toArray, set_cons_zero, set_cons_succ, i64_w, i32_w]; rfl
          refine take_ (i := 4) (N := some 22) (v := ?_) (a' := ?_) #[true, true, true, true, true, false, false, false, true, true, true, true, false, false, false, false, false, false] rfl rfl (take_ofW HT_.out HW_.out (by kernel_rfl)) (fun _ _ _ h => h) (Or.inl ⟨by rfl, ?_⟩) hHeld ?_ ?_
          rotate_left
          ·
           rintro w' ⟨s0, s1, s2, s3⟩
           go_simp
           with_reducible rfl
          rotate_left
          · simp only [Act.put, setIfInBounds_toArray, set_cons_zero, set_cons_succ, i64_w, i32_w]; rfl
          refine pure_ (i := 5) (N := some 23) (v := ?_) (a' := ?_) #[true, true, true, true, true, true, false, false, true, true, true, true, false, false, false, false, false, false] rfl rfl (any_of HT_.out (by kernel_rfl)) (fun _ _ _ h => h) (Or.inl ⟨by rfl, ?_⟩) ?_ ?_
          rotate_left
          ·
           intro w'
           go_simp
           with_reducible rfl
          rotate_left
          · simp only [Act.put, setIfInBounds_toArray, set_cons_zero, set_cons_succ, i64_w, i32_w]; rfl
          refine pure_ (i := 6) (N := some 24) (v := ?_) (a' := ?_) #[true, true, true, true, true, true, true, false, true, true, true, true, false, false, false, false, false, false] rfl rfl (any_of HT_.out (by kernel_rfl)) (fun _ _ _ h => h) (Or.inl ⟨by rfl, ?_⟩) ?_ ?_
          rotate_left
          ·
           intro w'
           go_simp
           with_reducible rfl
          rotate_left
          · simp only [Act.put, setIfInBounds_toArray, set_cons_zero, set_cons_succ, i64_w, i32_w]; rfl
          refine pure_ (i := 7) (N := some 25) (v := ?_) (a' := ?_) #[true, true, true, true, true, true, true, true, true, true, true, true, false, false, false, false, false, false] rfl rfl (any_of HT_.out (by kernel_rfl)) (fun _ _ _ h => h) (Or.inl ⟨by rfl, ?_⟩) ?_ ?_
          rotate_left
          ·
           intro w'
           go_simp
           with_reducible rfl
          rotate_left
          · simp only [Act.put, setIfInBounds_toArray, set_cons_zero, set_cons_succ, i64_w, i32_w]; rfl
          refine take_ (i := 12) (N := some 30) (v := ?_) (a' := ?_) #[true, true, true, true, true, true, true, true, true, true, true, true, true, false, false, false, false, false] rfl rfl (take_ofW HT_.out HW_.out (by kernel_rfl)) (fun _ _ _ h => h) (Or.inl ⟨by rfl, ?_⟩) hHeld ?_ ?_
          rotate_left
          ·
           rintro w' ⟨s0, s1, s2, s3⟩
           go_simp
           with_reducible rfl
          rotate_left
          · simp only [Act.put, setIfInBounds_toArray, set_cons_zero, set_cons_succ, i64_w, i32_w]; rfl
          refine pure_ (i := 13) (N := some 31) (v := ?_) (a' := ?_) #[true, true, true, true, true, true, true, true, true, true, true, true, true, true, false, false, false, false] rfl rfl (any_of HT_.out (by kernel_rfl)) (fun _ _ _ h => h) (Or.inl ⟨by rfl, ?_⟩) ?_ ?_
          rotate_left
          ·
           intro w'
           go_simp
           with_reducible rfl
          rotate_left
          · simp only [Act.put, setIfInBounds_toArray, set_cons_zero, set_cons_succ, i64_w, i32_w]; rfl
          refine pure_ (i := 14) (N := some 32) (v := ?_) (a' := ?_) #[true, true, true, true, true, true, true, true, true, true, true, true, true, true, true, false, false, false] rfl rfl (any_of HT_.out (by kernel_rfl)) (fun _ _ _ h => h) (Or.inl ⟨by rfl, ?_⟩) ?_ ?_
          rotate_left
          ·
           intro w'
           go_simp
           with_reducible rfl
          rotate_left
          · simp only [Act.put, setIfInBounds_toArray, set_cons_zero, set_cons_succ, i64_w, i32_w]; rfl
          refine pure_ (i := 15) (N := some 33) (v := ?_) (a' := ?_) #[true, true, true, true, true, true, true, true, true, true, true, true, true, true, true, true, false, false] rfl rfl (any_of HT_.out (by kernel_rfl)) (fun _ _ _ h => h) (Or.inl ⟨by rfl, ?_⟩) ?_ ?_
          rotate_left
          ·
           intro w'
           go_simp
           with_reducible rfl
          rotate_left
          · simp only [Act.put, setIfInBounds_toArray, set_cons_zero, set_cons_succ, i64_w, i32_w]; rfl
          refine one_ (i := 16) (N := some 5) #[true, true, true, true, true, true, true, true, true, true, true, true, true, true, true, true, true, false] rfl rfl (one_of HT_.out (by kernel_rfl)) (by decide) (fun K hK => ?_)
          refine box_step ?hg (N := 5) ?hd (cs := #[.int .i64 0, .int .i64 0]) (t := 71) ?hr ?_; (case hd => rfl); (case hg => rfl); (case hr => first | (go_simp; done) | (go_simp; rfl))
          intro gb458 hg w22 hbox hb
          have n0_ := zA (Kd.R_below (Kd.R_elderB (zqC HO_3.out) gb458 (Nat.le_of_eq hg.symm)) hb); have n1_ := zA (below_step (zqA HB.out) hb); have n2_ := zA (hbox)
          have n3_ := zA ((by rw [hg]; exact (below_size (zqA HB.out)) : w.heap.size ≤ gb458))
          have n4_ := zA ((by rw [hg]; exact (below_size (zqA HB.out)) : w.heap.size ≤ gb458))
          clear HO_3 HB; have HO_3 := n0_; have HB := n1_; have BK458 := n2_; have GW458 := n3_; have GE458 := n4_; clear n0_ n1_ n2_ n3_ n4_ hb hbox hg
          refine hK.out _ _ ⟨((HB.out.cell (World.block_lt_of_cell? w _ hw456_0)).trans hw456_0), ((HB.out.cell (World.block_lt_of_cell? w _ hw456_1)).trans hw456_1), ((HB.out.cell (World.block_lt_of_cell? w _ hw457_0)).trans hw457_0), ((HB.out.cell (World.block_lt_of_cell? w _ hw457_1)).trans hw457_1)⟩ (fun hHeld => ?_)
          clear hK K; refine norm_ (a' := ?_) ?_ ?_; rotate_left
          · show Act.put _ (some 5) _ = _; simp only [Act.put, setIfInBounds_toArray, set_cons_zero, set_cons_succ, i64_w, i32_w]; rfl
          refine one_ (i := 17) (N := none) #[true, true, true, true, true, true, true, true, true, true, true, true, true, true, true, true, true, true] rfl rfl (one_of HT_.out (by kernel_rfl)) (by decide) (fun K hK => ?_)
          have hs23 : w22.cell? ⟨gb458, 0, none⟩ = some (.int .i64 0) := (blk_cell BK458.out 0).trans rfl
          have hfs23 := blk_frozen BK458.out 0
          have hs24 : w22.cell? ⟨gb458, 1, none⟩ = some (.int .i64 0) := (blk_cell BK458.out 1).trans rfl
          have hfs24 := blk_frozen BK458.out 1
          refine skip_ (w1 := ?_) (by rfl) rfl ?_ ?_
          rotate_left
          ·
           go_simp
           rfl
          refine hK.out _ _ ⟨((cell_far (p := ⟨gb458, _, none⟩) (by repeat (first | exact Nat.ne_of_lt (Nat.lt_of_lt_of_le (by have := World.block_lt_of_cell? _ _ hw456_0; first | rwa [add_block] at this | exact this) GW458.out) | rw [add_block] | (show (Addr.add _ _).block ≠ _; rw [add_block]) | dsimp only)) _).trans (((cell_far (p := ⟨gb458, _, none⟩) (by repeat (first | exact Nat.ne_of_lt (Nat.lt_of_lt_of_le (by have := World.block_lt_of_cell? _ _ hw456_0; first | rwa [add_block] at this | exact this) GW458.out) | rw [add_block] | (show (Addr.add _ _).block ≠ _; rw [add_block]) | dsimp only)) _).trans (hHeld.1)))), ((cell_far (p := ⟨gb458, _, none⟩) (by repeat (first | exact Nat.ne_of_lt (Nat.lt_of_lt_of_le (by have := World.block_lt_of_cell? _ _ hw456_1; first | rwa [add_block] at this | exact this) GW458.out) | rw [add_block] | (show (Addr.add _ _).block ≠ _; rw [add_block]) | dsimp only)) _).trans (((cell_far (p := ⟨gb458, _, none⟩) (by repeat (first | exact Nat.ne_of_lt (Nat.lt_of_lt_of_le (by have := World.block_lt_of_cell? _ _ hw456_1; first | rwa [add_block] at this | exact this) GW458.out) | rw [add_block] | (show (Addr.add _ _).block ≠ _; rw [add_block]) | dsimp only)) _).trans (hHeld.2.1)))), ((cell_far (p := ⟨gb458, _, none⟩) (by repeat (first | exact Nat.ne_of_lt (Nat.lt_of_lt_of_le (by have := World.block_lt_of_cell? _ _ hw457_0; first | rwa [add_block] at this | exact this) GW458.out) | rw [add_block] | (show (Addr.add _ _).block ≠ _; rw [add_block]) | dsimp only)) _).trans (((cell_far (p := ⟨gb458, _, none⟩) (by repeat (first | exact Nat.ne_of_lt (Nat.lt_of_lt_of_le (by have := World.block_lt_of_cell? _ _ hw457_0; first | rwa [add_block] at this | exact this) GW458.out) | rw [add_block] | (show (Addr.add _ _).block ≠ _; rw [add_block]) | dsimp only)) _).trans (hHeld.2.2.1)))), ((cell_far (p := ⟨gb458, _, none⟩) (by repeat (first | exact Nat.ne_of_lt (Nat.lt_of_lt_of_le (by have := World.block_lt_of_cell? _ _ hw457_1; first | rwa [add_block] at this | exact this) GW458.out) | rw [add_block] | (show (Addr.add _ _).block ≠ _; rw [add_block]) | dsimp only)) _).trans (((cell_far (p := ⟨gb458, _, none⟩) (by repeat (first | exact Nat.ne_of_lt (Nat.lt_of_lt_of_le (by have := World.block_lt_of_cell? _ _ hw457_1; first | rwa [add_block] at this | exact this) GW458.out) | rw [add_block] | (show (Addr.add _ _).block ≠ _; rw [add_block]) | dsimp only)) _).trans (hHeld.2.2.2))))⟩ (fun hHeld => ?_)
          clear hK K
          refine done_ (done_of HT_.out (by kernel_rfl)) ?_
          have hcz25_0 : w22.cell? ⟨gb458, 0, none⟩ = some (.int .i64 0) := (blk_cell BK458.out 0).trans rfl
          have hcz25_1 : w22.cell? ⟨gb458, 1, none⟩ = some (.int .i64 0) := (blk_cell BK458.out 1).trans rfl
          have hfz25_0 := blk_frozen BK458.out 0
          have hfz25_1 := blk_frozen BK458.out 1
          try go_wp2_with (first | ((with_reducible refine gate_builtin (b := .append) (xs := #[.tmp 39, .tmp 41]) rfl ?_); at_builtin; refine Kd.R_append k71 (w0 := w) w.heap.size rfl (.tmp 39) (.tmp 41) 22 71 (.agg #[(.int .i64 0), (.int .i64 0)]) 16 rfl Try.underlying22 info71 rfl (by decide) (by omega) u3 x3_1 (⟨wrap64 (1 + (Int.tmod (wrap64 ((rd_T86 l0 x4_1).f0)) 4)), Int.tmod (wrap64 ((rd_T86 l0 x4_1).f1)) 6⟩ : S71) [.int .i64 (wrap64 (1 + (Int.tmod (wrap64 ((rd_T86 l0 x4_1).f0)) 4))), .int .i64 (Int.tmod (wrap64 ((rd_T86 l0 x4_1).f1)) 6)] (fun k_ => k_ ≠ gb458) (fun _ => False) rfl (by first | (go_simp; done) | (go_simp; rfl)) ?aP (fun _ hk => hk.elim) ?aF ?aO ?aB ?aS ?aL ?_; (case aP => exact k71_mkM _ _ _ (⟨wrap64 (1 + (Int.tmod (wrap64 ((rd_T86 l0 x4_1).f0)) 4)), Int.tmod (wrap64 ((rd_T86 l0 x4_1).f1)) 6⟩ : S71)); (case aB => exact (zqG HB.out GE458.out)); (case aF => exact (fun k_ hk => Kd.freshB (g := gb458) (o := .cells #[.int .i64 (wrap64 (1 + (Int.tmod (wrap64 ((rd_T86 l0 x4_1).f0)) 4))), .int .i64 (Int.tmod (wrap64 ((rd_T86 l0 x4_1).f1)) 6)] 71 (0, 0)) (by (with_reducible repeat (first | refine blk_drewN ?_ _ | refine blk_drew ?_ | refine blk_alloc ?_ _)); refine blk_put (cs := #[.int .i64 (wrap64 (1 + (Int.tmod (wrap64 ((rd_T86 l0 x4_1).f0)) 4))), .int .i64 0]) ?_ 1 _ rfl; (with_reducible repeat (first | refine blk_drewN ?_ _ | refine blk_drew ?_ | refine blk_alloc ?_ _)); refine blk_put (cs := #[.int .i64 0, .int .i64 0]) ?_ 0 _ rfl; (with_reducible repeat (first | refine blk_drewN ?_ _ | refine blk_drew ?_ | refine blk_alloc ?_ _)); exact BK458.out) k_ hk)); (case aO => exact (by (with_reducible repeat (first | apply Kd.R_alloc | apply Kd.R_drewN | apply Kd.R_drew)); exact Kd.R_mono (Kd.R_far (p := ⟨gb458, 1, none⟩) (Kd.R_far (p := ⟨gb458, 0, none⟩) (Kd.R_mono HO_3.out (fun k_ hk => (⟨hk, hk.2⟩ : _ ∧ k_ ≠ gb458))) (fun _ hk => hk.2) (.int .i64 (wrap64 (1 + (Int.tmod (wrap64 ((rd_T86 l0 x4_1).f0)) 4))))) (fun _ hk => hk.2) (.int .i64 (Int.tmod (wrap64 ((rd_T86 l0 x4_1).f1)) 6))) (fun _ hk => hk.1.2))); (case aS => exact (below_size (zqG HB.out GE458.out))); (case aL => have := LMc20.out; omega); intro v461 w26 ho hb hg hat; rw [← Ny460.out] at ho; have n0_ := zA (blk_grown (g := gb458) (o := .cells #[.int .i64 (wrap64 (1 + (Int.tmod (wrap64 ((rd_T86 l0 x4_1).f0)) 4))), .int .i64 (Int.tmod (wrap64 ((rd_T86 l0 x4_1).f1)) 6)] 71 (0, 0)) (by (with_reducible repeat (first | refine blk_drewN ?_ _ | refine blk_drew ?_ | refine blk_alloc ?_ _)); refine blk_put (cs := #[.int .i64 (wrap64 (1 + (Int.tmod (wrap64 ((rd_T86 l0 x4_1).f0)) 4))), .int .i64 0]) ?_ 1 _ rfl; (with_reducible repeat (first | refine blk_drewN ?_ _ | refine blk_drew ?_ | refine blk_alloc ?_ _)); refine blk_put (cs := #[.int .i64 0, .int .i64 0]) ?_ 0 _ rfl; (with_reducible repeat (first | refine blk_drewN ?_ _ | refine blk_drew ?_ | refine blk_alloc ?_ _)); exact BK458.out) hg (Kd.R_away HO_3.out (fun _ hk => hk.2))); have n1_ := zA (hb); have n2_ := zA (ho); clear BK458; clear HB; clear HO_3; have BK458 := n0_; have HB := n1_; have HO462 := n2_; clear n0_ n1_ n2_; clear ho hb hg hat))
          go_roundg kj3
          case measure => have := HK1.out; have := HJ3.out; omega
          case rel => exact ⟨(y460), (wrap64 (x4_1 + 1)), zqQ, H', ⟨by have := HK1.out; have := HJ3.out; omega⟩, ⟨by (with_reducible repeat (first | apply Kd.R_alloc | apply Kd.R_drewN | apply Kd.R_drew)); exact Kd.R_mono HO462.out (fun _ hk => trivial)⟩, ⟨zqG HB.out GE458.out⟩⟩
         ·
          rw [if_neg c20] at H
          exact absurd H (by simp)
       ·
        rw [if_neg c8] at H
        exact absurd H (by simp)
      ·
       rw [if_neg c7] at H
       exact absurd H (by simp)
     ·
      replace c6 := Bool.eq_false_iff.mpr c6
      subst c6
      have H1 : (some x3_1) = some r := by rw [if_neg (show ¬ (false = true) by decide)] at H; exact H
      clear H; have H := H1; clear H1
      obtain rfl := Option.some.inj H
      go_wp2
      go_ret
      exact ⟨_, zqR, zqC HO_3.out, zqA HB.out⟩
def pianolalaw04_sums.l0 : Nat → List Int → Int → Int → Int → Int → Option (Int)
  | 0, _, _, _, _, _ => none
  | k + 1, x0, x1, x2, x7, x8 => if x8 < (wrap64 (x1 + x2)) then (if x8 < (x0.length : Int) then (if 0 ≤ x8 then (pianolalaw04_sums.l0 k x0 x1 x2 (wrap64 (x7 + (rd x0 x8))) (wrap64 (x8 + 1))) else (none)) else (some x7)) else (some x7)
def pianolalaw04_sums.f (k : Nat) (l0 : List Int) (a1 : Int) (a2 : Int) : Option (Int) := pianolalaw04_sums.l0 k l0 a1 a2 0 a1
set_option maxHeartbeats 8000000 in
set_option maxRecDepth 100000 in
theorem pianolalaw04_sums.calls (k : Nat) (A0 : Option Addr) (c0 : Nat) (l0 : List Int) (a1 : Int) (a2 : Int) (r : Int) (w : World) (hr0 : Kd.C (Kd.int .i64) w A0 l0.length l0) (hc0 : l0.length ≤ c0) (h : pianolalaw04_sums.f k l0 a1 a2 = some r) :
  Calls Try.prog 43 #[.slice A0 l0.length c0, .int .i64 a1, .int .i64 a2] w fun e w' => e = .returned (.int .i64 r) ∧ Drawn0 w w' := by
 have HR0 := zA hr0
 have HC0 := zA hc0
 clear hr0 hc0
 have H : (pianolalaw04_sums.l0 k l0 a1 a2 0 a1) = some r := h
 clear h
 have H' := zA H
 clear H
 go_enter Try.func43, Try.ntmps43
 go_wp2
 go_loopg [7, 8] k (fun kq v7 v8 w' => ∃ (x7_1 : Int) (x8_1 : Int), v7 = .int .i64 x7_1 ∧ v8 = .int .i64 x8_1 ∧ Aside0 (pianolalaw04_sums.l0 kq l0 a1 a2 x7_1 x8_1 = some r) ∧ Aside0 (kq ≤ k) ∧ Drawn0 w w')
 case atStart => exact ⟨(0), (a1), zqQ, zqQ, H', ⟨Nat.le_refl _⟩, by repeat (first | exact Drawn0.refl _ | apply Drawn0.step)⟩
 case round =>
  clear H'
  try clear p2
  obtain ⟨x7_1, x8_1, rfl, rfl, HA, HK1, ⟨m1, rfl⟩⟩ := hrel
  cases gk with
  | zero => exact absurd HA.out (by simp [pianolalaw04_sums.l0])
  | succ k1 =>
   have H := HA.out
   clear HA
   simp only [pianolalaw04_sums.l0] at H
   by_cases c4 : x8_1 < (wrap64 (a1 + a2))
   ·
    rw [if_pos c4] at H
    have c4b0 : decide (x8_1 < (wrap64 (a1 + a2))) = true := decide_eq_true c4
    clear c4
    by_cases c5 : x8_1 < (l0.length : Int)
    ·
     rw [if_pos c5] at H
     have c5b0 : decide (x8_1 < (l0.length : Int)) = true := decide_eq_true c5
     clear c5
     by_cases c6 : 0 ≤ x8_1
     ·
      rw [if_pos c6] at H
      have c6b0 : decide (0 ≤ x8_1) = true := decide_eq_true c6
      clear c6
      have H' := zA H
      clear H
      have p463 : 0 ≤ (x8_1 : Int) := of_decide_eq_true (zqD)
      have q463 : x8_1 < (l0.length : Int) := of_decide_eq_true (zqD)
      obtain ⟨ad463, e463, hx463_0⟩ := Kd.at_int HR0.out x8_1 p463 q463
      cases e463; replace p463 := eq_true p463; replace q463 := eq_true q463
      go_wp2
      go_roundg k1
      case measure => have := HK1.out; omega
      case rel => exact ⟨(wrap64 (x7_1 + (rd l0 x8_1))), (wrap64 (x8_1 + 1)), zqQ, zqQ, H', ⟨by have := HK1.out; omega⟩, by repeat (first | exact Drawn0.refl _ | apply Drawn0.step)⟩
     ·
      rw [if_neg c6] at H
      exact absurd H (by simp)
    ·
     rw [if_neg c5] at H
     have c5b0 : decide (x8_1 < (l0.length : Int)) = false := decide_eq_false c5
     clear c5
     obtain rfl := Option.some.inj H
     go_wp2
     go_ret
     exact ⟨by first | rfl | (simp; done) | (simp [*]; done), by repeat (first | exact Drawn0.refl _ | apply Drawn0.step)⟩
   ·
    rw [if_neg c4] at H
    have c4b0 : decide (x8_1 < (wrap64 (a1 + a2))) = false := decide_eq_false c4
    clear c4
    obtain rfl := Option.some.inj H
    go_wp2
    go_ret
    exact ⟨by first | rfl | (simp; done) | (simp [*]; done), by repeat (first | exact Drawn0.refl _ | apply Drawn0.step)⟩
mutual
def pianolalaw04_demand.l0 : Nat → List (S71) → Int → List Int → List Int → Int → Option (List Int)
  | 0, _, _, _, _, _ => none
  | k + 1, x0, x1, x2, x7, x8 => if x8 < x1 then (if (x2.length : Int) > 0 then (if (x2.length : Int) = 0 then (none) else (if 0 ≤ (Int.tmod x8 (x2.length : Int)) then (if (Int.tmod x8 (x2.length : Int)) < (x2.length : Int) then (pianolalaw04_demand.j1 k x0 x1 x2 x7 x8 (Int.tmod (wrap64 (rd x2 (Int.tmod x8 (x2.length : Int)))) 8)) else (none)) else (none))) else (pianolalaw04_demand.j1 k x0 x1 x2 x7 x8 1000)) else (some x7)
def pianolalaw04_demand.j1 : Nat → List (S71) → Int → List Int → List Int → Int → Int → Option (List Int)
  | 0, _, _, _, _, _, _ => none
  | k + 1, x0, x1, x2, x7, x8, x9 => pianolalaw04_demand.l1 k x0 x1 x2 x7 x8 x9 x0 (x0.length : Int) 0
def pianolalaw04_demand.l1 : Nat → List (S71) → Int → List Int → List Int → Int → Int → List (S71) → Int → Int → Option (List Int)
  | 0, _, _, _, _, _, _, _, _, _ => none
  | k + 1, x0, x1, x2, x7, x8, x9, x29, x30, x31 => if x31 < x30 then (if 0 ≤ x31 then (if x31 < (x29.length : Int) then ((pianolalaw04_sums.f k x7 (mx 0 (wrap64 ((wrap64 (x8 - ((rd_T71 x29 x31).f0))) + 1))) ((rd_T71 x29 x31).f0)).bind fun t467 => (pianolalaw04_demand.l1 k x0 x1 x2 x7 x8 (mn x9 (wrap64 (((rd_T71 x29 x31).f1) - t467))) x29 x30 (wrap64 (x31 + 1)))) else (none)) else (none)) else (if x7.length < 17592186044416 then (pianolalaw04_demand.l0 k x0 x1 x2 (x7 ++ [mx 0 x9]) (wrap64 (x8 + 1))) else (none))
end
def pianolalaw04_demand.f (k : Nat) (l0 : List (S71)) (a1 : Int) (l2 : List Int) : Option (List Int) := pianolalaw04_demand.l0 k l0 a1 l2 ([] : List Int) 0
set_option maxHeartbeats 8000000 in
set_option maxRecDepth 100000 in
theorem pianolalaw04_demand.calls (k : Nat) (A0 : Option Addr) (c0 : Nat) (l0 : List (S71)) (a1 : Int) (A2 : Option Addr) (c2 : Nat) (l2 : List Int) (r : List Int) (w : World) (hr0 : Kd.C k71 w A0 l0.length l0) (hc0 : l0.length ≤ c0) (hr2 : Kd.C (Kd.int .u8) w A2 l2.length l2) (hc2 : l2.length ≤ c2) (h : pianolalaw04_demand.f k l0 a1 l2 = some r) :
  Calls Try.prog 41 #[.slice A0 l0.length c0, .int .i64 a1, .slice A2 l2.length c2] w fun e w' => ∃ v0_ : Value, e = .returned (v0_) ∧ Kd.R (Kd.int .i64) 3 w' w.heap.size (fun _ => True) v0_ r ∧ Below w.heap.size w w' := by
 have hu71 := Try.underlying71
 have HR0 := zA hr0
 have HC0 := zA hc0
 clear hr0 hc0
 have HR2 := zA hr2
 have HC2 := zA hc2
 clear hr2 hc2
 have HB := zA (Below.refl w.heap.size w)
 have H : (pianolalaw04_demand.l0 k l0 a1 l2 ([] : List Int) 0) = some r := h
 clear h
 have H' := zA H
 clear H
 go_enter Try.func41, Try.ntmps41
 go_wp2
 repeat (go_quiet (fail); try go_wp2)
 go_loopg [7, 8] k (fun kq v7 v8 w' => ∃ (x7_1 : List Int) (x8_1 : Int), v8 = .int .i64 x8_1 ∧ Aside0 (pianolalaw04_demand.l0 kq l0 a1 l2 x7_1 x8_1 = some r) ∧ Aside0 (kq ≤ k) ∧ Aside0 (Kd.R (Kd.int .i64) 3 w' w.heap.size (fun _ => True) v7 x7_1) ∧ Aside0 (Below w.heap.size w w'))
 case atStart => exact ⟨(([] : List Int)), (0), zqQ, H', ⟨Nat.le_refl _⟩, ⟨by first | exact Kd.R_nil _ _ _ _ _ | exact Kd.N_nil _ _ _ _ _ | exact Kd.V_nil _ _ _ _ _ | exact Kd.Q_nil _ _ _ _ _ | exact Kd.S_nil _ _ _ _ _⟩, ⟨zqA HB.out⟩⟩
 case round =>
  clear H'
  try clear c2
  try clear p2
  obtain ⟨x7_1, x8_1, rfl, HA, HK1, HO_7, HB⟩ := hrel
  cases gk with
  | zero => exact absurd HA.out (by simp [pianolalaw04_demand.l0])
  | succ k1 =>
   have H := HA.out
   clear HA
   simp only [pianolalaw04_demand.l0] at H
   by_cases c4 : x8_1 < a1
   ·
    rw [if_pos c4] at H
    have c4b0 : decide (x8_1 < a1) = true := decide_eq_true c4
    clear c4
    have HC5 := zA H
    clear H
    go_upto_if 19 with (fail)
    repeat (go_quiet (fail); go_upto_if 19 with (fail))
    go_cut [9] (fun v9 wc => ∃ (kq : Nat) (x9_4 : Int), v9 = .int .i64 x9_4 ∧ Aside0 (pianolalaw04_demand.j1 kq l0 a1 l2 x7_1 x8_1 x9_4 = some r) ∧ Aside0 (kq ≤ k1) ∧ Aside0 (Kd.R (Kd.int .i64) 3 wc w.heap.size (fun _ => True) u7 x7_1) ∧ Aside0 (Below w.heap.size w wc))
    case first =>
     have H := HC5.out
     clear HC5
     by_cases c6 : (l2.length : Int) > 0
     ·
      rw [if_pos c6] at H
      have c6b0 : decide (0 < (l2.length : Int)) = true := decide_eq_true c6
      have c6b1 : decide (0 < l2.length) = true := decide_eq_true (by omega)
      clear c6
      (first | rw [c6b0] | rw [c6b1] | (simp only [i64_w, i32_w]; rw [c6b0]) | skip)
      by_cases c7 : (l2.length : Int) = 0
      ·
       rw [if_pos c7] at H
       exact absurd H (by simp)
      ·
       rw [if_neg c7] at H
       have c7b0 : ((l2.length : Int) == 0) = false := beq_eq_false_iff_ne.mpr c7
       have c7b1 : ((l2.length : Int) != 0) = true := bne_iff_ne.mpr c7
       have c7b2 : ¬ (l2 = []) := fun h_ => c7 (by rw [h_]; rfl)
       obtain ⟨ji8, hji8⟩ : ∃ j_ : Int, (Int.tmod x8_1 (l2.length : Int)) = j_ := ⟨_, rfl⟩
       replace H : (if 0 ≤ (ji8) then (if (ji8) < (l2.length : Int) then (pianolalaw04_demand.j1 k1 l0 a1 l2 x7_1 x8_1 (Int.tmod (wrap64 (rd l2 (ji8))) 8)) else (none)) else (none)) = some r := by first | (rw [hji8] at H; exact H) | (simp only [hji8] at H ⊢; exact H)
       by_cases c9 : 0 ≤ (ji8)
       ·
        rw [if_pos c9] at H
        have c9b0 : decide (0 ≤ (ji8)) = true := decide_eq_true c9
        clear c9
        by_cases c10 : (ji8) < (l2.length : Int)
        ·
         rw [if_pos c10] at H
         have c10b0 : decide ((ji8) < (l2.length : Int)) = true := decide_eq_true c10
         clear c10
         have H' := zA H
         clear H
         have p464 : 0 ≤ ((ji8) : Int) := of_decide_eq_true (zqD)
         have q464 : (ji8) < (l2.length : Int) := of_decide_eq_true (zqD)
         obtain ⟨ad464, e464, hx464_0⟩ := Kd.at_int HR2.out (ji8) p464 q464
         cases e464
         replace hx464_0 := (HB.out.cell (World.block_lt_of_cell? w _ hx464_0)).trans hx464_0
         replace p464 := eq_true p464; replace q464 := eq_true q464
         go_wp2
         repeat (go_quiet (fail); try go_wp2)
         go_meet
         case rel => exact ⟨_, (Int.tmod (wrap64 (rd l2 (ji8))) 8), (by first | rfl | (simp; done) | (simp only [← hji8] <;> (first | rfl | simp)) | (simp [*]; done)), H', ⟨by have := HK1.out; first | omega | exact Nat.le_refl _⟩, ⟨zqC HO_7.out⟩, ⟨zqA HB.out⟩⟩
        ·
         rw [if_neg c10] at H
         exact absurd H (by simp)
       ·
        rw [if_neg c9] at H
        exact absurd H (by simp)
     ·
      rw [if_neg c6] at H
      have c6b0 : decide (0 < (l2.length : Int)) = false := decide_eq_false c6
      have c6b1 : decide (0 < l2.length) = false := decide_eq_false (by omega)
      clear c6
      (first | rw [c6b0] | rw [c6b1] | (simp only [i64_w, i32_w]; rw [c6b0]) | skip)
      have H' := zA H
      clear H
      go_wp2
      repeat (go_quiet (fail); try go_wp2)
      go_meet
      case rel => exact ⟨_, (1000), zqQ, H', ⟨by have := HK1.out; first | omega | exact Nat.le_refl _⟩, ⟨zqC HO_7.out⟩, ⟨zqA HB.out⟩⟩
    case rest =>
     clear HC5
     try clear c1
     try clear c2
     try clear p2
     try clear c4
     try clear c4b0
     try clear p4
     try clear q4
     try clear hx4
     try clear c6
     try clear c6b0
     try clear c6b1
     try clear p6
     try clear c7
     try clear c7b0
     try clear c7b1
     try clear c7b2
     try clear c9
     try clear c9b0
     try clear c10
     try clear c10b0
     try clear hx464_0
     try clear p2
     try clear p464
     try clear q464
     obtain ⟨kq, x9_4, rfl, HA, HJ4, HO_7, HB⟩ := hcut
     cases kq with
     | zero => exact absurd HA.out (by simp [pianolalaw04_demand.j1])
     | succ kj4 =>
      have H := HA.out
      clear HA
      simp only [pianolalaw04_demand.j1] at H
      have H' := zA H
      clear H
      go_wp2
      repeat (go_quiet (fail); try go_wp2)
      go_loopg [9, 31] kj4 (fun kq v9 v31 w' => ∃ (x9_3 : Int) (x31_3 : Int), v9 = .int .i64 x9_3 ∧ v31 = .int .i64 x31_3 ∧ Aside0 (pianolalaw04_demand.l1 kq l0 a1 l2 x7_1 x8_1 x9_3 l0 (l0.length : Int) x31_3 = some r) ∧ Aside0 (kq ≤ kj4) ∧ Aside0 (Kd.R (Kd.int .i64) 3 w' w.heap.size (fun _ => True) u7 x7_1) ∧ Aside0 (Below w.heap.size w w'))
      case atStart => exact ⟨(x9_4), (0), zqQ, zqQ, H', ⟨Nat.le_refl _⟩, ⟨zqC HO_7.out⟩, ⟨zqA HB.out⟩⟩
      case round =>
       clear H'
       try clear c1
       try clear c2
       try clear p2
       try clear c4
       try clear c4b0
       try clear p4
       try clear q4
       try clear hx4
       try clear c6
       try clear c6b0
       try clear c6b1
       try clear p6
       try clear c7
       try clear c7b0
       try clear c7b1
       try clear c7b2
       try clear c9
       try clear c9b0
       try clear c10
       try clear c10b0
       try clear hx464_0
       try clear p2
       try clear p4
       try clear p464
       try clear p6
       try clear q4
       try clear q464
       obtain ⟨x9_3, x31_3, rfl, rfl, HA, HK3, HO_7, HB⟩ := hrel
       cases gk with
       | zero => exact absurd HA.out (by simp [pianolalaw04_demand.l1])
       | succ k3 =>
        have H := HA.out
        clear HA
        simp only [pianolalaw04_demand.l1] at H
        by_cases c11 : x31_3 < (l0.length : Int)
        ·
         rw [if_pos c11] at H
         have c11b0 : decide (x31_3 < (l0.length : Int)) = true := decide_eq_true c11
         clear c11
         by_cases c12 : 0 ≤ x31_3
         ·
          rw [if_pos c12] at H
          have c12b0 : decide (0 ≤ x31_3) = true := decide_eq_true c12
          clear c12
          by_cases c13 : x31_3 < (l0.length : Int)
          ·
           rw [if_pos c13] at H
           have c13b0 : decide (x31_3 < (l0.length : Int)) = true := decide_eq_true c13
           clear c13
           obtain ⟨ji14, hji14⟩ : ∃ j_ : Int, (mx 0 (wrap64 ((wrap64 (x8_1 - ((rd_T71 l0 x31_3).f0))) + 1))) = j_ := ⟨_, rfl⟩
           replace H : ((pianolalaw04_sums.f k3 x7_1 (ji14) ((rd_T71 l0 x31_3).f0)).bind fun t467 => (pianolalaw04_demand.l1 k3 l0 a1 l2 x7_1 x8_1 (mn x9_3 (wrap64 (((rd_T71 l0 x31_3).f1) - t467))) l0 (l0.length : Int) (wrap64 (x31_3 + 1)))) = some r := by first | (rw [hji14] at H; exact H) | (simp only [hji14] at H ⊢; exact H)
           have hji14_ : (if 0 < (wrap64 ((wrap64 (x8_1 - ((rd_T71 l0 x31_3).f0))) + 1)) then (wrap64 ((wrap64 (x8_1 - ((rd_T71 l0 x31_3).f0))) + 1)) else 0) = ji14 := hji14
           replace H := Option.bind_eq_some_iff.mp H
           obtain ⟨t467, A150, H⟩ := H
           replace H : (pianolalaw04_demand.l1 k3 l0 a1 l2 x7_1 x8_1 (mn x9_3 (wrap64 (((rd_T71 l0 x31_3).f1) - t467))) l0 (l0.length : Int) (wrap64 (x31_3 + 1))) = some r := H
           have A15 := zA A150
           clear A150
           obtain ⟨ji16, hji16⟩ : ∃ j_ : Int, (mn x9_3 (wrap64 (((rd_T71 l0 x31_3).f1) - t467))) = j_ := ⟨_, rfl⟩
           replace H : (pianolalaw04_demand.l1 k3 l0 a1 l2 x7_1 x8_1 ji16 l0 (l0.length : Int) (wrap64 (x31_3 + 1))) = some r := by first | (rw [hji16] at H; exact H) | (simp only [hji16] at H ⊢; exact H)
           (try rw [hji16] at A15)
           have hji16_ : (if (wrap64 (((rd_T71 l0 x31_3).f1) - t467)) < x9_3 then (wrap64 (((rd_T71 l0 x31_3).f1) - t467)) else x9_3) = ji16 := hji16
           have H' := zA H
           clear H
           have p465 : 0 ≤ (x31_3 : Int) := of_decide_eq_true (zqD)
           have q465 : x31_3 < (l0.length : Int) := of_decide_eq_true (zqD)
           obtain ⟨ad465, e465, hx465_0, hx465_1⟩ := at_T71 HR0.out x31_3 p465 q465
           cases e465
           replace hx465_0 := (HB.out.cell (World.block_lt_of_cell? w _ hx465_0)).trans hx465_0
           replace hx465_1 := (HB.out.cell (World.block_lt_of_cell? w _ hx465_1)).trans hx465_1
           replace p465 := eq_true p465; replace q465 := eq_true q465
           go_wp2_with (first | ((with_reducible refine gate_dst (N := 11) rfl ?_); refine box_event ?hg (N := 11) ?hd (cs := #[.int .i64 0, .int .i64 0]) (t := 71) ?hr ?_; (case hd => rfl); (case hg => rfl); (case hr => first | (go_simp; done) | (go_simp; rfl)); intro gb466 hg w17 hbox hb; have n0_ := zA (Kd.R_below (zqC HO_7.out) hb); have n1_ := zA (below_step (zqA HB.out) hb); have n2_ := zA (hbox); have n3_ := zA ((by rw [hg]; exact (below_size (zqA HB.out)) : w.heap.size ≤ gb466)); have n4_ := zA ((by rw [hg]; exact (below_size (zqA HB.out)) : w.heap.size ≤ gb466)); clear HO_7; clear HB; have HO_7 := n0_; have HB := n1_; have BK466 := n2_; have GW466 := n3_; have GE466 := n4_; clear n0_ n1_ n2_ n3_ n4_; clear hb hbox hg; have hcz18_0 : w17.cell? ⟨gb466, 0, none⟩ = some (.int .i64 0) := (blk_cell BK466.out 0).trans rfl; have hcz18_1 : w17.cell? ⟨gb466, 1, none⟩ = some (.int .i64 0) := (blk_cell BK466.out 1).trans rfl; have hfz18_0 := blk_frozen BK466.out 0; have hfz18_1 := blk_frozen BK466.out 1; obtain ⟨Ao19, co19, eo19⟩ := Kd.R_slice HO_7.out; subst eo19) | (go_at_call 43; (with_reducible refine (pianolalaw04_sums.calls k3 _ _ x7_1 ji14 ((rd_T71 l0 x31_3).f0) t467 _ ?side1 ?side2 A15.out).mono ?_); (case side1 => refine (Kd.R_reads' (e := 3) (base := w.heap.size) (ok := fun k_ => True) (n := x7_1.length) (c := co19) ?_).2.2; exact (by (with_reducible repeat (first | apply Kd.R_alloc | apply Kd.R_drewN | apply Kd.R_drew)); exact (Kd.R_mono (Kd.R_far (p := ⟨gb466, 1, none⟩) (Kd.R_far (p := ⟨gb466, 0, none⟩) (Kd.R_types HO_7.out BK466.out (by decide)) (fun _ hk => hk.2) (.int .i64 ((rd_T71 l0 x31_3).f0))) (fun _ hk => hk.2) (.int .i64 ((rd_T71 l0 x31_3).f1))) (fun _ h_ => h_.1)))); (case side2 => exact (Kd.R_reads' HO_7.out).2.1); rintro e w' ⟨rfl, ⟨nd, rfl⟩⟩; (try first | exact ⟨rfl, _, World.drewN_drewN _ _ _⟩ | exact ⟨rfl, _, Eq.trans (World.drewN_drewN _ _ _) (congrArg (World.drewN _) (Nat.add_assoc _ _ _))⟩)))
           repeat (go_quiet (first | ((with_reducible refine gate_dst (N := 11) rfl ?_); refine box_event ?hg (N := 11) ?hd (cs := #[.int .i64 0, .int .i64 0]) (t := 71) ?hr ?_; (case hd => rfl); (case hg => rfl); (case hr => first | (go_simp; done) | (go_simp; rfl)); intro gb466 hg w17 hbox hb; have n0_ := zA (Kd.R_below (zqC HO_7.out) hb); have n1_ := zA (below_step (zqA HB.out) hb); have n2_ := zA (hbox); have n3_ := zA ((by rw [hg]; exact (below_size (zqA HB.out)) : w.heap.size ≤ gb466)); have n4_ := zA ((by rw [hg]; exact (below_size (zqA HB.out)) : w.heap.size ≤ gb466)); clear HO_7; clear HB; have HO_7 := n0_; have HB := n1_; have BK466 := n2_; have GW466 := n3_; have GE466 := n4_; clear n0_ n1_ n2_ n3_ n4_; clear hb hbox hg; have hcz18_0 : w17.cell? ⟨gb466, 0, none⟩ = some (.int .i64 0) := (blk_cell BK466.out 0).trans rfl; have hcz18_1 : w17.cell? ⟨gb466, 1, none⟩ = some (.int .i64 0) := (blk_cell BK466.out 1).trans rfl; have hfz18_0 := blk_frozen BK466.out 0; have hfz18_1 := blk_frozen BK466.out 1; obtain ⟨Ao19, co19, eo19⟩ := Kd.R_slice HO_7.out; subst eo19) | (go_at_call 43; (with_reducible refine (pianolalaw04_sums.calls k3 _ _ x7_1 ji14 ((rd_T71 l0 x31_3).f0) t467 _ ?side1 ?side2 A15.out).mono ?_); (case side1 => refine (Kd.R_reads' (e := 3) (base := w.heap.size) (ok := fun k_ => True) (n := x7_1.length) (c := co19) ?_).2.2; exact (by (with_reducible repeat (first | apply Kd.R_alloc | apply Kd.R_drewN | apply Kd.R_drew)); exact (Kd.R_mono (Kd.R_far (p := ⟨gb466, 1, none⟩) (Kd.R_far (p := ⟨gb466, 0, none⟩) (Kd.R_types HO_7.out BK466.out (by decide)) (fun _ hk => hk.2) (.int .i64 ((rd_T71 l0 x31_3).f0))) (fun _ hk => hk.2) (.int .i64 ((rd_T71 l0 x31_3).f1))) (fun _ h_ => h_.1)))); (case side2 => exact (Kd.R_reads' HO_7.out).2.1); rintro e w' ⟨rfl, ⟨nd, rfl⟩⟩; (try first | exact ⟨rfl, _, World.drewN_drewN _ _ _⟩ | exact ⟨rfl, _, Eq.trans (World.drewN_drewN _ _ _) (congrArg (World.drewN _) (Nat.add_assoc _ _ _))⟩))); try go_wp2_with (first | ((with_reducible refine gate_dst (N := 11) rfl ?_); refine box_event ?hg (N := 11) ?hd (cs := #[.int .i64 0, .int .i64 0]) (t := 71) ?hr ?_; (case hd => rfl); (case hg => rfl); (case hr => first | (go_simp; done) | (go_simp; rfl)); intro gb466 hg w17 hbox hb; have n0_ := zA (Kd.R_below (zqC HO_7.out) hb); have n1_ := zA (below_step (zqA HB.out) hb); have n2_ := zA (hbox); have n3_ := zA ((by rw [hg]; exact (below_size (zqA HB.out)) : w.heap.size ≤ gb466)); have n4_ := zA ((by rw [hg]; exact (below_size (zqA HB.out)) : w.heap.size ≤ gb466)); clear HO_7; clear HB; have HO_7 := n0_; have HB := n1_; have BK466 := n2_; have GW466 := n3_; have GE466 := n4_; clear n0_ n1_ n2_ n3_ n4_; clear hb hbox hg; have hcz18_0 : w17.cell? ⟨gb466, 0, none⟩ = some (.int .i64 0) := (blk_cell BK466.out 0).trans rfl; have hcz18_1 : w17.cell? ⟨gb466, 1, none⟩ = some (.int .i64 0) := (blk_cell BK466.out 1).trans rfl; have hfz18_0 := blk_frozen BK466.out 0; have hfz18_1 := blk_frozen BK466.out 1; obtain ⟨Ao19, co19, eo19⟩ := Kd.R_slice HO_7.out; subst eo19) | (go_at_call 43; (with_reducible refine (pianolalaw04_sums.calls k3 _ _ x7_1 ji14 ((rd_T71 l0 x31_3).f0) t467 _ ?side1 ?side2 A15.out).mono ?_); (case side1 => refine (Kd.R_reads' (e := 3) (base := w.heap.size) (ok := fun k_ => True) (n := x7_1.length) (c := co19) ?_).2.2; exact (by (with_reducible repeat (first | apply Kd.R_alloc | apply Kd.R_drewN | apply Kd.R_drew)); exact (Kd.R_mono (Kd.R_far (p := ⟨gb466, 1, none⟩) (Kd.R_far (p := ⟨gb466, 0, none⟩) (Kd.R_types HO_7.out BK466.out (by decide)) (fun _ hk => hk.2) (.int .i64 ((rd_T71 l0 x31_3).f0))) (fun _ hk => hk.2) (.int .i64 ((rd_T71 l0 x31_3).f1))) (fun _ h_ => h_.1)))); (case side2 => exact (Kd.R_reads' HO_7.out).2.1); rintro e w' ⟨rfl, ⟨nd, rfl⟩⟩; (try first | exact ⟨rfl, _, World.drewN_drewN _ _ _⟩ | exact ⟨rfl, _, Eq.trans (World.drewN_drewN _ _ _) (congrArg (World.drewN _) (Nat.add_assoc _ _ _))⟩))))
           go_roundg k3
           case measure => have := HK1.out; have := HJ4.out; have := HK3.out; omega
           case rel => exact ⟨(ji16), (wrap64 (x31_3 + 1)), (by first | rfl | (simp; done) | (simp only [← hji16] <;> (first | rfl | simp)) | (simp [*]; done)), zqQ, H', ⟨by have := HK1.out; have := HJ4.out; have := HK3.out; omega⟩, ⟨by (with_reducible repeat (first | apply Kd.R_alloc | apply Kd.R_drewN | apply Kd.R_drew)); exact Kd.R_mono (Kd.R_far (p := ⟨gb466, 1, none⟩) (Kd.R_far (p := ⟨gb466, 0, none⟩) (Kd.R_types HO_7.out BK466.out (by decide)) (fun _ hk => hk.2) (.int .i64 ((rd_T71 l0 x31_3).f0))) (fun _ hk => hk.2) (.int .i64 ((rd_T71 l0 x31_3).f1))) (fun _ hk => trivial)⟩, ⟨zqG HB.out GE466.out⟩⟩
          ·
           rw [if_neg c13] at H
           exact absurd H (by simp)
         ·
          rw [if_neg c12] at H
          exact absurd H (by simp)
        ·
         rw [if_neg c11] at H
         have c11b0 : decide (x31_3 < (l0.length : Int)) = false := decide_eq_false c11
         clear c11
         obtain ⟨ji20, hji20⟩ : ∃ j_ : Int, (mx 0 x9_3) = j_ := ⟨_, rfl⟩
         replace H : (if x7_1.length < 17592186044416 then (pianolalaw04_demand.l0 k3 l0 a1 l2 (x7_1 ++ [ji20]) (wrap64 (x8_1 + 1))) else (none)) = some r := by first | (rw [hji20] at H; exact H) | (simp only [hji20] at H ⊢; exact H)
         have hji20_ : (if 0 < x9_3 then x9_3 else 0) = ji20 := hji20
         by_cases c21 : x7_1.length < 17592186044416
         ·
          rw [if_pos c21] at H
          have LMc21 := zA c21
          clear c21
          obtain ⟨y468, hy468⟩ : ∃ y_ : List Int, y_ = (x7_1 ++ [ji20]) := ⟨_, rfl⟩
          replace H : (pianolalaw04_demand.l0 k3 l0 a1 l2 y468 (wrap64 (x8_1 + 1))) = some r := zqF hy468 H
          have Ny468 := zA hy468
          clear hy468
          have H' := zA H
          clear H
          go_wp2_with (first | ((with_reducible refine gate_builtin (b := .append) (xs := #[.tmp 51, .tmp 54]) rfl ?_); at_builtin; refine Kd.R_append (Kd.int .i64) (w0 := w) w.heap.size rfl (.tmp 51) (.tmp 54) 30 3 (.int .i64 0) 8 rfl Try.underlying30 info3 rfl (by decide) (by omega) u7 x7_1 ji20 [.int .i64 ji20] (fun _ => True) (fun _ => False) rfl rfl ?aP (fun _ hk => hk.elim) ?aF ?aO ?aB ?aS ?aL ?_; (case aP => exact rfl); (case aB => exact (zqA HB.out)); (case aF => exact (fun _ _ => trivial)); (case aO => exact (zqC HO_7.out)); (case aS => exact (below_size (zqA HB.out))); (case aL => have := LMc21.out; omega); intro v469 w22 ho hb hg hat; rw [← Ny468.out] at ho; have n0_ := zA (hb); have n1_ := zA (ho); clear HB; clear HO_7; have HB := n0_; have HO470 := n1_; clear n0_ n1_; clear ho hb hg hat))
          repeat (go_quiet (first | ((with_reducible refine gate_builtin (b := .append) (xs := #[.tmp 51, .tmp 54]) rfl ?_); at_builtin; refine Kd.R_append (Kd.int .i64) (w0 := w) w.heap.size rfl (.tmp 51) (.tmp 54) 30 3 (.int .i64 0) 8 rfl Try.underlying30 info3 rfl (by decide) (by omega) u7 x7_1 ji20 [.int .i64 ji20] (fun _ => True) (fun _ => False) rfl rfl ?aP (fun _ hk => hk.elim) ?aF ?aO ?aB ?aS ?aL ?_; (case aP => exact rfl); (case aB => exact (zqA HB.out)); (case aF => exact (fun _ _ => trivial)); (case aO => exact (zqC HO_7.out)); (case aS => exact (below_size (zqA HB.out))); (case aL => have := LMc21.out; omega); intro v469 w22 ho hb hg hat; rw [← Ny468.out] at ho; have n0_ := zA (hb); have n1_ := zA (ho); clear HB; clear HO_7; have HB := n0_; have HO470 := n1_; clear n0_ n1_; clear ho hb hg hat)); try go_wp2_with (first | ((with_reducible refine gate_builtin (b := .append) (xs := #[.tmp 51, .tmp 54]) rfl ?_); at_builtin; refine Kd.R_append (Kd.int .i64) (w0 := w) w.heap.size rfl (.tmp 51) (.tmp 54) 30 3 (.int .i64 0) 8 rfl Try.underlying30 info3 rfl (by decide) (by omega) u7 x7_1 ji20 [.int .i64 ji20] (fun _ => True) (fun _ => False) rfl rfl ?aP (fun _ hk => hk.elim) ?aF ?aO ?aB ?aS ?aL ?_; (case aP => exact rfl); (case aB => exact (zqA HB.out)); (case aF => exact (fun _ _ => trivial)); (case aO => exact (zqC HO_7.out)); (case aS => exact (below_size (zqA HB.out))); (case aL => have := LMc21.out; omega); intro v469 w22 ho hb hg hat; rw [← Ny468.out] at ho; have n0_ := zA (hb); have n1_ := zA (ho); clear HB; clear HO_7; have HB := n0_; have HO470 := n1_; clear n0_ n1_; clear ho hb hg hat)))
          go_roundg k3
          case measure => have := HK1.out; have := HJ4.out; have := HK3.out; omega
          case rel => exact ⟨(y468), (wrap64 (x8_1 + 1)), zqQ, H', ⟨by have := HK1.out; have := HJ4.out; have := HK3.out; omega⟩, ⟨zqC HO470.out⟩, ⟨zqA HB.out⟩⟩
         ·
          rw [if_neg c21] at H
          exact absurd H (by simp)
   ·
    rw [if_neg c4] at H
    have c4b0 : decide (x8_1 < a1) = false := decide_eq_false c4
    clear c4
    obtain rfl := Option.some.inj H
    go_wp2
    repeat (go_quiet (fail); try go_wp2)
    go_ret
    exact ⟨_, zqR, zqC HO_7.out, zqA HB.out⟩
mutual
def pianolalaw04_capacity.l0 : Nat → List (S71) → Int → List Int → List Int → Int → Option (List Int)
  | 0, _, _, _, _, _ => none
  | k + 1, x0, x1, x2, x7, x8 => if x8 < x1 then (if (x2.length : Int) > 0 then (if (x2.length : Int) = 0 then (none) else (if 0 ≤ (Int.tmod x8 (x2.length : Int)) then (if (Int.tmod x8 (x2.length : Int)) < (x2.length : Int) then (pianolalaw04_capacity.j1 k x0 x1 x2 x7 x8 (wrap64 ((wrap64 (Int.tdiv (Int.tmod (wrap64 (rd x2 (Int.tmod x8 (x2.length : Int)))) 8) 2)) * (wrap64 (Int.tdiv (wrap64 (rd x2 (Int.tmod x8 (x2.length : Int)))) 128))))) else (none)) else (none))) else (pianolalaw04_capacity.j1 k x0 x1 x2 x7 x8 0)) else (some x7)
def pianolalaw04_capacity.j1 : Nat → List (S71) → Int → List Int → List Int → Int → Int → Option (List Int)
  | 0, _, _, _, _, _, _ => none
  | k + 1, x0, x1, x2, x7, x8, x9 => pianolalaw04_capacity.l1 k x0 x1 x2 x7 x8 x9 x0 (x0.length : Int) 0
def pianolalaw04_capacity.l1 : Nat → List (S71) → Int → List Int → List Int → Int → Int → List (S71) → Int → Int → Option (List Int)
  | 0, _, _, _, _, _, _, _, _, _ => none
  | k + 1, x0, x1, x2, x7, x8, x9, x40, x41, x42 => if x42 < x41 then (if 0 ≤ x42 then (if x42 < (x40.length : Int) then (if (wrap64 (x8 + 1)) ≥ ((rd_T71 x40 x42).f0) then ((pianolalaw04_sums.f k x7 (wrap64 ((wrap64 (x8 - ((rd_T71 x40 x42).f0))) + 1)) ((rd_T71 x40 x42).f0)).bind fun t475 => (pianolalaw04_capacity.l1 k x0 x1 x2 x7 x8 (mx x9 (wrap64 (((rd_T71 x40 x42).f1) - t475))) x40 x41 (wrap64 (x42 + 1)))) else (pianolalaw04_capacity.l1 k x0 x1 x2 x7 x8 x9 x40 x41 (wrap64 (x42 + 1)))) else (none)) else (none)) else (if x7.length < 17592186044416 then (pianolalaw04_capacity.l0 k x0 x1 x2 (x7 ++ [x9]) (wrap64 (x8 + 1))) else (none))
end
def pianolalaw04_capacity.f (k : Nat) (l0 : List (S71)) (a1 : Int) (l2 : List Int) : Option (List Int) := pianolalaw04_capacity.l0 k l0 a1 l2 ([] : List Int) 0
set_option maxHeartbeats 8000000 in
set_option maxRecDepth 100000 in
theorem pianolalaw04_capacity.calls (k : Nat) (A0 : Option Addr) (c0 : Nat) (l0 : List (S71)) (a1 : Int) (A2 : Option Addr) (c2 : Nat) (l2 : List Int) (r : List Int) (w : World) (hr0 : Kd.C k71 w A0 l0.length l0) (hc0 : l0.length ≤ c0) (hr2 : Kd.C (Kd.int .u8) w A2 l2.length l2) (hc2 : l2.length ≤ c2) (h : pianolalaw04_capacity.f k l0 a1 l2 = some r) :
  Calls Try.prog 42 #[.slice A0 l0.length c0, .int .i64 a1, .slice A2 l2.length c2] w fun e w' => ∃ v0_ : Value, e = .returned (v0_) ∧ Kd.R (Kd.int .i64) 3 w' w.heap.size (fun _ => True) v0_ r ∧ Below w.heap.size w w' := by
 have hu71 := Try.underlying71
 have HR0 := zA hr0
 have HC0 := zA hc0
 clear hr0 hc0
 have HR2 := zA hr2
 have HC2 := zA hc2
 clear hr2 hc2
 have HB := zA (Below.refl w.heap.size w)
 have H : (pianolalaw04_capacity.l0 k l0 a1 l2 ([] : List Int) 0) = some r := h
 clear h
 have H' := zA H
 clear H
 go_enter Try.func42, Try.ntmps42
 go_wp2
 repeat (go_quiet (fail); try go_wp2)
 go_loopg [7, 8] k (fun kq v7 v8 w' => ∃ (x7_1 : List Int) (x8_1 : Int), v8 = .int .i64 x8_1 ∧ Aside0 (pianolalaw04_capacity.l0 kq l0 a1 l2 x7_1 x8_1 = some r) ∧ Aside0 (kq ≤ k) ∧ Aside0 (Kd.R (Kd.int .i64) 3 w' w.heap.size (fun _ => True) v7 x7_1) ∧ Aside0 (Below w.heap.size w w'))
 case atStart => exact ⟨(([] : List Int)), (0), zqQ, H', ⟨Nat.le_refl _⟩, ⟨by first | exact Kd.R_nil _ _ _ _ _ | exact Kd.N_nil _ _ _ _ _ | exact Kd.V_nil _ _ _ _ _ | exact Kd.Q_nil _ _ _ _ _ | exact Kd.S_nil _ _ _ _ _⟩, ⟨zqA HB.out⟩⟩
 case round =>
  clear H'
  try clear c2
  try clear p2
  obtain ⟨x7_1, x8_1, rfl, HA, HK1, HO_7, HB⟩ := hrel
  cases gk with
  | zero => exact absurd HA.out (by simp [pianolalaw04_capacity.l0])
  | succ k1 =>
   have H := HA.out
   clear HA
   simp only [pianolalaw04_capacity.l0] at H
   by_cases c4 : x8_1 < a1
   ·
    rw [if_pos c4] at H
    have c4b0 : decide (x8_1 < a1) = true := decide_eq_true c4
    clear c4
    have HC5 := zA H
    clear H
    go_upto_if 19 with (fail)
    repeat (go_quiet (fail); go_upto_if 19 with (fail))
    go_cut [9] (fun v9 wc => ∃ (kq : Nat) (x9_4 : Int), v9 = .int .i64 x9_4 ∧ Aside0 (pianolalaw04_capacity.j1 kq l0 a1 l2 x7_1 x8_1 x9_4 = some r) ∧ Aside0 (kq ≤ k1) ∧ Aside0 (Kd.R (Kd.int .i64) 3 wc w.heap.size (fun _ => True) u7 x7_1) ∧ Aside0 (Below w.heap.size w wc))
    case first =>
     have H := HC5.out
     clear HC5
     by_cases c6 : (l2.length : Int) > 0
     ·
      rw [if_pos c6] at H
      have c6b0 : decide (0 < (l2.length : Int)) = true := decide_eq_true c6
      have c6b1 : decide (0 < l2.length) = true := decide_eq_true (by omega)
      clear c6
      (first | rw [c6b0] | rw [c6b1] | (simp only [i64_w, i32_w]; rw [c6b0]) | skip)
      by_cases c7 : (l2.length : Int) = 0
      ·
       rw [if_pos c7] at H
       exact absurd H (by simp)
      ·
       rw [if_neg c7] at H
       have c7b0 : ((l2.length : Int) == 0) = false := beq_eq_false_iff_ne.mpr c7
       have c7b1 : ((l2.length : Int) != 0) = true := bne_iff_ne.mpr c7
       have c7b2 : ¬ (l2 = []) := fun h_ => c7 (by rw [h_]; rfl)
       obtain ⟨ji8, hji8⟩ : ∃ j_ : Int, (Int.tmod x8_1 (l2.length : Int)) = j_ := ⟨_, rfl⟩
       replace H : (if 0 ≤ (ji8) then (if (ji8) < (l2.length : Int) then (pianolalaw04_capacity.j1 k1 l0 a1 l2 x7_1 x8_1 (wrap64 ((wrap64 (Int.tdiv (Int.tmod (wrap64 (rd l2 (ji8))) 8) 2)) * (wrap64 (Int.tdiv (wrap64 (rd l2 (ji8))) 128))))) else (none)) else (none)) = some r := by first | (rw [hji8] at H; exact H) | (simp only [hji8] at H ⊢; exact H)
       by_cases c9 : 0 ≤ (ji8)
       ·
        rw [if_pos c9] at H
        have c9b0 : decide (0 ≤ (ji8)) = true := decide_eq_true c9
        clear c9
        by_cases c10 : (ji8) < (l2.length : Int)
        ·
         rw [if_pos c10] at H
         have c10b0 : decide ((ji8) < (l2.length : Int)) = true := decide_eq_true c10
         clear c10
         have H' := zA H
         clear H
         have p471 : 0 ≤ ((ji8) : Int) := of_decide_eq_true (zqD)
         have q471 : (ji8) < (l2.length : Int) := of_decide_eq_true (zqD)
         obtain ⟨ad471, e471, hx471_0⟩ := Kd.at_int HR2.out (ji8) p471 q471
         cases e471
         replace hx471_0 := (HB.out.cell (World.block_lt_of_cell? w _ hx471_0)).trans hx471_0
         replace p471 := eq_true p471; replace q471 := eq_true q471
         have p472 : 0 ≤ ((ji8) : Int) := of_decide_eq_true (zqD)
         have q472 : (ji8) < (l2.length : Int) := of_decide_eq_true (zqD)
         obtain ⟨ad472, e472, hx472_0⟩ := Kd.at_int HR2.out (ji8) p472 q472
         obtain rfl : ad471 = ad472 := (by injection e472)
         replace hx472_0 := (HB.out.cell (World.block_lt_of_cell? w _ hx472_0)).trans hx472_0
         replace p472 := eq_true p472; replace q472 := eq_true q472
         go_wp2
         repeat (go_quiet (fail); try go_wp2)
         go_meet
         case rel => exact ⟨_, (wrap64 ((wrap64 (Int.tdiv (Int.tmod (wrap64 (rd l2 (ji8))) 8) 2)) * (wrap64 (Int.tdiv (wrap64 (rd l2 (ji8))) 128)))), (by first | rfl | (simp; done) | (simp only [← hji8] <;> (first | rfl | simp)) | (simp [*]; done)), H', ⟨by have := HK1.out; first | omega | exact Nat.le_refl _⟩, ⟨zqC HO_7.out⟩, ⟨zqA HB.out⟩⟩
        ·
         rw [if_neg c10] at H
         exact absurd H (by simp)
       ·
        rw [if_neg c9] at H
        exact absurd H (by simp)
     ·
      rw [if_neg c6] at H
      have c6b0 : decide (0 < (l2.length : Int)) = false := decide_eq_false c6
      have c6b1 : decide (0 < l2.length) = false := decide_eq_false (by omega)
      clear c6
      (first | rw [c6b0] | rw [c6b1] | (simp only [i64_w, i32_w]; rw [c6b0]) | skip)
      have H' := zA H
      clear H
      go_wp2
      repeat (go_quiet (fail); try go_wp2)
      go_meet
      case rel => exact ⟨_, (0), zqQ, H', ⟨by have := HK1.out; first | omega | exact Nat.le_refl _⟩, ⟨zqC HO_7.out⟩, ⟨zqA HB.out⟩⟩
    case rest =>
     clear HC5
     try clear c1
     try clear c2
     try clear p2
     try clear c4
     try clear c4b0
     try clear p4
     try clear q4
     try clear hx4
     try clear c6
     try clear c6b0
     try clear c6b1
     try clear p6
     try clear c7
     try clear c7b0
     try clear c7b1
     try clear c7b2
     try clear c9
     try clear c9b0
     try clear c10
     try clear c10b0
     try clear hx471_0
     try clear hx472_0
     try clear p2
     try clear p471
     try clear p472
     try clear q471
     try clear q472
     obtain ⟨kq, x9_4, rfl, HA, HJ4, HO_7, HB⟩ := hcut
     cases kq with
     | zero => exact absurd HA.out (by simp [pianolalaw04_capacity.j1])
     | succ kj4 =>
      have H := HA.out
      clear HA
      simp only [pianolalaw04_capacity.j1] at H
      have H' := zA H
      clear H
      go_wp2
      repeat (go_quiet (fail); try go_wp2)
      go_loopg [9, 42] kj4 (fun kq v9 v42 w' => ∃ (x9_3 : Int) (x42_3 : Int), v9 = .int .i64 x9_3 ∧ v42 = .int .i64 x42_3 ∧ Aside0 (pianolalaw04_capacity.l1 kq l0 a1 l2 x7_1 x8_1 x9_3 l0 (l0.length : Int) x42_3 = some r) ∧ Aside0 (kq ≤ kj4) ∧ Aside0 (Kd.R (Kd.int .i64) 3 w' w.heap.size (fun _ => True) u7 x7_1) ∧ Aside0 (Below w.heap.size w w'))
      case atStart => exact ⟨(x9_4), (0), zqQ, zqQ, H', ⟨Nat.le_refl _⟩, ⟨zqC HO_7.out⟩, ⟨zqA HB.out⟩⟩
      case round =>
       clear H'
       try clear c1
       try clear c2
       try clear p2
       try clear c4
       try clear c4b0
       try clear p4
       try clear q4
       try clear hx4
       try clear c6
       try clear c6b0
       try clear c6b1
       try clear p6
       try clear c7
       try clear c7b0
       try clear c7b1
       try clear c7b2
       try clear c9
       try clear c9b0
       try clear c10
       try clear c10b0
       try clear hx471_0
       try clear hx472_0
       try clear p2
       try clear p4
       try clear p471
       try clear p472
       try clear p6
       try clear q4
       try clear q471
       try clear q472
       obtain ⟨x9_3, x42_3, rfl, rfl, HA, HK3, HO_7, HB⟩ := hrel
       cases gk with
       | zero => exact absurd HA.out (by simp [pianolalaw04_capacity.l1])
       | succ k3 =>
        have H := HA.out
        clear HA
        simp only [pianolalaw04_capacity.l1] at H
        by_cases c11 : x42_3 < (l0.length : Int)
        ·
         rw [if_pos c11] at H
         have c11b0 : decide (x42_3 < (l0.length : Int)) = true := decide_eq_true c11
         clear c11
         by_cases c12 : 0 ≤ x42_3
         ·
          rw [if_pos c12] at H
          have c12b0 : decide (0 ≤ x42_3) = true := decide_eq_true c12
          clear c12
          by_cases c13 : x42_3 < (l0.length : Int)
          ·
           rw [if_pos c13] at H
           have c13b0 : decide (x42_3 < (l0.length : Int)) = true := decide_eq_true c13
           clear c13
           by_cases c14 : (wrap64 (x8_1 + 1)) ≥ ((rd_T71 l0 x42_3).f0)
           ·
            rw [if_pos c14] at H
            have c14b0 : decide (((rd_T71 l0 x42_3).f0) ≤ (wrap64 (x8_1 + 1))) = true := decide_eq_true c14
            clear c14
            replace H := Option.bind_eq_some_iff.mp H
            obtain ⟨t475, A150, H⟩ := H
            replace H : (pianolalaw04_capacity.l1 k3 l0 a1 l2 x7_1 x8_1 (mx x9_3 (wrap64 (((rd_T71 l0 x42_3).f1) - t475))) l0 (l0.length : Int) (wrap64 (x42_3 + 1))) = some r := H
            have A15 := zA A150
            clear A150
            obtain ⟨ji16, hji16⟩ : ∃ j_ : Int, (mx x9_3 (wrap64 (((rd_T71 l0 x42_3).f1) - t475))) = j_ := ⟨_, rfl⟩
            replace H : (pianolalaw04_capacity.l1 k3 l0 a1 l2 x7_1 x8_1 ji16 l0 (l0.length : Int) (wrap64 (x42_3 + 1))) = some r := by first | (rw [hji16] at H; exact H) | (simp only [hji16] at H ⊢; exact H)
            (try rw [hji16] at A15)
            have hji16_ : (if x9_3 < (wrap64 (((rd_T71 l0 x42_3).f1) - t475)) then (wrap64 (((rd_T71 l0 x42_3).f1) - t475)) else x9_3) = ji16 := hji16
            have H' := zA H
            clear H
            have p473 : 0 ≤ (x42_3 : Int) := of_decide_eq_true (zqD)
            have q473 : x42_3 < (l0.length : Int) := of_decide_eq_true (zqD)
            obtain ⟨ad473, e473, hx473_0, hx473_1⟩ := at_T71 HR0.out x42_3 p473 q473
            cases e473
            replace hx473_0 := (HB.out.cell (World.block_lt_of_cell? w _ hx473_0)).trans hx473_0
            replace hx473_1 := (HB.out.cell (World.block_lt_of_cell? w _ hx473_1)).trans hx473_1
            replace p473 := eq_true p473; replace q473 := eq_true q473
            go_wp2_with (first | ((with_reducible refine gate_dst (N := 11) rfl ?_); refine box_event ?hg (N := 11) ?hd (cs := #[.int .i64 0, .int .i64 0]) (t := 71) ?hr ?_; (case hd => rfl); (case hg => rfl); (case hr => first | (go_simp; done) | (go_simp; rfl)); intro gb474 hg w17 hbox hb; have n0_ := zA (Kd.R_below (zqC HO_7.out) hb); have n1_ := zA (below_step (zqA HB.out) hb); have n2_ := zA (hbox); have n3_ := zA ((by rw [hg]; exact (below_size (zqA HB.out)) : w.heap.size ≤ gb474)); have n4_ := zA ((by rw [hg]; exact (below_size (zqA HB.out)) : w.heap.size ≤ gb474)); clear HO_7; clear HB; have HO_7 := n0_; have HB := n1_; have BK474 := n2_; have GW474 := n3_; have GE474 := n4_; clear n0_ n1_ n2_ n3_ n4_; clear hb hbox hg; have hcz18_0 : w17.cell? ⟨gb474, 0, none⟩ = some (.int .i64 0) := (blk_cell BK474.out 0).trans rfl; have hcz18_1 : w17.cell? ⟨gb474, 1, none⟩ = some (.int .i64 0) := (blk_cell BK474.out 1).trans rfl; have hfz18_0 := blk_frozen BK474.out 0; have hfz18_1 := blk_frozen BK474.out 1; obtain ⟨Ao19, co19, eo19⟩ := Kd.R_slice HO_7.out; subst eo19) | (go_at_call 43; (with_reducible refine (pianolalaw04_sums.calls k3 _ _ x7_1 (wrap64 ((wrap64 (x8_1 - ((rd_T71 l0 x42_3).f0))) + 1)) ((rd_T71 l0 x42_3).f0) t475 _ ?side1 ?side2 A15.out).mono ?_); (case side1 => refine (Kd.R_reads' (e := 3) (base := w.heap.size) (ok := fun k_ => True) (n := x7_1.length) (c := co19) ?_).2.2; exact (by (with_reducible repeat (first | apply Kd.R_alloc | apply Kd.R_drewN | apply Kd.R_drew)); exact (Kd.R_mono (Kd.R_far (p := ⟨gb474, 1, none⟩) (Kd.R_far (p := ⟨gb474, 0, none⟩) (Kd.R_types HO_7.out BK474.out (by decide)) (fun _ hk => hk.2) (.int .i64 ((rd_T71 l0 x42_3).f0))) (fun _ hk => hk.2) (.int .i64 ((rd_T71 l0 x42_3).f1))) (fun _ h_ => h_.1)))); (case side2 => exact (Kd.R_reads' HO_7.out).2.1); rintro e w' ⟨rfl, ⟨nd, rfl⟩⟩; (try first | exact ⟨rfl, _, World.drewN_drewN _ _ _⟩ | exact ⟨rfl, _, Eq.trans (World.drewN_drewN _ _ _) (congrArg (World.drewN _) (Nat.add_assoc _ _ _))⟩)))
            repeat (go_quiet (first | ((with_reducible refine gate_dst (N := 11) rfl ?_); refine box_event ?hg (N := 11) ?hd (cs := #[.int .i64 0, .int .i64 0]) (t := 71) ?hr ?_; (case hd => rfl); (case hg => rfl); (case hr => first | (go_simp; done) | (go_simp; rfl)); intro gb474 hg w17 hbox hb; have n0_ := zA (Kd.R_below (zqC HO_7.out) hb); have n1_ := zA (below_step (zqA HB.out) hb); have n2_ := zA (hbox); have n3_ := zA ((by rw [hg]; exact (below_size (zqA HB.out)) : w.heap.size ≤ gb474)); have n4_ := zA ((by rw [hg]; exact (below_size (zqA HB.out)) : w.heap.size ≤ gb474)); clear HO_7; clear HB; have HO_7 := n0_; have HB := n1_; have BK474 := n2_; have GW474 := n3_; have GE474 := n4_; clear n0_ n1_ n2_ n3_ n4_; clear hb hbox hg; have hcz18_0 : w17.cell? ⟨gb474, 0, none⟩ = some (.int .i64 0) := (blk_cell BK474.out 0).trans rfl; have hcz18_1 : w17.cell? ⟨gb474, 1, none⟩ = some (.int .i64 0) := (blk_cell BK474.out 1).trans rfl; have hfz18_0 := blk_frozen BK474.out 0; have hfz18_1 := blk_frozen BK474.out 1; obtain ⟨Ao19, co19, eo19⟩ := Kd.R_slice HO_7.out; subst eo19) | (go_at_call 43; (with_reducible refine (pianolalaw04_sums.calls k3 _ _ x7_1 (wrap64 ((wrap64 (x8_1 - ((rd_T71 l0 x42_3).f0))) + 1)) ((rd_T71 l0 x42_3).f0) t475 _ ?side1 ?side2 A15.out).mono ?_); (case side1 => refine (Kd.R_reads' (e := 3) (base := w.heap.size) (ok := fun k_ => True) (n := x7_1.length) (c := co19) ?_).2.2; exact (by (with_reducible repeat (first | apply Kd.R_alloc | apply Kd.R_drewN | apply Kd.R_drew)); exact (Kd.R_mono (Kd.R_far (p := ⟨gb474, 1, none⟩) (Kd.R_far (p := ⟨gb474, 0, none⟩) (Kd.R_types HO_7.out BK474.out (by decide)) (fun _ hk => hk.2) (.int .i64 ((rd_T71 l0 x42_3).f0))) (fun _ hk => hk.2) (.int .i64 ((rd_T71 l0 x42_3).f1))) (fun _ h_ => h_.1)))); (case side2 => exact (Kd.R_reads' HO_7.out).2.1); rintro e w' ⟨rfl, ⟨nd, rfl⟩⟩; (try first | exact ⟨rfl, _, World.drewN_drewN _ _ _⟩ | exact ⟨rfl, _, Eq.trans (World.drewN_drewN _ _ _) (congrArg (World.drewN _) (Nat.add_assoc _ _ _))⟩))); try go_wp2_with (first | ((with_reducible refine gate_dst (N := 11) rfl ?_); refine box_event ?hg (N := 11) ?hd (cs := #[.int .i64 0, .int .i64 0]) (t := 71) ?hr ?_; (case hd => rfl); (case hg => rfl); (case hr => first | (go_simp; done) | (go_simp; rfl)); intro gb474 hg w17 hbox hb; have n0_ := zA (Kd.R_below (zqC HO_7.out) hb); have n1_ := zA (below_step (zqA HB.out) hb); have n2_ := zA (hbox); have n3_ := zA ((by rw [hg]; exact (below_size (zqA HB.out)) : w.heap.size ≤ gb474)); have n4_ := zA ((by rw [hg]; exact (below_size (zqA HB.out)) : w.heap.size ≤ gb474)); clear HO_7; clear HB; have HO_7 := n0_; have HB := n1_; have BK474 := n2_; have GW474 := n3_; have GE474 := n4_; clear n0_ n1_ n2_ n3_ n4_; clear hb hbox hg; have hcz18_0 : w17.cell? ⟨gb474, 0, none⟩ = some (.int .i64 0) := (blk_cell BK474.out 0).trans rfl; have hcz18_1 : w17.cell? ⟨gb474, 1, none⟩ = some (.int .i64 0) := (blk_cell BK474.out 1).trans rfl; have hfz18_0 := blk_frozen BK474.out 0; have hfz18_1 := blk_frozen BK474.out 1; obtain ⟨Ao19, co19, eo19⟩ := Kd.R_slice HO_7.out; subst eo19) | (go_at_call 43; (with_reducible refine (pianolalaw04_sums.calls k3 _ _ x7_1 (wrap64 ((wrap64 (x8_1 - ((rd_T71 l0 x42_3).f0))) + 1)) ((rd_T71 l0 x42_3).f0) t475 _ ?side1 ?side2 A15.out).mono ?_); (case side1 => refine (Kd.R_reads' (e := 3) (base := w.heap.size) (ok := fun k_ => True) (n := x7_1.length) (c := co19) ?_).2.2; exact (by (with_reducible repeat (first | apply Kd.R_alloc | apply Kd.R_drewN | apply Kd.R_drew)); exact (Kd.R_mono (Kd.R_far (p := ⟨gb474, 1, none⟩) (Kd.R_far (p := ⟨gb474, 0, none⟩) (Kd.R_types HO_7.out BK474.out (by decide)) (fun _ hk => hk.2) (.int .i64 ((rd_T71 l0 x42_3).f0))) (fun _ hk => hk.2) (.int .i64 ((rd_T71 l0 x42_3).f1))) (fun _ h_ => h_.1)))); (case side2 => exact (Kd.R_reads' HO_7.out).2.1); rintro e w' ⟨rfl, ⟨nd, rfl⟩⟩; (try first | exact ⟨rfl, _, World.drewN_drewN _ _ _⟩ | exact ⟨rfl, _, Eq.trans (World.drewN_drewN _ _ _) (congrArg (World.drewN _) (Nat.add_assoc _ _ _))⟩))))
            go_roundg k3
            case measure => have := HK1.out; have := HJ4.out; have := HK3.out; omega
            case rel => exact ⟨(ji16), (wrap64 (x42_3 + 1)), (by first | rfl | (simp; done) | (simp only [← hji16] <;> (first | rfl | simp)) | (simp [*]; done)), zqQ, H', ⟨by have := HK1.out; have := HJ4.out; have := HK3.out; omega⟩, ⟨by (with_reducible repeat (first | apply Kd.R_alloc | apply Kd.R_drewN | apply Kd.R_drew)); exact Kd.R_mono (Kd.R_far (p := ⟨gb474, 1, none⟩) (Kd.R_far (p := ⟨gb474, 0, none⟩) (Kd.R_types HO_7.out BK474.out (by decide)) (fun _ hk => hk.2) (.int .i64 ((rd_T71 l0 x42_3).f0))) (fun _ hk => hk.2) (.int .i64 ((rd_T71 l0 x42_3).f1))) (fun _ hk => trivial)⟩, ⟨zqG HB.out GE474.out⟩⟩
           ·
            rw [if_neg c14] at H
            have c14b0 : decide (((rd_T71 l0 x42_3).f0) ≤ (wrap64 (x8_1 + 1))) = false := decide_eq_false c14
            clear c14
            have H' := zA H
            clear H
            have p473 : 0 ≤ (x42_3 : Int) := of_decide_eq_true (zqD)
            have q473 : x42_3 < (l0.length : Int) := of_decide_eq_true (zqD)
            obtain ⟨ad473, e473, hx473_0, hx473_1⟩ := at_T71 HR0.out x42_3 p473 q473
            cases e473
            replace hx473_0 := (HB.out.cell (World.block_lt_of_cell? w _ hx473_0)).trans hx473_0
            replace hx473_1 := (HB.out.cell (World.block_lt_of_cell? w _ hx473_1)).trans hx473_1
            replace p473 := eq_true p473; replace q473 := eq_true q473
            go_wp2_with (first | ((with_reducible refine gate_dst (N := 11) rfl ?_); refine box_event ?hg (N := 11) ?hd (cs := #[.int .i64 0, .int .i64 0]) (t := 71) ?hr ?_; (case hd => rfl); (case hg => rfl); (case hr => first | (go_simp; done) | (go_simp; rfl)); intro gb474 hg w20 hbox hb; have n0_ := zA (Kd.R_below (zqC HO_7.out) hb); have n1_ := zA (below_step (zqA HB.out) hb); have n2_ := zA (hbox); have n3_ := zA ((by rw [hg]; exact (below_size (zqA HB.out)) : w.heap.size ≤ gb474)); have n4_ := zA ((by rw [hg]; exact (below_size (zqA HB.out)) : w.heap.size ≤ gb474)); clear HO_7; clear HB; have HO_7 := n0_; have HB := n1_; have BK474 := n2_; have GW474 := n3_; have GE474 := n4_; clear n0_ n1_ n2_ n3_ n4_; clear hb hbox hg; have hcz21_0 : w20.cell? ⟨gb474, 0, none⟩ = some (.int .i64 0) := (blk_cell BK474.out 0).trans rfl; have hcz21_1 : w20.cell? ⟨gb474, 1, none⟩ = some (.int .i64 0) := (blk_cell BK474.out 1).trans rfl; have hfz21_0 := blk_frozen BK474.out 0; have hfz21_1 := blk_frozen BK474.out 1))
            repeat (go_quiet (fail); try go_wp2)
            go_roundg k3
            case measure => have := HK1.out; have := HJ4.out; have := HK3.out; omega
            case rel => exact ⟨(x9_3), (wrap64 (x42_3 + 1)), zqQ, zqQ, H', ⟨by have := HK1.out; have := HJ4.out; have := HK3.out; omega⟩, ⟨by (with_reducible repeat (first | apply Kd.R_alloc | apply Kd.R_drewN | apply Kd.R_drew)); exact Kd.R_mono (Kd.R_far (p := ⟨gb474, 1, none⟩) (Kd.R_far (p := ⟨gb474, 0, none⟩) (Kd.R_types HO_7.out BK474.out (by decide)) (fun _ hk => hk.2) (.int .i64 ((rd_T71 l0 x42_3).f0))) (fun _ hk => hk.2) (.int .i64 ((rd_T71 l0 x42_3).f1))) (fun _ hk => trivial)⟩, ⟨zqG HB.out GE474.out⟩⟩
          ·
           rw [if_neg c13] at H
           exact absurd H (by simp)
         ·
          rw [if_neg c12] at H
          exact absurd H (by simp)
        ·
         rw [if_neg c11] at H
         have c11b0 : decide (x42_3 < (l0.length : Int)) = false := decide_eq_false c11
         clear c11
         by_cases c22 : x7_1.length < 17592186044416
         ·
          rw [if_pos c22] at H
          have LMc22 := zA c22
          clear c22
          obtain ⟨y476, hy476⟩ : ∃ y_ : List Int, y_ = (x7_1 ++ [x9_3]) := ⟨_, rfl⟩
          replace H : (pianolalaw04_capacity.l0 k3 l0 a1 l2 y476 (wrap64 (x8_1 + 1))) = some r := zqF hy476 H
          have Ny476 := zA hy476
          clear hy476
          have H' := zA H
          clear H
          go_wp2_with (first | ((with_reducible refine gate_builtin (b := .append) (xs := #[.tmp 66, .tmp 68]) rfl ?_); at_builtin; refine Kd.R_append (Kd.int .i64) (w0 := w) w.heap.size rfl (.tmp 66) (.tmp 68) 30 3 (.int .i64 0) 8 rfl Try.underlying30 info3 rfl (by decide) (by omega) u7 x7_1 x9_3 [.int .i64 x9_3] (fun _ => True) (fun _ => False) rfl rfl ?aP (fun _ hk => hk.elim) ?aF ?aO ?aB ?aS ?aL ?_; (case aP => exact rfl); (case aB => exact (zqA HB.out)); (case aF => exact (fun _ _ => trivial)); (case aO => exact (zqC HO_7.out)); (case aS => exact (below_size (zqA HB.out))); (case aL => have := LMc22.out; omega); intro v477 w23 ho hb hg hat; rw [← Ny476.out] at ho; have n0_ := zA (hb); have n1_ := zA (ho); clear HB; clear HO_7; have HB := n0_; have HO478 := n1_; clear n0_ n1_; clear ho hb hg hat))
          repeat (go_quiet (first | ((with_reducible refine gate_builtin (b := .append) (xs := #[.tmp 66, .tmp 68]) rfl ?_); at_builtin; refine Kd.R_append (Kd.int .i64) (w0 := w) w.heap.size rfl (.tmp 66) (.tmp 68) 30 3 (.int .i64 0) 8 rfl Try.underlying30 info3 rfl (by decide) (by omega) u7 x7_1 x9_3 [.int .i64 x9_3] (fun _ => True) (fun _ => False) rfl rfl ?aP (fun _ hk => hk.elim) ?aF ?aO ?aB ?aS ?aL ?_; (case aP => exact rfl); (case aB => exact (zqA HB.out)); (case aF => exact (fun _ _ => trivial)); (case aO => exact (zqC HO_7.out)); (case aS => exact (below_size (zqA HB.out))); (case aL => have := LMc22.out; omega); intro v477 w23 ho hb hg hat; rw [← Ny476.out] at ho; have n0_ := zA (hb); have n1_ := zA (ho); clear HB; clear HO_7; have HB := n0_; have HO478 := n1_; clear n0_ n1_; clear ho hb hg hat)); try go_wp2_with (first | ((with_reducible refine gate_builtin (b := .append) (xs := #[.tmp 66, .tmp 68]) rfl ?_); at_builtin; refine Kd.R_append (Kd.int .i64) (w0 := w) w.heap.size rfl (.tmp 66) (.tmp 68) 30 3 (.int .i64 0) 8 rfl Try.underlying30 info3 rfl (by decide) (by omega) u7 x7_1 x9_3 [.int .i64 x9_3] (fun _ => True) (fun _ => False) rfl rfl ?aP (fun _ hk => hk.elim) ?aF ?aO ?aB ?aS ?aL ?_; (case aP => exact rfl); (case aB => exact (zqA HB.out)); (case aF => exact (fun _ _ => trivial)); (case aO => exact (zqC HO_7.out)); (case aS => exact (below_size (zqA HB.out))); (case aL => have := LMc22.out; omega); intro v477 w23 ho hb hg hat; rw [← Ny476.out] at ho; have n0_ := zA (hb); have n1_ := zA (ho); clear HB; clear HO_7; have HB := n0_; have HO478 := n1_; clear n0_ n1_; clear ho hb hg hat)))
          go_roundg k3
          case measure => have := HK1.out; have := HJ4.out; have := HK3.out; omega
          case rel => exact ⟨(y476), (wrap64 (x8_1 + 1)), zqQ, H', ⟨by have := HK1.out; have := HJ4.out; have := HK3.out; omega⟩, ⟨zqC HO478.out⟩, ⟨zqA HB.out⟩⟩
         ·
          rw [if_neg c22] at H
          exact absurd H (by simp)
   ·
    rw [if_neg c4] at H
    have c4b0 : decide (x8_1 < a1) = false := decide_eq_false c4
    clear c4
    obtain rfl := Option.some.inj H
    go_wp2
    repeat (go_quiet (fail); try go_wp2)
    go_ret
    exact ⟨_, zqR, zqC HO_7.out, zqA HB.out⟩
end Go.Proofs.Ythoeindopljmkaa.P
end
end
section
open List (setIfInBounds_toArray set_cons_zero set_cons_succ)
section
namespace Go.Proofs.Ythoeindopljmkaa.P
open Go.RowKit Go.Proofs.YthoeindopljmkaaW.PrintWords Go.Proofs.YthoeindopljmkaaW.PrintLast Go.Proofs.YthoeindopljmkaaW.PrintMore
attribute [local go_sem] max2_int min2_int max_two min_two max_three min_three max_four min_four
set_option linter.unusedVariables false
set_option linter.unusedSimpArgs false
mutual
def pianolalaw04_course.l0 : Nat → Int → List Int → List (List (S71)) → Int → Int → List (List (S71)) → List (List (S71)) → List (List Int) → Option ((List (List Int)) × (List (List Int)))
  | 0, _, _, _, _, _, _, _, _ => none
  | k + 1, x1, x2, x15, x16, x17, x537000, x537001, x539000 => if x17 < x16 then (if 0 ≤ x17 then (if x17 < (x15.length : Int) then (if (x2.length : Int) > x17 then (if x17 ≤ (x2.length : Int) then ((pianolalaw04_demand.f k (rd_L4 x15 x17) x1 (x2.drop (x17 : Int).toNat)).bind fun t541 => (if x539000.length < 5864062014805 then (pianolalaw04_course.l0 k x1 x2 x15 x16 (wrap64 (x17 + 1)) x537000 x537001 (x539000 ++ [t541])) else (none))) else (none)) else ((pianolalaw04_demand.f k (rd_L4 x15 x17) x1 x2).bind fun t547 => (if x539000.length < 5864062014805 then (pianolalaw04_course.l0 k x1 x2 x15 x16 (wrap64 (x17 + 1)) x537000 x537001 (x539000 ++ [t547])) else (none)))) else (none)) else (none)) else (pianolalaw04_course.l1 k x1 x2 x537001 (x537001.length : Int) 0 x539000 ([] : List (List Int)))
def pianolalaw04_course.l1 : Nat → Int → List Int → List (List (S71)) → Int → Int → List (List Int) → List (List Int) → Option ((List (List Int)) × (List (List Int)))
  | 0, _, _, _, _, _, _, _ => none
  | k + 1, x1, x2, x41, x42, x43, x539000, x539001 => if x43 < x42 then (if 0 ≤ x43 then (if x43 < (x41.length : Int) then (if (x2.length : Int) > (wrap64 ((wrap64 (2 * x43)) + 1)) then (if 0 ≤ (wrap64 ((wrap64 (2 * x43)) + 1)) then (if (wrap64 ((wrap64 (2 * x43)) + 1)) ≤ (x2.length : Int) then ((pianolalaw04_capacity.f k (rd_L4 x41 x43) x1 (x2.drop ((wrap64 ((wrap64 (2 * x43)) + 1)) : Int).toNat)).bind fun t555 => (if x539001.length < 5864062014805 then (pianolalaw04_course.l1 k x1 x2 x41 x42 (wrap64 (x43 + 1)) x539000 (x539001 ++ [t555])) else (none))) else (none)) else (none)) else ((pianolalaw04_capacity.f k (rd_L4 x41 x43) x1 ([] : List Int)).bind fun t561 => (if x539001.length < 5864062014805 then (pianolalaw04_course.l1 k x1 x2 x41 x42 (wrap64 (x43 + 1)) x539000 (x539001 ++ [t561])) else (none)))) else (none)) else (none)) else (some (x539000, x539001))
end
def pianolalaw04_course.f (k : Nat) (l0_0 : List (List (S71))) (l0_1 : List (List (S71))) (a1 : Int) (l2 : List Int) : Option ((List (List Int)) × (List (List Int))) := pianolalaw04_course.l0 k a1 l2 l0_0 (l0_0.length : Int) 0 l0_0 l0_1 ([] : List (List Int))
def pianolalaw04_course.T8 : Bool × List (List Nat × List Nat) := (true, [([], []), ([0], [0]), ([], []), ([], []), ([], []), ([2, 3, 4], [2, 3, 4]), ([5], [5]), ([1, 6, 5], [1, 6]), ([0, 1, 2, 3, 4, 5, 6, 7], []), ([8, 7, 7, 0, 1, 2, 3, 4, 5, 6, 7], [7, 8])])
def pianolalaw04_course.B8 : List Nat := [0, 1, 0, 0, 0, 28, 60, 127, 255, 511]
theorem pianolalaw04_course.tab8 : rtab .any (opsOf Try.f45 8) = pianolalaw04_course.T8 := by kernel_rfl
theorem pianolalaw04_course.bits8 : waitsOk pianolalaw04_course.T8.2 pianolalaw04_course.B8 = true := by kernel_rfl
def pianolalaw04_course.T16 : Bool × List (List Nat × List Nat) := (true, [([], []), ([0], [0]), ([], []), ([], []), ([], []), ([2, 3, 4], [2, 3, 4]), ([5], [5]), ([1, 6, 5], [1, 6]), ([0, 1, 2, 3, 4, 5, 6, 7], []), ([8, 7, 7, 0, 1, 2, 3, 4, 5, 6, 7], [7, 8])])
def pianolalaw04_course.B16 : List Nat := [0, 1, 0, 0, 0, 28, 60, 127, 255, 511]
theorem pianolalaw04_course.tab16 : rtab .any (opsOf Try.f45 16) = pianolalaw04_course.T16 := by kernel_rfl
theorem pianolalaw04_course.bits16 : waitsOk pianolalaw04_course.T16.2 pianolalaw04_course.B16 = true := by kernel_rfl
set_option maxHeartbeats 8000000 in
set_option maxRecDepth 100000 in
theorem pianolalaw04_course.calls (k : Nat) (A0_0 : Option Addr) (c0_0 : Nat) (l0_0 : List (List (S71))) (A0_1 : Option Addr) (c0_1 : Nat) (l0_1 : List (List (S71))) (a1 : Int) (A2 : Option Addr) (c2 : Nat) (l2 : List Int) (r1 : List (List Int)) (r2 : List (List Int)) (w : World) (hr0_0 : Kd.C (Kd.slice 71 k71) w A0_0 l0_0.length l0_0) (hc0_0 : l0_0.length ≤ c0_0) (hr0_1 : Kd.C (Kd.slice 71 k71) w A0_1 l0_1.length l0_1) (hc0_1 : l0_1.length ≤ c0_1) (hr2 : Kd.C (Kd.int .u8) w A2 l2.length l2) (hc2 : l2.length ≤ c2) (h : pianolalaw04_course.f k l0_0 l0_1 a1 l2 = some (r1, r2)) :
  Calls Try.prog 45 #[.agg #[.slice A0_0 l0_0.length c0_0, .slice A0_1 l0_1.length c0_1], .int .i64 a1, .slice A2 l2.length c2] w fun e w' => ∃ v0_ v1_ : Value, e = .returned (.agg #[v0_, v1_]) ∧ Kd.S (Kd.slice 3 (Kd.int .i64)) 30 w' w.heap.size (fun k_ => some k_ ≠ (v1_ : Value).ownBlock) v0_ r1 ∧ Kd.S (Kd.slice 3 (Kd.int .i64)) 30 w' w.heap.size (fun k_ => some k_ ≠ (v0_ : Value).ownBlock) v1_ r2 ∧ Below w.heap.size w w' := by
 have hu40 := Try.underlying40
 have hu56 := Try.underlying56
 have HR0_0 := zA hr0_0
 have HC0_0 := zA hc0_0
 clear hr0_0 hc0_0
 have HR0_1 := zA hr0_1
 have HC0_1 := zA hc0_1
 clear hr0_1 hc0_1
 have HR2 := zA hr2
 have HC2 := zA hc2
 clear hr2 hc2
 have HB := zA (Below.refl w.heap.size w)
 have H : (pianolalaw04_course.l0 k a1 l2 l0_0 (l0_0.length : Int) 0 l0_0 l0_1 ([] : List (List Int))) = some (r1, r2) := h
 clear h
 have H' := zA H
 clear H
 go_enter Try.func45, Try.ntmps45
 go_wp2_with (first | ((with_reducible refine gate_dst (N := 3) rfl ?_); refine box_event ?hg (N := 3) ?hd (cs := #[.slice A0_0 l0_0.length c0_0, .slice A0_1 l0_1.length c0_1]) (t := 40) ?hr ?_; (case hd => rfl); (case hg => rfl); (case hr => first | (go_simp; done) | (go_simp; rfl)); intro gb536 hg w4 hbox hb; have n0_ := zA (below_step (zqA HB.out) hb); have n1_ := zA (hbox); have n2_ := zA ((by rw [hg]; exact (below_size (zqA HB.out)) : w.heap.size ≤ gb536)); have n3_ := zA ((by rw [hg]; exact (below_size (zqA HB.out)) : w.heap.size ≤ gb536)); clear HB; have HB := n0_; have BK536 := n1_; have GW536 := n2_; have GE536 := n3_; clear n0_ n1_ n2_ n3_; clear hb hbox hg) | ((with_reducible refine gate_dst (N := 6) rfl ?_); refine box_event ?hg (N := 6) ?hd (cs := #[.slice none 0 0, .slice none 0 0]) (t := 56) ?hr ?_; (case hd => rfl); (case hg => rfl); (case hr => first | (go_simp; done) | (go_simp; rfl)); intro gb537 hg w5 hbox hb; have n0_ := zA (blk_below (g := gb536) (o := .cells #[.slice A0_0 l0_0.length c0_0, .slice A0_1 l0_1.length c0_1] 40 (0, 0)) (zqB BK536.out) hb); have n1_ := zA (below_step (zqG HB.out GE536.out) hb); have n2_ := zA (hbox); have n3_ := zA ((by rw [hg]; exact (below_size (zqG HB.out GE536.out)) : w.heap.size ≤ gb537)); have n4_ := zA ((by rw [hg]; exact (below_size (zqG HB.out GE536.out)) : w.heap.size ≤ gb537)); have n5_ := zA ((by rw [hg]; exact Nat.ne_of_lt (blk_lt (g := gb536) (o := .cells #[.slice A0_0 l0_0.length c0_0, .slice A0_1 l0_1.length c0_1] 40 (0, 0)) (zqB BK536.out)) : gb536 ≠ gb537)); have n6_ := zA ((by rw [hg]; exact Nat.ne_of_gt (blk_lt (g := gb536) (o := .cells #[.slice A0_0 l0_0.length c0_0, .slice A0_1 l0_1.length c0_1] 40 (0, 0)) (zqB BK536.out)) : gb537 ≠ gb536)); clear BK536; clear HB; have BK536 := n0_; have HB := n1_; have BK537 := n2_; have GW537 := n3_; have GE537 := n4_; have NB536_537 := n5_; have NB537_536 := n6_; clear n0_ n1_ n2_ n3_ n4_ n5_ n6_; clear hb hbox hg) | ((with_reducible refine gate_dst (N := 7) rfl ?_); refine box_event ?hg (N := 7) ?hd (cs := #[.slice none 0 0, .slice none 0 0]) (t := 56) ?hr ?_; (case hd => rfl); (case hg => rfl); (case hr => first | (go_simp; done) | (go_simp; rfl)); intro gb538 hg w6 hbox hb; have n0_ := zA (blk_below (g := gb536) (o := .cells #[.slice A0_0 l0_0.length c0_0, .slice A0_1 l0_1.length c0_1] 40 (0, 0)) (zqB BK536.out) hb); have n1_ := zA (blk_below (g := gb537) (o := .cells #[.slice none 0 0, .slice none 0 0] 56 (0, 0)) (zqB BK537.out) hb); have n2_ := zA (below_step (zqH HB.out GE536.out GE537.out) hb); have n3_ := zA (hbox); have n4_ := zA ((by rw [hg]; exact (below_size (zqH HB.out GE536.out GE537.out)) : w.heap.size ≤ gb538)); have n5_ := zA ((by rw [hg]; exact (below_size (zqH HB.out GE536.out GE537.out)) : w.heap.size ≤ gb538)); have n6_ := zA ((by rw [hg]; exact Nat.ne_of_lt (blk_lt (g := gb536) (o := .cells #[.slice A0_0 l0_0.length c0_0, .slice A0_1 l0_1.length c0_1] 40 (0, 0)) (zqB BK536.out)) : gb536 ≠ gb538)); have n7_ := zA ((by rw [hg]; exact Nat.ne_of_gt (blk_lt (g := gb536) (o := .cells #[.slice A0_0 l0_0.length c0_0, .slice A0_1 l0_1.length c0_1] 40 (0, 0)) (zqB BK536.out)) : gb538 ≠ gb536)); have n8_ := zA ((by rw [hg]; exact Nat.ne_of_lt (blk_lt (g := gb537) (o := .cells #[.slice none 0 0, .slice none 0 0] 56 (0, 0)) (zqB BK537.out)) : gb537 ≠ gb538)); have n9_ := zA ((by rw [hg]; exact Nat.ne_of_gt (blk_lt (g := gb537) (o := .cells #[.slice none 0 0, .slice none 0 0] 56 (0, 0)) (zqB BK537.out)) : gb538 ≠ gb537)); clear BK536; clear BK537; clear HB; have BK536 := n0_; have BK537 := n1_; have HB := n2_; have BK538 := n3_; have GW538 := n4_; have GE538 := n5_; have NB536_538 := n6_; have NB538_536 := n7_; have NB537_538 := n8_; have NB538_537 := n9_; clear n0_ n1_ n2_ n3_ n4_ n5_ n6_ n7_ n8_ n9_; clear hb hbox hg; have hnb7 := NB536_537.out; have hnc7 := NB537_536.out; have hnb8 := NB536_538.out; have hnc8 := NB538_536.out; have hcz9_0 : w6.cell? ⟨gb536, 0, none⟩ = some (.slice A0_0 l0_0.length c0_0) := (blk_cell BK536.out 0).trans rfl; have hcz9_1 : w6.cell? ⟨gb536, 1, none⟩ = some (.slice A0_1 l0_1.length c0_1) := (blk_cell BK536.out 1).trans rfl; have hfz9_0 := blk_frozen BK536.out 0; have hfz9_1 := blk_frozen BK536.out 1))
 go_loopg [17] k (fun kq v17 w' => ∃ (x17_1 : Int) (x539000_1 : List (List Int)) (u539000 : Value), v17 = .int .i64 x17_1 ∧ Aside0 (pianolalaw04_course.l0 kq a1 l2 l0_0 (l0_0.length : Int) x17_1 l0_0 l0_1 x539000_1 = some (r1, r2)) ∧ Aside0 (kq ≤ k) ∧ Aside0 (Kd.S (Kd.slice 3 (Kd.int .i64)) 30 w' w.heap.size (fun _ => True) u539000 x539000_1) ∧ Aside0 (w'.heap[gb536]? = some (.cells #[(.slice A0_0 l0_0.length c0_0), (.slice A0_1 l0_1.length c0_1)] 40 (0, 0))) ∧ Aside0 (w'.heap[gb537]? = some (.cells #[(.slice none 0 0), (.slice none 0 0)] 56 (0, 0))) ∧ Aside0 (w'.heap[gb538]? = some (.cells #[u539000, (.slice none 0 0)] 56 (0, 0))) ∧ Aside0 (Below w.heap.size w w'))
 case atStart => exact ⟨(0), (([] : List (List Int))), (.slice none 0 0), zqQ, H', ⟨Nat.le_refl _⟩, ⟨by first | exact Kd.S_nil _ _ _ _ _ | exact Kd.N_nil _ _ _ _ _ | exact Kd.V_nil _ _ _ _ _ | exact Kd.Q_nil _ _ _ _ _ | exact Kd.R_nil _ _ _ _ _⟩, ⟨zqB BK536.out⟩, ⟨zqB BK537.out⟩, ⟨zqB BK538.out⟩, ⟨zqI HB.out GE536.out GE537.out GE538.out⟩⟩
 case round =>
  clear H'
  try clear c2
  try clear p2
  try clear c4
  try clear c7
  try clear c8
  try clear hcz9_0
  try clear hcz9_1
  try clear hfz9_0
  try clear hfz9_1
  obtain ⟨x17_1, x539000_1, u539000, rfl, HA, HK1, HO_539000, BK536, BK537, BK538, HB⟩ := hrel
  cases gk with
  | zero => exact absurd HA.out (by simp [pianolalaw04_course.l0])
  | succ k1 =>
   have H := HA.out
   clear HA
   simp only [pianolalaw04_course.l0] at H
   by_cases c10 : x17_1 < (l0_0.length : Int)
   ·
    rw [if_pos c10] at H
    have c10b0 : decide (x17_1 < (l0_0.length : Int)) = true := decide_eq_true c10
    clear c10
    by_cases c11 : 0 ≤ x17_1
    ·
     rw [if_pos c11] at H
     have c11b0 : decide (0 ≤ x17_1) = true := decide_eq_true c11
     clear c11
     by_cases c12 : x17_1 < (l0_0.length : Int)
     ·
      rw [if_pos c12] at H
      have c12b0 : decide (x17_1 < (l0_0.length : Int)) = true := decide_eq_true c12
      clear c12
      by_cases c13 : (l2.length : Int) > x17_1
      ·
       rw [if_pos c13] at H
       have c13b0 : decide (x17_1 < (l2.length : Int)) = true := decide_eq_true c13
       clear c13
       have c14b0 := eq_true (of_decide_eq_true (zqD) : 0 ≤ x17_1)
       by_cases c15 : x17_1 ≤ (l2.length : Int)
       ·
        rw [if_pos c15] at H
        have c15b0 := eq_true c15
        have c15b1 : decide (x17_1 ≤ (l2.length : Int)) = true := decide_eq_true c15
        clear c15
        replace H := Option.bind_eq_some_iff.mp H
        obtain ⟨t541, A160, H⟩ := H
        replace H : (if x539000_1.length < 5864062014805 then (pianolalaw04_course.l0 k1 a1 l2 l0_0 (l0_0.length : Int) (wrap64 (x17_1 + 1)) l0_0 l0_1 (x539000_1 ++ [t541])) else (none)) = some (r1, r2) := H
        have A16 := zA A160
        clear A160
        by_cases c17 : x539000_1.length < 5864062014805
        ·
         rw [if_pos c17] at H
         have LMc17 := zA c17
         clear c17
         obtain ⟨y544, hy544⟩ : ∃ y_ : List (List Int), y_ = (x539000_1 ++ [t541]) := ⟨_, rfl⟩
         replace H : (pianolalaw04_course.l0 k1 a1 l2 l0_0 (l0_0.length : Int) (wrap64 (x17_1 + 1)) l0_0 l0_1 y544) = some (r1, r2) := zqF hy544 H
         have Ny544 := zA hy544
         clear hy544
         have H' := zA H
         clear H
         have p539 : 0 ≤ (x17_1 : Int) := of_decide_eq_true (zqD)
         have q539 : x17_1 < (l0_0.length : Int) := of_decide_eq_true (zqD)
         obtain ⟨ad539, A539_0, c539_0, e539, hx539_0, hl539_0, hi539_0⟩ := at_L4 HR0_0.out x17_1 p539 q539
         cases e539
         replace hx539_0 := (HB.out.cell (World.block_lt_of_cell? w _ hx539_0)).trans hx539_0
         have HR539_0 := zA hi539_0
         have HC539_0 := zA hl539_0
         clear hi539_0 hl539_0; replace p539 := eq_true p539; replace q539 := eq_true q539
         obtain ⟨i018, hi018, _, hsz18, _⟩ := info_parts info5
         obtain ⟨A18, hcut18, hA18, hC18⟩ := print_drop_of (P := Try.prog) (Value.int .u8) 0 67 5 .i64 Try.underlying67 hi018 hsz18 A2 c2 l2 x17_1 (of_decide_eq_true (zqD)) (of_decide_eq_true (zqD)) HC2.out
         have HR540 := zA (Kd.C_of_reads (h1 := fun _ => rfl) (hA18 _ (Kd.reads_of_C HR2.out)))
         have HC540 := zA hC18
         clear hA18 hC18 hi018 hsz18
         try go_wp2
         have n0_ := zA (Kd.S_drew HO_539000.out); have n1_ := zA (blk_drew BK536.out); have n2_ := zA (blk_drew BK537.out); have n3_ := zA (blk_drew BK538.out); have n4_ := zA (below_drew1 HB.out); clear HO_539000 BK536 BK537 BK538 HB; have HO_539000 := n0_; have BK536 := n1_; have BK537 := n2_; have BK538 := n3_; have HB := n4_; clear n0_ n1_ n2_ n3_ n4_
         refine start_ (n := 10) (S := fun w' => w'.cell? ⟨gb538, 0, none⟩ = some (u539000) ∧ w'.cell? ⟨gb538, 1, none⟩ = some (.slice none 0 0)) (ds := [9]) #[false, false, false, false, false, false, false, false, false, false] (by kernel_rfl) rfl rfl ⟨(blk_cell BK538.out 0).trans rfl, (blk_cell BK538.out 1).trans rfl⟩ (fun hHeld => ?_); refine with_tabW pianolalaw04_course.tab8 pianolalaw04_course.bits8 (fun HT_ HW_ => ?_)
         generalize wr.drew = w19 at HO_539000 BK536 BK537 BK538 HB hHeld ⊢
         refine pure_ (i := 0) (N := some 30) (v := ?_) (a' := ?_) #[true, false, false, false, false, false, false, false, false, false] rfl rfl (any_of HT_.out (by kernel_rfl)) (fun _ _ _ h => h) (Or.inl ⟨by rfl, ?_⟩) ?_ ?_
         rotate_left
         ·
          intro w'
          go_simp
          with_reducible rfl
         rotate_left
         · simp only [Act.put, setIfInBounds_toArray, set_cons_zero, set_cons_succ, i64_w, i32_w]; rfl
         refine pure_ (i := 2) (N := some 32) (v := ?_) (a' := ?_) #[true, false, true, false, false, false, false, false, false, false] rfl rfl (any_of HT_.out (by kernel_rfl)) (fun _ _ _ h => h) (Or.inl ⟨by rfl, ?_⟩) ?_ ?_
         rotate_left
         ·
          intro w'
          go_simp
          with_reducible rfl
         rotate_left
         · simp only [Act.put, setIfInBounds_toArray, set_cons_zero, set_cons_succ, i64_w, i32_w]; rfl
         refine pure_ (i := 3) (N := some 33) (v := ?_) (a' := ?_) #[true, false, true, true, false, false, false, false, false, false] rfl rfl (any_of HT_.out (by kernel_rfl)) (fun _ _ _ h => h) (Or.inl ⟨by rfl, ?_⟩) ?_ ?_
         rotate_left
         ·
          intro w'
          go_simp
          with_reducible rfl
         rotate_left
         · simp only [Act.put, setIfInBounds_toArray, set_cons_zero, set_cons_succ, i64_w, i32_w]; rfl
         refine pure_ (i := 4) (N := some 34) (v := ?_) (a' := ?_) #[true, false, true, true, true, false, false, false, false, false] rfl rfl (any_of HT_.out (by kernel_rfl)) (fun _ _ _ h => h) (Or.inl ⟨by rfl, ?_⟩) ?_ ?_
         rotate_left
         ·
          intro w'
          go_simp
          with_reducible rfl
         rotate_left
         · simp only [Act.put, setIfInBounds_toArray, set_cons_zero, set_cons_succ, i64_w, i32_w]; rfl
         refine take_ (i := 1) (N := some 31) (v := ?_) (a' := ?_) #[true, true, true, true, true, false, false, false, false, false] rfl rfl (take_ofW HT_.out HW_.out (by kernel_rfl)) (fun _ _ _ h => h) (Or.inl ⟨by rfl, ?_⟩) hHeld ?_ ?_
         rotate_left
         ·
          rintro w' ⟨s0, s1⟩
          go_simp
          with_reducible rfl
         rotate_left
         · simp only [Act.put, setIfInBounds_toArray, set_cons_zero, set_cons_succ, i64_w, i32_w]; rfl
         refine one_ (i := 5) (N := some 35) #[true, true, true, true, true, true, false, false, false, false] rfl rfl (one_of HT_.out (by kernel_rfl)) (by decide) (fun K hK => ?_)
         refine goes_ Try.func41 (by kernel_rfl) rfl #[.slice A539_0 (rd_L4 l0_0 x17_1).length c539_0, .int .i64 a1, .slice A18 (l2.drop (x17_1 : Int).toNat).length (c2 - x17_1.toNat)] (by rfl) rfl rfl (by (try simp only [List.map_toArray, List.map_cons, List.map_nil]); first | done | (rw [show (l2.drop (x17_1 : Int).toNat).length = (l2.length - x17_1.toNat) from List.length_drop] <;> rfl) | rfl | (simp only [List.length_drop, List.length_take]; rfl)) ?_
         with_reducible refine (pianolalaw04_demand.calls k1 _ _ (rd_L4 l0_0 x17_1) a1 _ _ (l2.drop (x17_1 : Int).toNat) t541 _ ?side1 ?side2 ?side3 ?side4 A16.out).mono ?_
         (case side1 => exact zqK (Kd.C_below HR539_0.out HB.out))
         (case side2 => exact HC539_0.out)
         (case side3 => exact zqK (Kd.C_below HR540.out HB.out))
         (case side4 => exact HC540.out)
         rintro e w20 ⟨v542, rfl, ho0, hb⟩
         refine ⟨_, rfl, ?_⟩
         have n0_ := zA (Kd.S_elder' (by (with_reducible repeat (first | apply Kd.S_alloc | apply Kd.S_drewN | apply Kd.S_drew)); exact HO_539000.out) (Kd.R_base ho0) hb)
         have n1_ := zA (Kd.R_lower ho0 (below_size (zqI HB.out GE536.out GE537.out GE538.out))); have n2_ := zA (blk_below (g := gb536) (o := .cells #[.slice (some ad539) l0_0.length c0_0, .slice A0_1 l0_1.length c0_1] 40 (0, 0)) (zqB BK536.out) hb); have n3_ := zA (blk_below (g := gb537) (zqB BK537.out) hb); have n4_ := zA (blk_below (g := gb538) (o := .cells #[u539000, .slice none 0 0] 56 (0, 0)) (zqB BK538.out) hb); have n5_ := zA (below_step (zqI HB.out GE536.out GE537.out GE538.out) hb); clear HO_539000 BK536 BK537 BK538 HB; have HO_539000 := n0_; have HO543 := n1_; have BK536 := n2_; have BK537 := n3_; have BK538 := n4_; have HB := n5_; clear n0_ n1_ n2_ n3_ n4_ n5_
         (try clear hb); (try clear hb2); (try clear hk); (try clear hi); (try clear ho0)
         obtain ⟨Ao22, co22, eo22⟩ := Kd.R_slice HO543.out
         (first | subst eo22 | (injection eo22 with f1_ f2_ f3_; have f4_ := f1_.symm; have f5_ := f3_.symm; clear f1_ f2_ f3_; subst f4_; subst f5_))
         refine hK.out _ _ ⟨(blk_cell BK538.out 0).trans rfl, (blk_cell BK538.out 1).trans rfl⟩ (fun hHeld => ?_)
         clear hK K; refine norm_ (a' := ?_) ?_ ?_; rotate_left
         · show Act.put _ (some 35) _ = _; simp only [Act.put, setIfInBounds_toArray, set_cons_zero, set_cons_succ, i64_w, i32_w]; rfl
         refine one_ (i := 6) (N := some 36) #[true, true, true, true, true, true, true, false, false, false] rfl rfl (one_of HT_.out (by kernel_rfl)) (by decide) (fun K hK => ?_)
         refine value_ (w1 := ?_) (v := ?_) (by rfl) rfl ?_ ?_
         rotate_left 2
         ·
          go_simp
          constructor
          ·
           rfl
          ·
           rfl
         refine hK.out _ _ ⟨(blk_cell (blk_alloc BK538.out _) 0).trans rfl, (blk_cell (blk_alloc BK538.out _) 1).trans rfl⟩ (fun hHeld => ?_)
         clear hK K; refine norm_ (a' := ?_) ?_ ?_; rotate_left
         · show Act.put _ (some 36) _ = _; simp only [Act.put, setIfInBounds_toArray, set_cons_zero, set_cons_succ, i64_w, i32_w]; rfl
         refine one_ (i := 7) (N := some 37) #[true, true, true, true, true, true, true, true, false, false] rfl rfl (one_of HT_.out (by kernel_rfl)) (by decide) (fun K hK => ?_)
         refine Kd.S_append_step (Kd.slice 3 (Kd.int .i64)) (w0 := w) w.heap.size (by rfl) (.tmp 31) (.tmp 36) 54 30 (.slice none 0 0) 24 rfl Try.underlying54 info30 rfl (by decide) (by omega) u539000 x539000_1 t541 [.slice Ao22 t541.length co22] (fun _ => True) (fun k_ => some k_ = (.slice Ao22 t541.length co22 : Value).ownBlock) rfl rfl ?aP (fun k_ hk_ => ((Kd.R_mono (ok' := fun k_ => ((fun _ => True)) k_ ∧ some k_ ≠ (u539000 : Value).ownBlock) (Kd.R_apart' (HO543.out) (Kd.S_typed HO_539000.out) (by decide)) (fun k_ hk => ⟨trivial, hk.2⟩))).1 k_ hk_.symm) ?aF ?aO ?aB ?aS ?aL ?_
         (case aP => exact Kd.M_row (Kd.R_mono (Kd.R_tight rfl (Kd.R_mono (ok' := fun k_ => ((fun _ => True)) k_ ∧ some k_ ≠ (u539000 : Value).ownBlock) (Kd.R_apart' (HO543.out) (Kd.S_typed HO_539000.out) (by decide)) (fun k_ hk => ⟨trivial, hk.2⟩))) (fun _ h_ => h_)))
         (case aB => exact (zqI HB.out GE536.out GE537.out GE538.out))
         (case aF => exact (fun _ _ => trivial))
         (case aO => exact (by (with_reducible repeat (first | apply Kd.S_alloc | apply Kd.S_drewN | apply Kd.S_drew)); exact Kd.S_mono HO_539000.out (fun k_ hk => ⟨trivial, fun e_ => hk.2 e_⟩)))
         (case aS => exact (below_size (zqI HB.out GE536.out GE537.out GE538.out)))
         (case aL => have := LMc17.out; omega)
         intro v545 w21 ho hb hg hat
         rw [← Ny544.out] at ho
         have n0_ := zA (blk_grown (g := gb536) (o := .cells #[.slice (some ad539) l0_0.length c0_0, .slice A0_1 l0_1.length c0_1] 40 (0, 0)) (zqB BK536.out) hg (Kd.S_ne HO_539000.out BK536.out (by decide))); have n1_ := zA (blk_grown (g := gb537) (o := .cells #[.slice none 0 0, .slice none 0 0] 56 (0, 0)) (zqB BK537.out) hg (Kd.S_ne HO_539000.out BK537.out (by decide))); have n2_ := zA (blk_grown (g := gb538) (o := .cells #[u539000, .slice none 0 0] 56 (0, 0)) (zqB BK538.out) hg (Kd.S_ne HO_539000.out BK538.out (by decide))); have n3_ := zA (hb); have n4_ := zA (ho); clear BK536 BK537 BK538 HB HO_539000 HO543; have BK536 := n0_; have BK537 := n1_; have BK538 := n2_; have HB := n3_; have HO546 := n4_; clear n0_ n1_ n2_ n3_ n4_ ho hb hg hat
         obtain ⟨Ao23, co23, eo23⟩ := Kd.S_slice HO546.out
         (first | subst eo23 | (injection eo23 with f1_ f2_ f3_; have f4_ := f1_.symm; have f5_ := f3_.symm; clear f1_ f2_ f3_; subst f4_; subst f5_))
         refine hK.out _ _ ⟨(blk_cell BK538.out 0).trans rfl, (blk_cell BK538.out 1).trans rfl⟩ (fun hHeld => ?_)
         clear hK K; refine norm_ (a' := ?_) ?_ ?_; rotate_left
         · show Act.put _ (some 37) _ = _; simp only [Act.put, setIfInBounds_toArray, set_cons_zero, set_cons_succ, i64_w, i32_w]; rfl
         refine pure_ (i := 8) (N := some 38) (v := ?_) (a' := ?_) #[true, true, true, true, true, true, true, true, true, false] rfl rfl (any_of HT_.out (by kernel_rfl)) (fun _ _ _ h => h) (Or.inl ⟨by rfl, ?_⟩) ?_ ?_
         rotate_left
         ·
          intro w'
          go_simp
          with_reducible rfl
         rotate_left
         · simp only [Act.put, setIfInBounds_toArray, set_cons_zero, set_cons_succ, i64_w, i32_w]; rfl
         refine last_ (i := 9) (N := none) #[true, true, true, true, true, true, true, true, true, true] rfl rfl (one_of HT_.out (by kernel_rfl)) (by decide) (fun K hK => ?_)
         have hs24 : w21.cell? ⟨gb538, 0, none⟩ = some (u539000) := (blk_cell BK538.out 0).trans rfl
         have hfs24 := blk_frozen BK538.out 0
         have hns24_0 := NB536_538.out
         have hns24_1 := NB537_538.out
         have hms24_0 := NB538_536.out
         have hms24_1 := NB538_537.out
         refine skip_ (w1 := ?_) (by rfl) rfl ?_ ?_
         rotate_left
         ·
          go_simp
          rfl
         refine hK.out _ _ ?_
         clear hK K
         refine done_ (done_of HT_.out (by kernel_rfl)) ?_
         try go_wp2
         go_roundg k1
         case measure => have := HK1.out; omega
         case rel => exact ⟨(wrap64 (x17_1 + 1)), (y544), (.slice Ao23 y544.length co23), zqQ, H', ⟨by have := HK1.out; omega⟩, ⟨by (with_reducible repeat (first | apply Kd.S_alloc | apply Kd.S_drewN | apply Kd.S_drew)); exact Kd.S_mono (Kd.S_far (p := ⟨gb538, 0, none⟩) (Kd.S_types HO546.out BK538.out (by decide)) (fun _ hk => hk.2) (.slice Ao23 y544.length co23)) (fun _ hk => trivial)⟩, ⟨by (with_reducible repeat (first | refine blk_drewN ?_ _ | refine blk_drew ?_ | refine blk_alloc ?_ _)); refine blk_far ?_ NB536_538.out _; (with_reducible repeat (first | refine blk_drewN ?_ _ | refine blk_drew ?_ | refine blk_alloc ?_ _)); exact BK536.out⟩, ⟨by (with_reducible repeat (first | refine blk_drewN ?_ _ | refine blk_drew ?_ | refine blk_alloc ?_ _)); refine blk_far ?_ NB537_538.out _; (with_reducible repeat (first | refine blk_drewN ?_ _ | refine blk_drew ?_ | refine blk_alloc ?_ _)); exact BK537.out⟩, ⟨by (with_reducible repeat (first | refine blk_drewN ?_ _ | refine blk_drew ?_ | refine blk_alloc ?_ _)); refine blk_put (cs := #[u539000, .slice none 0 0]) ?_ 0 _ rfl; (with_reducible repeat (first | refine blk_drewN ?_ _ | refine blk_drew ?_ | refine blk_alloc ?_ _)); exact BK538.out⟩, ⟨zqI HB.out GE536.out GE537.out GE538.out⟩⟩
        ·
         rw [if_neg c17] at H
         exact absurd H (by simp)
       ·
        rw [if_neg c15] at H
        exact absurd H (by simp)
      ·
       rw [if_neg c13] at H
       have c13b0 : decide (x17_1 < (l2.length : Int)) = false := decide_eq_false c13
       clear c13
       replace H := Option.bind_eq_some_iff.mp H
       obtain ⟨t547, A250, H⟩ := H
       replace H : (if x539000_1.length < 5864062014805 then (pianolalaw04_course.l0 k1 a1 l2 l0_0 (l0_0.length : Int) (wrap64 (x17_1 + 1)) l0_0 l0_1 (x539000_1 ++ [t547])) else (none)) = some (r1, r2) := H
       have A25 := zA A250
       clear A250
       by_cases c26 : x539000_1.length < 5864062014805
       ·
        rw [if_pos c26] at H
        have LMc26 := zA c26
        clear c26
        obtain ⟨y550, hy550⟩ : ∃ y_ : List (List Int), y_ = (x539000_1 ++ [t547]) := ⟨_, rfl⟩
        replace H : (pianolalaw04_course.l0 k1 a1 l2 l0_0 (l0_0.length : Int) (wrap64 (x17_1 + 1)) l0_0 l0_1 y550) = some (r1, r2) := zqF hy550 H
        have Ny550 := zA hy550
        clear hy550
        have H' := zA H
        clear H
        have p539 : 0 ≤ (x17_1 : Int) := of_decide_eq_true (zqD)
        have q539 : x17_1 < (l0_0.length : Int) := of_decide_eq_true (zqD)
        obtain ⟨ad539, A539_0, c539_0, e539, hx539_0, hl539_0, hi539_0⟩ := at_L4 HR0_0.out x17_1 p539 q539
        cases e539
        replace hx539_0 := (HB.out.cell (World.block_lt_of_cell? w _ hx539_0)).trans hx539_0
        have HR539_0 := zA hi539_0
        have HC539_0 := zA hl539_0
        clear hi539_0 hl539_0; replace p539 := eq_true p539; replace q539 := eq_true q539
        try go_wp2
        have n0_ := zA (Kd.S_drew HO_539000.out); have n1_ := zA (blk_drew BK536.out); have n2_ := zA (blk_drew BK537.out); have n3_ := zA (blk_drew BK538.out); have n4_ := zA (below_drew1 HB.out); clear HO_539000 BK536 BK537 BK538 HB; have HO_539000 := n0_; have BK536 := n1_; have BK537 := n2_; have BK538 := n3_; have HB := n4_; clear n0_ n1_ n2_ n3_ n4_
        refine start_ (n := 10) (S := fun w' => w'.cell? ⟨gb538, 0, none⟩ = some (u539000) ∧ w'.cell? ⟨gb538, 1, none⟩ = some (.slice none 0 0)) (ds := [9]) #[false, false, false, false, false, false, false, false, false, false] (by kernel_rfl) rfl rfl ⟨(blk_cell BK538.out 0).trans rfl, (blk_cell BK538.out 1).trans rfl⟩ (fun hHeld => ?_); refine with_tabW pianolalaw04_course.tab8 pianolalaw04_course.bits8 (fun HT_ HW_ => ?_)
        generalize wr.drew = w27 at HO_539000 BK536 BK537 BK538 HB hHeld ⊢
        refine pure_ (i := 0) (N := some 30) (v := ?_) (a' := ?_) #[true, false, false, false, false, false, false, false, false, false] rfl rfl (any_of HT_.out (by kernel_rfl)) (fun _ _ _ h => h) (Or.inl ⟨by rfl, ?_⟩) ?_ ?_
        rotate_left
        ·
         intro w'
         go_simp
         with_reducible rfl
        rotate_left
        · simp only [Act.put, setIfInBounds_toArray, set_cons_zero, set_cons_succ, i64_w, i32_w]; rfl
        refine pure_ (i := 2) (N := some 32) (v := ?_) (a' := ?_) #[true, false, true, false, false, false, false, false, false, false] rfl rfl (any_of HT_.out (by kernel_rfl)) (fun _ _ _ h => h) (Or.inl ⟨by rfl, ?_⟩) ?_ ?_
        rotate_left
        ·
         intro w'
         go_simp
         with_reducible rfl
        rotate_left
        · simp only [Act.put, setIfInBounds_toArray, set_cons_zero, set_cons_succ, i64_w, i32_w]; rfl
        refine pure_ (i := 3) (N := some 33) (v := ?_) (a' := ?_) #[true, false, true, true, false, false, false, false, false, false] rfl rfl (any_of HT_.out (by kernel_rfl)) (fun _ _ _ h => h) (Or.inl ⟨by rfl, ?_⟩) ?_ ?_
        rotate_left
        ·
         intro w'
         go_simp
         with_reducible rfl
        rotate_left
        · simp only [Act.put, setIfInBounds_toArray, set_cons_zero, set_cons_succ, i64_w, i32_w]; rfl
        refine pure_ (i := 4) (N := some 34) (v := ?_) (a' := ?_) #[true, false, true, true, true, false, false, false, false, false] rfl rfl (any_of HT_.out (by kernel_rfl)) (fun _ _ _ h => h) (Or.inl ⟨by rfl, ?_⟩) ?_ ?_
        rotate_left
        ·
         intro w'
         go_simp
         with_reducible rfl
        rotate_left
        · simp only [Act.put, setIfInBounds_toArray, set_cons_zero, set_cons_succ, i64_w, i32_w]; rfl
        refine take_ (i := 1) (N := some 31) (v := ?_) (a' := ?_) #[true, true, true, true, true, false, false, false, false, false] rfl rfl (take_ofW HT_.out HW_.out (by kernel_rfl)) (fun _ _ _ h => h) (Or.inl ⟨by rfl, ?_⟩) hHeld ?_ ?_
        rotate_left
        ·
         rintro w' ⟨s0, s1⟩
         go_simp
         with_reducible rfl
        rotate_left
        · simp only [Act.put, setIfInBounds_toArray, set_cons_zero, set_cons_succ, i64_w, i32_w]; rfl
        refine one_ (i := 5) (N := some 35) #[true, true, true, true, true, true, false, false, false, false] rfl rfl (one_of HT_.out (by kernel_rfl)) (by decide) (fun K hK => ?_)
        refine goes_ Try.func41 (by kernel_rfl) rfl #[.slice A539_0 (rd_L4 l0_0 x17_1).length c539_0, .int .i64 a1, .slice A2 l2.length c2] (by rfl) rfl rfl zqE ?_
        with_reducible refine (pianolalaw04_demand.calls k1 _ _ (rd_L4 l0_0 x17_1) a1 _ _ l2 t547 _ ?side1 ?side2 ?side3 ?side4 A25.out).mono ?_
        (case side1 => exact zqK (Kd.C_below HR539_0.out HB.out))
        (case side2 => exact HC539_0.out)
        (case side3 => exact zqK (Kd.C_below HR2.out HB.out))
        (case side4 => exact HC2.out)
        rintro e w28 ⟨v548, rfl, ho0, hb⟩
        refine ⟨_, rfl, ?_⟩
        have n0_ := zA (Kd.S_elder' (by (with_reducible repeat (first | apply Kd.S_alloc | apply Kd.S_drewN | apply Kd.S_drew)); exact HO_539000.out) (Kd.R_base ho0) hb)
        have n1_ := zA (Kd.R_lower ho0 (below_size (zqI HB.out GE536.out GE537.out GE538.out))); have n2_ := zA (blk_below (g := gb536) (o := .cells #[.slice (some ad539) l0_0.length c0_0, .slice A0_1 l0_1.length c0_1] 40 (0, 0)) (zqB BK536.out) hb); have n3_ := zA (blk_below (g := gb537) (zqB BK537.out) hb); have n4_ := zA (blk_below (g := gb538) (o := .cells #[u539000, .slice none 0 0] 56 (0, 0)) (zqB BK538.out) hb); have n5_ := zA (below_step (zqI HB.out GE536.out GE537.out GE538.out) hb); clear HO_539000 BK536 BK537 BK538 HB; have HO_539000 := n0_; have HO549 := n1_; have BK536 := n2_; have BK537 := n3_; have BK538 := n4_; have HB := n5_; clear n0_ n1_ n2_ n3_ n4_ n5_
        (try clear hb); (try clear hb2); (try clear hk); (try clear hi); (try clear ho0)
        obtain ⟨Ao30, co30, eo30⟩ := Kd.R_slice HO549.out
        (first | subst eo30 | (injection eo30 with f1_ f2_ f3_; have f4_ := f1_.symm; have f5_ := f3_.symm; clear f1_ f2_ f3_; subst f4_; subst f5_))
        refine hK.out _ _ ⟨(blk_cell BK538.out 0).trans rfl, (blk_cell BK538.out 1).trans rfl⟩ (fun hHeld => ?_)
        clear hK K; refine norm_ (a' := ?_) ?_ ?_; rotate_left
        · show Act.put _ (some 35) _ = _; simp only [Act.put, setIfInBounds_toArray, set_cons_zero, set_cons_succ, i64_w, i32_w]; rfl
        refine one_ (i := 6) (N := some 36) #[true, true, true, true, true, true, true, false, false, false] rfl rfl (one_of HT_.out (by kernel_rfl)) (by decide) (fun K hK => ?_)
        refine value_ (w1 := ?_) (v := ?_) (by rfl) rfl ?_ ?_
        rotate_left 2
        ·
         go_simp
         constructor
         ·
          rfl
         ·
          rfl
        refine hK.out _ _ ⟨(blk_cell (blk_alloc BK538.out _) 0).trans rfl, (blk_cell (blk_alloc BK538.out _) 1).trans rfl⟩ (fun hHeld => ?_)
        clear hK K; refine norm_ (a' := ?_) ?_ ?_; rotate_left
        · show Act.put _ (some 36) _ = _; simp only [Act.put, setIfInBounds_toArray, set_cons_zero, set_cons_succ, i64_w, i32_w]; rfl
        refine one_ (i := 7) (N := some 37) #[true, true, true, true, true, true, true, true, false, false] rfl rfl (one_of HT_.out (by kernel_rfl)) (by decide) (fun K hK => ?_)
        refine Kd.S_append_step (Kd.slice 3 (Kd.int .i64)) (w0 := w) w.heap.size (by rfl) (.tmp 31) (.tmp 36) 54 30 (.slice none 0 0) 24 rfl Try.underlying54 info30 rfl (by decide) (by omega) u539000 x539000_1 t547 [.slice Ao30 t547.length co30] (fun _ => True) (fun k_ => some k_ = (.slice Ao30 t547.length co30 : Value).ownBlock) rfl rfl ?aP (fun k_ hk_ => ((Kd.R_mono (ok' := fun k_ => ((fun _ => True)) k_ ∧ some k_ ≠ (u539000 : Value).ownBlock) (Kd.R_apart' (HO549.out) (Kd.S_typed HO_539000.out) (by decide)) (fun k_ hk => ⟨trivial, hk.2⟩))).1 k_ hk_.symm) ?aF ?aO ?aB ?aS ?aL ?_
        (case aP => exact Kd.M_row (Kd.R_mono (Kd.R_tight rfl (Kd.R_mono (ok' := fun k_ => ((fun _ => True)) k_ ∧ some k_ ≠ (u539000 : Value).ownBlock) (Kd.R_apart' (HO549.out) (Kd.S_typed HO_539000.out) (by decide)) (fun k_ hk => ⟨trivial, hk.2⟩))) (fun _ h_ => h_)))
        (case aB => exact (zqI HB.out GE536.out GE537.out GE538.out))
        (case aF => exact (fun _ _ => trivial))
        (case aO => exact (by (with_reducible repeat (first | apply Kd.S_alloc | apply Kd.S_drewN | apply Kd.S_drew)); exact Kd.S_mono HO_539000.out (fun k_ hk => ⟨trivial, fun e_ => hk.2 e_⟩)))
        (case aS => exact (below_size (zqI HB.out GE536.out GE537.out GE538.out)))
        (case aL => have := LMc26.out; omega)
        intro v551 w29 ho hb hg hat
        rw [← Ny550.out] at ho
        have n0_ := zA (blk_grown (g := gb536) (o := .cells #[.slice (some ad539) l0_0.length c0_0, .slice A0_1 l0_1.length c0_1] 40 (0, 0)) (zqB BK536.out) hg (Kd.S_ne HO_539000.out BK536.out (by decide))); have n1_ := zA (blk_grown (g := gb537) (o := .cells #[.slice none 0 0, .slice none 0 0] 56 (0, 0)) (zqB BK537.out) hg (Kd.S_ne HO_539000.out BK537.out (by decide))); have n2_ := zA (blk_grown (g := gb538) (o := .cells #[u539000, .slice none 0 0] 56 (0, 0)) (zqB BK538.out) hg (Kd.S_ne HO_539000.out BK538.out (by decide))); have n3_ := zA (hb); have n4_ := zA (ho); clear BK536 BK537 BK538 HB HO_539000 HO549; have BK536 := n0_; have BK537 := n1_; have BK538 := n2_; have HB := n3_; have HO552 := n4_; clear n0_ n1_ n2_ n3_ n4_ ho hb hg hat
        obtain ⟨Ao31, co31, eo31⟩ := Kd.S_slice HO552.out
        (first | subst eo31 | (injection eo31 with f1_ f2_ f3_; have f4_ := f1_.symm; have f5_ := f3_.symm; clear f1_ f2_ f3_; subst f4_; subst f5_))
        refine hK.out _ _ ⟨(blk_cell BK538.out 0).trans rfl, (blk_cell BK538.out 1).trans rfl⟩ (fun hHeld => ?_)
        clear hK K; refine norm_ (a' := ?_) ?_ ?_; rotate_left
        · show Act.put _ (some 37) _ = _; simp only [Act.put, setIfInBounds_toArray, set_cons_zero, set_cons_succ, i64_w, i32_w]; rfl
        refine pure_ (i := 8) (N := some 38) (v := ?_) (a' := ?_) #[true, true, true, true, true, true, true, true, true, false] rfl rfl (any_of HT_.out (by kernel_rfl)) (fun _ _ _ h => h) (Or.inl ⟨by rfl, ?_⟩) ?_ ?_
        rotate_left
        ·
         intro w'
         go_simp
         with_reducible rfl
        rotate_left
        · simp only [Act.put, setIfInBounds_toArray, set_cons_zero, set_cons_succ, i64_w, i32_w]; rfl
        refine last_ (i := 9) (N := none) #[true, true, true, true, true, true, true, true, true, true] rfl rfl (one_of HT_.out (by kernel_rfl)) (by decide) (fun K hK => ?_)
        have hs32 : w29.cell? ⟨gb538, 0, none⟩ = some (u539000) := (blk_cell BK538.out 0).trans rfl
        have hfs32 := blk_frozen BK538.out 0
        have hns32_0 := NB536_538.out
        have hns32_1 := NB537_538.out
        have hms32_0 := NB538_536.out
        have hms32_1 := NB538_537.out
        refine skip_ (w1 := ?_) (by rfl) rfl ?_ ?_
        rotate_left
        ·
         go_simp
         rfl
        refine hK.out _ _ ?_
        clear hK K
        refine done_ (done_of HT_.out (by kernel_rfl)) ?_
        try go_wp2
        go_roundg k1
        case measure => have := HK1.out; omega
        case rel => exact ⟨(wrap64 (x17_1 + 1)), (y550), (.slice Ao31 y550.length co31), zqQ, H', ⟨by have := HK1.out; omega⟩, ⟨by (with_reducible repeat (first | apply Kd.S_alloc | apply Kd.S_drewN | apply Kd.S_drew)); exact Kd.S_mono (Kd.S_far (p := ⟨gb538, 0, none⟩) (Kd.S_types HO552.out BK538.out (by decide)) (fun _ hk => hk.2) (.slice Ao31 y550.length co31)) (fun _ hk => trivial)⟩, ⟨by (with_reducible repeat (first | refine blk_drewN ?_ _ | refine blk_drew ?_ | refine blk_alloc ?_ _)); refine blk_far ?_ NB536_538.out _; (with_reducible repeat (first | refine blk_drewN ?_ _ | refine blk_drew ?_ | refine blk_alloc ?_ _)); exact BK536.out⟩, ⟨by (with_reducible repeat (first | refine blk_drewN ?_ _ | refine blk_drew ?_ | refine blk_alloc ?_ _)); refine blk_far ?_ NB537_538.out _; (with_reducible repeat (first | refine blk_drewN ?_ _ | refine blk_drew ?_ | refine blk_alloc ?_ _)); exact BK537.out⟩, ⟨by (with_reducible repeat (first | refine blk_drewN ?_ _ | refine blk_drew ?_ | refine blk_alloc ?_ _)); refine blk_put (cs := #[u539000, .slice none 0 0]) ?_ 0 _ rfl; (with_reducible repeat (first | refine blk_drewN ?_ _ | refine blk_drew ?_ | refine blk_alloc ?_ _)); exact BK538.out⟩, ⟨zqI HB.out GE536.out GE537.out GE538.out⟩⟩
       ·
        rw [if_neg c26] at H
        exact absurd H (by simp)
     ·
      rw [if_neg c12] at H
      exact absurd H (by simp)
    ·
     rw [if_neg c11] at H
     exact absurd H (by simp)
   ·
    rw [if_neg c10] at H
    have c10b0 : decide (x17_1 < (l0_0.length : Int)) = false := decide_eq_false c10
    clear c10
    have H' := zA H
    clear H
    have hnb33 := NB536_537.out
    have hnc33 := NB537_536.out
    have hnb34 := NB536_538.out
    have hnc34 := NB538_536.out
    have hcz35_0 : wr.cell? ⟨gb536, 0, none⟩ = some (.slice A0_0 l0_0.length c0_0) := (blk_cell BK536.out 0).trans rfl
    have hcz35_1 : wr.cell? ⟨gb536, 1, none⟩ = some (.slice A0_1 l0_1.length c0_1) := (blk_cell BK536.out 1).trans rfl
    have hfz35_0 := blk_frozen BK536.out 0
    have hfz35_1 := blk_frozen BK536.out 1
    go_wp2
    go_loopg [43] k1 (fun kq v43 w' => ∃ (x43_2 : Int) (x539001_2 : List (List Int)) (u539001 : Value), v43 = .int .i64 x43_2 ∧ Aside0 (pianolalaw04_course.l1 kq a1 l2 l0_1 (l0_1.length : Int) x43_2 x539000_1 x539001_2 = some (r1, r2)) ∧ Aside0 (kq ≤ k1) ∧ Aside0 (Kd.S (Kd.slice 3 (Kd.int .i64)) 30 w' w.heap.size (fun k_ => some k_ ≠ (u539001 : Value).ownBlock) u539000 x539000_1) ∧ Aside0 (Kd.S (Kd.slice 3 (Kd.int .i64)) 30 w' w.heap.size (fun k_ => some k_ ≠ (u539000 : Value).ownBlock) u539001 x539001_2) ∧ Aside0 (w'.heap[gb536]? = some (.cells #[(.slice A0_0 l0_0.length c0_0), (.slice A0_1 l0_1.length c0_1)] 40 (0, 0))) ∧ Aside0 (w'.heap[gb537]? = some (.cells #[(.slice none 0 0), (.slice none 0 0)] 56 (0, 0))) ∧ Aside0 (w'.heap[gb538]? = some (.cells #[u539000, u539001] 56 (0, 0))) ∧ Aside0 (Below w.heap.size w w'))
    case atStart => exact ⟨(0), (([] : List (List Int))), (.slice none 0 0), zqQ, H', ⟨Nat.le_refl _⟩, ⟨by (with_reducible repeat (first | apply Kd.S_alloc | apply Kd.S_drewN | apply Kd.S_drew)); exact Kd.S_mono HO_539000.out (fun _ hk => (by simp [Value.ownBlock]))⟩, ⟨by first | exact Kd.S_nil _ _ _ _ _ | exact Kd.N_nil _ _ _ _ _ | exact Kd.V_nil _ _ _ _ _ | exact Kd.Q_nil _ _ _ _ _ | exact Kd.R_nil _ _ _ _ _⟩, ⟨zqB BK536.out⟩, ⟨zqB BK537.out⟩, ⟨zqB BK538.out⟩, ⟨zqI HB.out GE536.out GE537.out GE538.out⟩⟩
    case round =>
     clear H'
     try clear c1
     try clear c2
     try clear p2
     try clear c3
     try clear c4
     try clear c5
     try clear p5
     try clear q5
     try clear hx5
     try clear p6
     try clear c7
     try clear c8
     try clear c10
     try clear c10b0
     try clear c11
     try clear c11b0
     try clear c12
     try clear c12b0
     try clear c13
     try clear c13b0
     try clear c14
     try clear c14b0
     try clear c15
     try clear c15b0
     try clear c15b1
     try clear c17
     try clear c26
     try clear c33
     try clear c34
     try clear hcz35_0
     try clear hcz35_1
     try clear hcz9_0
     try clear hcz9_1
     try clear hfz35_0
     try clear hfz35_1
     try clear hfz9_0
     try clear hfz9_1
     try clear hx539_0
     try clear p2
     try clear p539
     try clear q539
     obtain ⟨x43_2, x539001_2, u539001, rfl, HA, HK2, HO_539000, HO_539001, BK536, BK537, BK538, HB⟩ := hrel
     cases gk with
     | zero => exact absurd HA.out (by simp [pianolalaw04_course.l1])
     | succ k2 =>
      have H := HA.out
      clear HA
      simp only [pianolalaw04_course.l1] at H
      by_cases c36 : x43_2 < (l0_1.length : Int)
      ·
       rw [if_pos c36] at H
       have c36b0 : decide (x43_2 < (l0_1.length : Int)) = true := decide_eq_true c36
       clear c36
       by_cases c37 : 0 ≤ x43_2
       ·
        rw [if_pos c37] at H
        have c37b0 : decide (0 ≤ x43_2) = true := decide_eq_true c37
        clear c37
        by_cases c38 : x43_2 < (l0_1.length : Int)
        ·
         rw [if_pos c38] at H
         have c38b0 : decide (x43_2 < (l0_1.length : Int)) = true := decide_eq_true c38
         clear c38
         by_cases c39 : (l2.length : Int) > (wrap64 ((wrap64 (2 * x43_2)) + 1))
         ·
          rw [if_pos c39] at H
          have c39b0 : decide ((wrap64 ((wrap64 (2 * x43_2)) + 1)) < (l2.length : Int)) = true := decide_eq_true c39
          clear c39
          obtain ⟨ji40, hji40⟩ : ∃ j_ : Int, (wrap64 ((wrap64 (2 * x43_2)) + 1)) = j_ := ⟨_, rfl⟩
          replace H : (if 0 ≤ (ji40) then (if (ji40) ≤ (l2.length : Int) then ((pianolalaw04_capacity.f k2 (rd_L4 l0_1 x43_2) a1 (l2.drop ((ji40) : Int).toNat)).bind fun t555 => (if x539001_2.length < 5864062014805 then (pianolalaw04_course.l1 k2 a1 l2 l0_1 (l0_1.length : Int) (wrap64 (x43_2 + 1)) x539000_1 (x539001_2 ++ [t555])) else (none))) else (none)) else (none)) = some (r1, r2) := by first | (rw [hji40] at H; exact H) | (simp only [hji40] at H ⊢; exact H)
          (try rw [hji40] at c39b0)
          have hji40w : (IntKind.i64.wrap ((wrap64 (2 * x43_2)) + 1)) = ji40 := (i64_w _).trans hji40
          by_cases c41 : 0 ≤ (ji40)
          ·
           rw [if_pos c41] at H
           have c41b0 := eq_true c41
           have c41b1 : decide (0 ≤ (ji40)) = true := decide_eq_true c41
           clear c41
           by_cases c42 : (ji40) ≤ (l2.length : Int)
           ·
            rw [if_pos c42] at H
            have c42b0 := eq_true c42
            have c42b1 : decide ((ji40) ≤ (l2.length : Int)) = true := decide_eq_true c42
            clear c42
            replace H := Option.bind_eq_some_iff.mp H
            obtain ⟨t555, A430, H⟩ := H
            replace H : (if x539001_2.length < 5864062014805 then (pianolalaw04_course.l1 k2 a1 l2 l0_1 (l0_1.length : Int) (wrap64 (x43_2 + 1)) x539000_1 (x539001_2 ++ [t555])) else (none)) = some (r1, r2) := H
            have A43 := zA A430
            clear A430
            by_cases c44 : x539001_2.length < 5864062014805
            ·
             rw [if_pos c44] at H
             have LMc44 := zA c44
             clear c44
             obtain ⟨y558, hy558⟩ : ∃ y_ : List (List Int), y_ = (x539001_2 ++ [t555]) := ⟨_, rfl⟩
             replace H : (pianolalaw04_course.l1 k2 a1 l2 l0_1 (l0_1.length : Int) (wrap64 (x43_2 + 1)) x539000_1 y558) = some (r1, r2) := zqF hy558 H
             have Ny558 := zA hy558
             clear hy558
             have H' := zA H
             clear H
             have p553 : 0 ≤ (x43_2 : Int) := of_decide_eq_true (zqD)
             have q553 : x43_2 < (l0_1.length : Int) := of_decide_eq_true (zqD)
             obtain ⟨ad553, A553_0, c553_0, e553, hx553_0, hl553_0, hi553_0⟩ := at_L4 HR0_1.out x43_2 p553 q553
             cases e553
             replace hx553_0 := (HB.out.cell (World.block_lt_of_cell? w _ hx553_0)).trans hx553_0
             have HR553_0 := zA hi553_0
             have HC553_0 := zA hl553_0
             clear hi553_0 hl553_0; replace p553 := eq_true p553; replace q553 := eq_true q553
             obtain ⟨i045, hi045, _, hsz45, _⟩ := info_parts info5
             obtain ⟨A45, hcut45, hA45, hC45⟩ := print_drop_of (P := Try.prog) (Value.int .u8) 0 67 5 .i64 Try.underlying67 hi045 hsz45 A2 c2 l2 (ji40) (of_decide_eq_true (zqD)) (of_decide_eq_true (zqD)) HC2.out
             have HR554 := zA (Kd.C_of_reads (h1 := fun _ => rfl) (hA45 _ (Kd.reads_of_C HR2.out)))
             have HC554 := zA hC45
             clear hA45 hC45 hi045 hsz45
             try go_wp2
             have n0_ := zA (Kd.S_drew HO_539000.out); have n1_ := zA (Kd.S_drew HO_539001.out); have n2_ := zA (blk_drew BK536.out); have n3_ := zA (blk_drew BK537.out); have n4_ := zA (blk_drew BK538.out); have n5_ := zA (below_drew1 HB.out); clear HO_539000 HO_539001 BK536 BK537 BK538 HB; have HO_539000 := n0_; have HO_539001 := n1_; have BK536 := n2_; have BK537 := n3_; have BK538 := n4_; have HB := n5_; clear n0_ n1_ n2_ n3_ n4_ n5_
             refine start_ (n := 10) (S := fun w' => w'.cell? ⟨gb538, 0, none⟩ = some (u539000) ∧ w'.cell? ⟨gb538, 1, none⟩ = some (u539001)) (ds := [9]) #[false, false, false, false, false, false, false, false, false, false] (by kernel_rfl) rfl rfl ⟨(blk_cell BK538.out 0).trans rfl, (blk_cell BK538.out 1).trans rfl⟩ (fun hHeld => ?_); refine with_tabW pianolalaw04_course.tab16 pianolalaw04_course.bits16 (fun HT_ HW_ => ?_)
             generalize wr.drew = w46 at HO_539000 HO_539001 BK536 BK537 BK538 HB hHeld ⊢
             refine pure_ (i := 0) (N := some 59) (v := ?_) (a' := ?_) #[true, false, false, false, false, false, false, false, false, false] rfl rfl (any_of HT_.out (by kernel_rfl)) (fun _ _ _ h => h) (Or.inl ⟨by rfl, ?_⟩) ?_ ?_
             rotate_left
             ·
              intro w'
              go_simp
              with_reducible rfl
             rotate_left
             · simp only [Act.put, setIfInBounds_toArray, set_cons_zero, set_cons_succ, i64_w, i32_w]; rfl
             refine pure_ (i := 2) (N := some 61) (v := ?_) (a' := ?_) #[true, false, true, false, false, false, false, false, false, false] rfl rfl (any_of HT_.out (by kernel_rfl)) (fun _ _ _ h => h) (Or.inl ⟨by rfl, ?_⟩) ?_ ?_
             rotate_left
             ·
              intro w'
              go_simp
              with_reducible rfl
             rotate_left
             · simp only [Act.put, setIfInBounds_toArray, set_cons_zero, set_cons_succ, i64_w, i32_w]; rfl
             refine pure_ (i := 3) (N := some 62) (v := ?_) (a' := ?_) #[true, false, true, true, false, false, false, false, false, false] rfl rfl (any_of HT_.out (by kernel_rfl)) (fun _ _ _ h => h) (Or.inl ⟨by rfl, ?_⟩) ?_ ?_
             rotate_left
             ·
              intro w'
              go_simp
              with_reducible rfl
             rotate_left
             · simp only [Act.put, setIfInBounds_toArray, set_cons_zero, set_cons_succ, i64_w, i32_w]; rfl
             refine pure_ (i := 4) (N := some 63) (v := ?_) (a' := ?_) #[true, false, true, true, true, false, false, false, false, false] rfl rfl (any_of HT_.out (by kernel_rfl)) (fun _ _ _ h => h) (Or.inl ⟨by rfl, ?_⟩) ?_ ?_
             rotate_left
             ·
              intro w'
              go_simp
              with_reducible rfl
             rotate_left
             · simp only [Act.put, setIfInBounds_toArray, set_cons_zero, set_cons_succ, i64_w, i32_w]; rfl
             refine take_ (i := 1) (N := some 60) (v := ?_) (a' := ?_) #[true, true, true, true, true, false, false, false, false, false] rfl rfl (take_ofW HT_.out HW_.out (by kernel_rfl)) (fun _ _ _ h => h) (Or.inl ⟨by rfl, ?_⟩) hHeld ?_ ?_
             rotate_left
             ·
              rintro w' ⟨s0, s1⟩
              go_simp
              with_reducible rfl
             rotate_left
             · simp only [Act.put, setIfInBounds_toArray, set_cons_zero, set_cons_succ, i64_w, i32_w]; rfl
             refine one_ (i := 5) (N := some 64) #[true, true, true, true, true, true, false, false, false, false] rfl rfl (one_of HT_.out (by kernel_rfl)) (by decide) (fun K hK => ?_)
             refine goes_ Try.func42 (by kernel_rfl) rfl #[.slice A553_0 (rd_L4 l0_1 x43_2).length c553_0, .int .i64 a1, .slice A45 (l2.drop ((ji40) : Int).toNat).length (c2 - (ji40).toNat)] (by rfl) rfl rfl (by (try simp only [List.map_toArray, List.map_cons, List.map_nil]); first | done | (rw [show (l2.drop ((ji40) : Int).toNat).length = (l2.length - (ji40).toNat) from List.length_drop] <;> rfl) | (simp only [hji40]; rfl) | rfl | (simp only [List.length_drop, List.length_take]; rfl)) ?_
             with_reducible refine (pianolalaw04_capacity.calls k2 _ _ (rd_L4 l0_1 x43_2) a1 _ _ (l2.drop ((ji40) : Int).toNat) t555 _ ?side1 ?side2 ?side3 ?side4 A43.out).mono ?_
             (case side1 => exact zqK (Kd.C_below HR553_0.out HB.out))
             (case side2 => exact HC553_0.out)
             (case side3 => exact zqK (Kd.C_below HR554.out HB.out))
             (case side4 => exact HC554.out)
             rintro e w47 ⟨v556, rfl, ho0, hb⟩
             refine ⟨_, rfl, ?_⟩
             have n0_ := zA (Kd.S_elder' (by (with_reducible repeat (first | apply Kd.S_alloc | apply Kd.S_drewN | apply Kd.S_drew)); exact HO_539000.out) (Kd.R_base ho0) hb)
             have n1_ := zA (Kd.S_elder' (by (with_reducible repeat (first | apply Kd.S_alloc | apply Kd.S_drewN | apply Kd.S_drew)); exact HO_539001.out) (Kd.R_base ho0) hb)
             have n2_ := zA (Kd.R_lower ho0 (below_size (zqI HB.out GE536.out GE537.out GE538.out))); have n3_ := zA (blk_below (g := gb536) (o := .cells #[.slice A0_0 l0_0.length c0_0, .slice (some ad553) l0_1.length c0_1] 40 (0, 0)) (zqB BK536.out) hb); have n4_ := zA (blk_below (g := gb537) (zqB BK537.out) hb); have n5_ := zA (blk_below (g := gb538) (o := .cells #[u539000, u539001] 56 (0, 0)) (zqB BK538.out) hb); have n6_ := zA (below_step (zqI HB.out GE536.out GE537.out GE538.out) hb); clear HO_539000 HO_539001 BK536 BK537 BK538 HB; have HO_539000 := n0_; have HO_539001 := n1_; have HO557 := n2_; have BK536 := n3_; have BK537 := n4_; have BK538 := n5_; have HB := n6_; clear n0_ n1_ n2_ n3_ n4_ n5_ n6_
             (try clear hb); (try clear hb2); (try clear hk); (try clear hi); (try clear ho0)
             obtain ⟨Ao49, co49, eo49⟩ := Kd.R_slice HO557.out
             (first | subst eo49 | (injection eo49 with f1_ f2_ f3_; have f4_ := f1_.symm; have f5_ := f3_.symm; clear f1_ f2_ f3_; subst f4_; subst f5_))
             refine hK.out _ _ ⟨(blk_cell BK538.out 0).trans rfl, (blk_cell BK538.out 1).trans rfl⟩ (fun hHeld => ?_)
             clear hK K; refine norm_ (a' := ?_) ?_ ?_; rotate_left
             · show Act.put _ (some 64) _ = _; simp only [Act.put, setIfInBounds_toArray, set_cons_zero, set_cons_succ, i64_w, i32_w]; rfl
             refine one_ (i := 6) (N := some 65) #[true, true, true, true, true, true, true, false, false, false] rfl rfl (one_of HT_.out (by kernel_rfl)) (by decide) (fun K hK => ?_)
             refine value_ (w1 := ?_) (v := ?_) (by rfl) rfl ?_ ?_
             rotate_left 2
             ·
              go_simp
              constructor
              ·
               rfl
              ·
               rfl
             refine hK.out _ _ ⟨(blk_cell (blk_alloc BK538.out _) 0).trans rfl, (blk_cell (blk_alloc BK538.out _) 1).trans rfl⟩ (fun hHeld => ?_)
             clear hK K; refine norm_ (a' := ?_) ?_ ?_; rotate_left
             · show Act.put _ (some 65) _ = _; simp only [Act.put, setIfInBounds_toArray, set_cons_zero, set_cons_succ, i64_w, i32_w]; rfl
             refine one_ (i := 7) (N := some 66) #[true, true, true, true, true, true, true, true, false, false] rfl rfl (one_of HT_.out (by kernel_rfl)) (by decide) (fun K hK => ?_)
             refine Kd.S_append_step (Kd.slice 3 (Kd.int .i64)) (w0 := w) w.heap.size (by rfl) (.tmp 60) (.tmp 65) 54 30 (.slice none 0 0) 24 rfl Try.underlying54 info30 rfl (by decide) (by omega) u539001 x539001_2 t555 [.slice Ao49 t555.length co49] (fun k_ => some k_ ≠ (u539000 : Value).ownBlock) (fun k_ => some k_ = (.slice Ao49 t555.length co49 : Value).ownBlock) rfl rfl ?aP (fun k_ hk_ => ((Kd.R_mono (ok' := fun k_ => ((fun k_ => some k_ ≠ (u539000 : Value).ownBlock)) k_ ∧ some k_ ≠ (u539001 : Value).ownBlock) (Kd.R_apart' (Kd.R_apart' (HO557.out) (Kd.S_typed HO_539000.out) (by decide)) (Kd.S_typed HO_539001.out) (by decide)) (fun k_ hk => ⟨hk.1.2, hk.2⟩))).1 k_ hk_.symm) ?aF ?aO ?aB ?aS ?aL ?_
             (case aP => exact Kd.M_row (Kd.R_mono (Kd.R_tight rfl (Kd.R_mono (ok' := fun k_ => ((fun k_ => some k_ ≠ (u539000 : Value).ownBlock)) k_ ∧ some k_ ≠ (u539001 : Value).ownBlock) (Kd.R_apart' (Kd.R_apart' (HO557.out) (Kd.S_typed HO_539000.out) (by decide)) (Kd.S_typed HO_539001.out) (by decide)) (fun k_ hk => ⟨hk.1.2, hk.2⟩))) (fun _ h_ => h_)))
             (case aB => exact (zqI HB.out GE536.out GE537.out GE538.out))
             (case aF => exact (fun k_ hk => Kd.fresh' (Kd.S_lt (by (with_reducible repeat (first | apply Kd.S_alloc | apply Kd.S_drewN | apply Kd.S_drew)); exact HO_539000.out)) k_ hk))
             (case aO => exact (by (with_reducible repeat (first | apply Kd.S_alloc | apply Kd.S_drewN | apply Kd.S_drew)); exact Kd.S_mono HO_539001.out (fun k_ hk => ⟨hk.1, fun e_ => hk.2 e_⟩)))
             (case aS => exact (below_size (zqI HB.out GE536.out GE537.out GE538.out)))
             (case aL => have := LMc44.out; omega)
             intro v559 w48 ho hb hg hat
             rw [← Ny558.out] at ho
             have n0_ := zA (Kd.S_after (ok := (fun k_ => some k_ ≠ (.slice Ao49 t555.length co49 : Value).ownBlock)) (by (with_reducible repeat (first | apply Kd.S_alloc | apply Kd.S_drewN | apply Kd.S_drew)); exact Kd.S_mono HO_539000.out (fun _ hk => ⟨hk.2, hk.1⟩)) hg hat)
             have n1_ := zA (blk_grown (g := gb536) (o := .cells #[.slice A0_0 l0_0.length c0_0, .slice (some ad553) l0_1.length c0_1] 40 (0, 0)) (zqB BK536.out) hg (Kd.S_ne HO_539001.out BK536.out (by decide))); have n2_ := zA (blk_grown (g := gb537) (o := .cells #[.slice none 0 0, .slice none 0 0] 56 (0, 0)) (zqB BK537.out) hg (Kd.S_ne HO_539001.out BK537.out (by decide))); have n3_ := zA (blk_grown (g := gb538) (o := .cells #[u539000, u539001] 56 (0, 0)) (zqB BK538.out) hg (Kd.S_ne HO_539001.out BK538.out (by decide))); have n4_ := zA (hb); have n5_ := zA (ho); clear HO_539000 BK536 BK537 BK538 HB HO_539001 HO557; have HO_539000 := n0_; have BK536 := n1_; have BK537 := n2_; have BK538 := n3_; have HB := n4_; have HO560 := n5_; clear n0_ n1_ n2_ n3_ n4_ n5_ ho hb hg hat
             obtain ⟨Ao50, co50, eo50⟩ := Kd.S_slice HO560.out
             (first | subst eo50 | (injection eo50 with f1_ f2_ f3_; have f4_ := f1_.symm; have f5_ := f3_.symm; clear f1_ f2_ f3_; subst f4_; subst f5_))
             refine hK.out _ _ ⟨(blk_cell BK538.out 0).trans rfl, (blk_cell BK538.out 1).trans rfl⟩ (fun hHeld => ?_)
             clear hK K; refine norm_ (a' := ?_) ?_ ?_; rotate_left
             · show Act.put _ (some 66) _ = _; simp only [Act.put, setIfInBounds_toArray, set_cons_zero, set_cons_succ, i64_w, i32_w]; rfl
             refine pure_ (i := 8) (N := some 67) (v := ?_) (a' := ?_) #[true, true, true, true, true, true, true, true, true, false] rfl rfl (any_of HT_.out (by kernel_rfl)) (fun _ _ _ h => h) (Or.inl ⟨by rfl, ?_⟩) ?_ ?_
             rotate_left
             ·
              intro w'
              go_simp
              with_reducible rfl
             rotate_left
             · simp only [Act.put, setIfInBounds_toArray, set_cons_zero, set_cons_succ, i64_w, i32_w]; rfl
             refine last_ (i := 9) (N := none) #[true, true, true, true, true, true, true, true, true, true] rfl rfl (one_of HT_.out (by kernel_rfl)) (by decide) (fun K hK => ?_)
             have hs51 : w48.cell? ⟨gb538, 1, none⟩ = some (u539001) := (blk_cell BK538.out 1).trans rfl
             have hfs51 := blk_frozen BK538.out 1
             have hns51_0 := NB536_538.out
             have hns51_1 := NB537_538.out
             have hms51_0 := NB538_536.out
             have hms51_1 := NB538_537.out
             refine skip_ (w1 := ?_) (by rfl) rfl ?_ ?_
             rotate_left
             ·
              go_simp
              rfl
             refine hK.out _ _ ?_
             clear hK K
             refine done_ (done_of HT_.out (by kernel_rfl)) ?_
             try go_wp2
             go_roundg k2
             case measure => have := HK1.out; have := HK2.out; omega
             case rel => exact ⟨(wrap64 (x43_2 + 1)), (y558), (.slice Ao50 y558.length co50), zqQ, H', ⟨by have := HK1.out; have := HK2.out; omega⟩, ⟨by (with_reducible repeat (first | apply Kd.S_alloc | apply Kd.S_drewN | apply Kd.S_drew)); exact Kd.S_mono (Kd.S_far (p := ⟨gb538, 1, none⟩) (Kd.S_types HO_539000.out BK538.out (by decide)) (fun _ hk => hk.2) (.slice Ao50 y558.length co50)) (fun _ hk => hk.1.2)⟩, ⟨by (with_reducible repeat (first | apply Kd.S_alloc | apply Kd.S_drewN | apply Kd.S_drew)); exact Kd.S_mono (Kd.S_far (p := ⟨gb538, 1, none⟩) (Kd.S_types HO560.out BK538.out (by decide)) (fun _ hk => hk.2) (.slice Ao50 y558.length co50)) (fun _ hk => hk.1)⟩, ⟨by (with_reducible repeat (first | refine blk_drewN ?_ _ | refine blk_drew ?_ | refine blk_alloc ?_ _)); refine blk_far ?_ NB536_538.out _; (with_reducible repeat (first | refine blk_drewN ?_ _ | refine blk_drew ?_ | refine blk_alloc ?_ _)); exact BK536.out⟩, ⟨by (with_reducible repeat (first | refine blk_drewN ?_ _ | refine blk_drew ?_ | refine blk_alloc ?_ _)); refine blk_far ?_ NB537_538.out _; (with_reducible repeat (first | refine blk_drewN ?_ _ | refine blk_drew ?_ | refine blk_alloc ?_ _)); exact BK537.out⟩, ⟨by (with_reducible repeat (first | refine blk_drewN ?_ _ | refine blk_drew ?_ | refine blk_alloc ?_ _)); refine blk_put (cs := #[u539000, u539001]) ?_ 1 _ rfl; (with_reducible repeat (first | refine blk_drewN ?_ _ | refine blk_drew ?_ | refine blk_alloc ?_ _)); exact BK538.out⟩, ⟨zqI HB.out GE536.out GE537.out GE538.out⟩⟩
            ·
             rw [if_neg c44] at H
             exact absurd H (by simp)
           ·
            rw [if_neg c42] at H
            exact absurd H (by simp)
          ·
           rw [if_neg c41] at H
           exact absurd H (by simp)
         ·
          rw [if_neg c39] at H
          have c39b0 : decide ((wrap64 ((wrap64 (2 * x43_2)) + 1)) < (l2.length : Int)) = false := decide_eq_false c39
          clear c39
          replace H := Option.bind_eq_some_iff.mp H
          obtain ⟨t561, A520, H⟩ := H
          replace H : (if x539001_2.length < 5864062014805 then (pianolalaw04_course.l1 k2 a1 l2 l0_1 (l0_1.length : Int) (wrap64 (x43_2 + 1)) x539000_1 (x539001_2 ++ [t561])) else (none)) = some (r1, r2) := H
          have A52 := zA A520
          clear A520
          by_cases c53 : x539001_2.length < 5864062014805
          ·
           rw [if_pos c53] at H
           have LMc53 := zA c53
           clear c53
           obtain ⟨y564, hy564⟩ : ∃ y_ : List (List Int), y_ = (x539001_2 ++ [t561]) := ⟨_, rfl⟩
           replace H : (pianolalaw04_course.l1 k2 a1 l2 l0_1 (l0_1.length : Int) (wrap64 (x43_2 + 1)) x539000_1 y564) = some (r1, r2) := zqF hy564 H
           have Ny564 := zA hy564
           clear hy564
           have H' := zA H
           clear H
           have p553 : 0 ≤ (x43_2 : Int) := of_decide_eq_true (zqD)
           have q553 : x43_2 < (l0_1.length : Int) := of_decide_eq_true (zqD)
           obtain ⟨ad553, A553_0, c553_0, e553, hx553_0, hl553_0, hi553_0⟩ := at_L4 HR0_1.out x43_2 p553 q553
           cases e553
           replace hx553_0 := (HB.out.cell (World.block_lt_of_cell? w _ hx553_0)).trans hx553_0
           have HR553_0 := zA hi553_0
           have HC553_0 := zA hl553_0
           clear hi553_0 hl553_0; replace p553 := eq_true p553; replace q553 := eq_true q553
           try go_wp2
           have n0_ := zA (Kd.S_drew HO_539000.out); have n1_ := zA (Kd.S_drew HO_539001.out); have n2_ := zA (blk_drew BK536.out); have n3_ := zA (blk_drew BK537.out); have n4_ := zA (blk_drew BK538.out); have n5_ := zA (below_drew1 HB.out); clear HO_539000 HO_539001 BK536 BK537 BK538 HB; have HO_539000 := n0_; have HO_539001 := n1_; have BK536 := n2_; have BK537 := n3_; have BK538 := n4_; have HB := n5_; clear n0_ n1_ n2_ n3_ n4_ n5_
           refine start_ (n := 10) (S := fun w' => w'.cell? ⟨gb538, 0, none⟩ = some (u539000) ∧ w'.cell? ⟨gb538, 1, none⟩ = some (u539001)) (ds := [9]) #[false, false, false, false, false, false, false, false, false, false] (by kernel_rfl) rfl rfl ⟨(blk_cell BK538.out 0).trans rfl, (blk_cell BK538.out 1).trans rfl⟩ (fun hHeld => ?_); refine with_tabW pianolalaw04_course.tab16 pianolalaw04_course.bits16 (fun HT_ HW_ => ?_)
           generalize wr.drew = w54 at HO_539000 HO_539001 BK536 BK537 BK538 HB hHeld ⊢
           refine pure_ (i := 0) (N := some 59) (v := ?_) (a' := ?_) #[true, false, false, false, false, false, false, false, false, false] rfl rfl (any_of HT_.out (by kernel_rfl)) (fun _ _ _ h => h) (Or.inl ⟨by rfl, ?_⟩) ?_ ?_
           rotate_left
           ·
            intro w'
            go_simp
            with_reducible rfl
           rotate_left
           · simp only [Act.put, setIfInBounds_toArray, set_cons_zero, set_cons_succ, i64_w, i32_w]; rfl
           refine pure_ (i := 2) (N := some 61) (v := ?_) (a' := ?_) #[true, false, true, false, false, false, false, false, false, false] rfl rfl (any_of HT_.out (by kernel_rfl)) (fun _ _ _ h => h) (Or.inl ⟨by rfl, ?_⟩) ?_ ?_
           rotate_left
           ·
            intro w'
            go_simp
            with_reducible rfl
           rotate_left
           · simp only [Act.put, setIfInBounds_toArray, set_cons_zero, set_cons_succ, i64_w, i32_w]; rfl
           refine pure_ (i := 3) (N := some 62) (v := ?_) (a' := ?_) #[true, false, true, true, false, false, false, false, false, false] rfl rfl (any_of HT_.out (by kernel_rfl)) (fun _ _ _ h => h) (Or.inl ⟨by rfl, ?_⟩) ?_ ?_
           rotate_left
           ·
            intro w'
            go_simp
            with_reducible rfl
           rotate_left
           · simp only [Act.put, setIfInBounds_toArray, set_cons_zero, set_cons_succ, i64_w, i32_w]; rfl
           refine pure_ (i := 4) (N := some 63) (v := ?_) (a' := ?_) #[true, false, true, true, true, false, false, false, false, false] rfl rfl (any_of HT_.out (by kernel_rfl)) (fun _ _ _ h => h) (Or.inl ⟨by rfl, ?_⟩) ?_ ?_
           rotate_left
           ·
            intro w'
            go_simp
            with_reducible rfl
           rotate_left
           · simp only [Act.put, setIfInBounds_toArray, set_cons_zero, set_cons_succ, i64_w, i32_w]; rfl
           refine take_ (i := 1) (N := some 60) (v := ?_) (a' := ?_) #[true, true, true, true, true, false, false, false, false, false] rfl rfl (take_ofW HT_.out HW_.out (by kernel_rfl)) (fun _ _ _ h => h) (Or.inl ⟨by rfl, ?_⟩) hHeld ?_ ?_
           rotate_left
           ·
            rintro w' ⟨s0, s1⟩
            go_simp
            with_reducible rfl
           rotate_left
           · simp only [Act.put, setIfInBounds_toArray, set_cons_zero, set_cons_succ, i64_w, i32_w]; rfl
           refine one_ (i := 5) (N := some 64) #[true, true, true, true, true, true, false, false, false, false] rfl rfl (one_of HT_.out (by kernel_rfl)) (by decide) (fun K hK => ?_)
           refine goes_ Try.func42 (by kernel_rfl) rfl #[.slice A553_0 (rd_L4 l0_1 x43_2).length c553_0, .int .i64 a1, .slice none 0 0] (by rfl) rfl rfl zqE ?_
           refine (pianolalaw04_capacity.calls k2 _ _ (rd_L4 l0_1 x43_2) a1 _ _ ([] : List Int) t561 _ ?side1 ?side2 ?side3 ?side4 A52.out).mono ?_
           (case side1 => exact zqK (Kd.C_below HR553_0.out HB.out))
           (case side2 => exact HC553_0.out)
           (case side3 => exact Kd.C_nil _ _)
           (case side4 => exact Nat.le_refl _)
           rintro e w55 ⟨v562, rfl, ho0, hb⟩
           refine ⟨_, rfl, ?_⟩
           have n0_ := zA (Kd.S_elder' (by (with_reducible repeat (first | apply Kd.S_alloc | apply Kd.S_drewN | apply Kd.S_drew)); exact HO_539000.out) (Kd.R_base ho0) hb)
           have n1_ := zA (Kd.S_elder' (by (with_reducible repeat (first | apply Kd.S_alloc | apply Kd.S_drewN | apply Kd.S_drew)); exact HO_539001.out) (Kd.R_base ho0) hb)
           have n2_ := zA (Kd.R_lower ho0 (below_size (zqI HB.out GE536.out GE537.out GE538.out))); have n3_ := zA (blk_below (g := gb536) (o := .cells #[.slice A0_0 l0_0.length c0_0, .slice (some ad553) l0_1.length c0_1] 40 (0, 0)) (zqB BK536.out) hb); have n4_ := zA (blk_below (g := gb537) (zqB BK537.out) hb); have n5_ := zA (blk_below (g := gb538) (o := .cells #[u539000, u539001] 56 (0, 0)) (zqB BK538.out) hb); have n6_ := zA (below_step (zqI HB.out GE536.out GE537.out GE538.out) hb); clear HO_539000 HO_539001 BK536 BK537 BK538 HB; have HO_539000 := n0_; have HO_539001 := n1_; have HO563 := n2_; have BK536 := n3_; have BK537 := n4_; have BK538 := n5_; have HB := n6_; clear n0_ n1_ n2_ n3_ n4_ n5_ n6_
           (try clear hb); (try clear hb2); (try clear hk); (try clear hi); (try clear ho0)
           obtain ⟨Ao57, co57, eo57⟩ := Kd.R_slice HO563.out
           (first | subst eo57 | (injection eo57 with f1_ f2_ f3_; have f4_ := f1_.symm; have f5_ := f3_.symm; clear f1_ f2_ f3_; subst f4_; subst f5_))
           refine hK.out _ _ ⟨(blk_cell BK538.out 0).trans rfl, (blk_cell BK538.out 1).trans rfl⟩ (fun hHeld => ?_)
           clear hK K; refine norm_ (a' := ?_) ?_ ?_; rotate_left
           · show Act.put _ (some 64) _ = _; simp only [Act.put, setIfInBounds_toArray, set_cons_zero, set_cons_succ, i64_w, i32_w]; rfl
           refine one_ (i := 6) (N := some 65) #[true, true, true, true, true, true, true, false, false, false] rfl rfl (one_of HT_.out (by kernel_rfl)) (by decide) (fun K hK => ?_)
           refine value_ (w1 := ?_) (v := ?_) (by rfl) rfl ?_ ?_
           rotate_left 2
           ·
            go_simp
            constructor
            ·
             rfl
            ·
             rfl
           refine hK.out _ _ ⟨(blk_cell (blk_alloc BK538.out _) 0).trans rfl, (blk_cell (blk_alloc BK538.out _) 1).trans rfl⟩ (fun hHeld => ?_)
           clear hK K; refine norm_ (a' := ?_) ?_ ?_; rotate_left
           · show Act.put _ (some 65) _ = _; simp only [Act.put, setIfInBounds_toArray, set_cons_zero, set_cons_succ, i64_w, i32_w]; rfl
           refine one_ (i := 7) (N := some 66) #[true, true, true, true, true, true, true, true, false, false] rfl rfl (one_of HT_.out (by kernel_rfl)) (by decide) (fun K hK => ?_)
           refine Kd.S_append_step (Kd.slice 3 (Kd.int .i64)) (w0 := w) w.heap.size (by rfl) (.tmp 60) (.tmp 65) 54 30 (.slice none 0 0) 24 rfl Try.underlying54 info30 rfl (by decide) (by omega) u539001 x539001_2 t561 [.slice Ao57 t561.length co57] (fun k_ => some k_ ≠ (u539000 : Value).ownBlock) (fun k_ => some k_ = (.slice Ao57 t561.length co57 : Value).ownBlock) rfl rfl ?aP (fun k_ hk_ => ((Kd.R_mono (ok' := fun k_ => ((fun k_ => some k_ ≠ (u539000 : Value).ownBlock)) k_ ∧ some k_ ≠ (u539001 : Value).ownBlock) (Kd.R_apart' (Kd.R_apart' (HO563.out) (Kd.S_typed HO_539000.out) (by decide)) (Kd.S_typed HO_539001.out) (by decide)) (fun k_ hk => ⟨hk.1.2, hk.2⟩))).1 k_ hk_.symm) ?aF ?aO ?aB ?aS ?aL ?_
           (case aP => exact Kd.M_row (Kd.R_mono (Kd.R_tight rfl (Kd.R_mono (ok' := fun k_ => ((fun k_ => some k_ ≠ (u539000 : Value).ownBlock)) k_ ∧ some k_ ≠ (u539001 : Value).ownBlock) (Kd.R_apart' (Kd.R_apart' (HO563.out) (Kd.S_typed HO_539000.out) (by decide)) (Kd.S_typed HO_539001.out) (by decide)) (fun k_ hk => ⟨hk.1.2, hk.2⟩))) (fun _ h_ => h_)))
           (case aB => exact (zqI HB.out GE536.out GE537.out GE538.out))
           (case aF => exact (fun k_ hk => Kd.fresh' (Kd.S_lt (by (with_reducible repeat (first | apply Kd.S_alloc | apply Kd.S_drewN | apply Kd.S_drew)); exact HO_539000.out)) k_ hk))
           (case aO => exact (by (with_reducible repeat (first | apply Kd.S_alloc | apply Kd.S_drewN | apply Kd.S_drew)); exact Kd.S_mono HO_539001.out (fun k_ hk => ⟨hk.1, fun e_ => hk.2 e_⟩)))
           (case aS => exact (below_size (zqI HB.out GE536.out GE537.out GE538.out)))
           (case aL => have := LMc53.out; omega)
           intro v565 w56 ho hb hg hat
           rw [← Ny564.out] at ho
           have n0_ := zA (Kd.S_after (ok := (fun k_ => some k_ ≠ (.slice Ao57 t561.length co57 : Value).ownBlock)) (by (with_reducible repeat (first | apply Kd.S_alloc | apply Kd.S_drewN | apply Kd.S_drew)); exact Kd.S_mono HO_539000.out (fun _ hk => ⟨hk.2, hk.1⟩)) hg hat)
           have n1_ := zA (blk_grown (g := gb536) (o := .cells #[.slice A0_0 l0_0.length c0_0, .slice (some ad553) l0_1.length c0_1] 40 (0, 0)) (zqB BK536.out) hg (Kd.S_ne HO_539001.out BK536.out (by decide))); have n2_ := zA (blk_grown (g := gb537) (o := .cells #[.slice none 0 0, .slice none 0 0] 56 (0, 0)) (zqB BK537.out) hg (Kd.S_ne HO_539001.out BK537.out (by decide))); have n3_ := zA (blk_grown (g := gb538) (o := .cells #[u539000, u539001] 56 (0, 0)) (zqB BK538.out) hg (Kd.S_ne HO_539001.out BK538.out (by decide))); have n4_ := zA (hb); have n5_ := zA (ho); clear HO_539000 BK536 BK537 BK538 HB HO_539001 HO563; have HO_539000 := n0_; have BK536 := n1_; have BK537 := n2_; have BK538 := n3_; have HB := n4_; have HO566 := n5_; clear n0_ n1_ n2_ n3_ n4_ n5_ ho hb hg hat
           obtain ⟨Ao58, co58, eo58⟩ := Kd.S_slice HO566.out
           (first | subst eo58 | (injection eo58 with f1_ f2_ f3_; have f4_ := f1_.symm; have f5_ := f3_.symm; clear f1_ f2_ f3_; subst f4_; subst f5_))
           refine hK.out _ _ ⟨(blk_cell BK538.out 0).trans rfl, (blk_cell BK538.out 1).trans rfl⟩ (fun hHeld => ?_)
           clear hK K; refine norm_ (a' := ?_) ?_ ?_; rotate_left
           · show Act.put _ (some 66) _ = _; simp only [Act.put, setIfInBounds_toArray, set_cons_zero, set_cons_succ, i64_w, i32_w]; rfl
           refine pure_ (i := 8) (N := some 67) (v := ?_) (a' := ?_) #[true, true, true, true, true, true, true, true, true, false] rfl rfl (any_of HT_.out (by kernel_rfl)) (fun _ _ _ h => h) (Or.inl ⟨by rfl, ?_⟩) ?_ ?_
           rotate_left
           ·
            intro w'
            go_simp
            with_reducible rfl
           rotate_left
           · simp only [Act.put, setIfInBounds_toArray, set_cons_zero, set_cons_succ, i64_w, i32_w]; rfl
           refine last_ (i := 9) (N := none) #[true, true, true, true, true, true, true, true, true, true] rfl rfl (one_of HT_.out (by kernel_rfl)) (by decide) (fun K hK => ?_)
           have hs59 : w56.cell? ⟨gb538, 1, none⟩ = some (u539001) := (blk_cell BK538.out 1).trans rfl
           have hfs59 := blk_frozen BK538.out 1
           have hns59_0 := NB536_538.out
           have hns59_1 := NB537_538.out
           have hms59_0 := NB538_536.out
           have hms59_1 := NB538_537.out
           refine skip_ (w1 := ?_) (by rfl) rfl ?_ ?_
           rotate_left
           ·
            go_simp
            rfl
           refine hK.out _ _ ?_
           clear hK K
           refine done_ (done_of HT_.out (by kernel_rfl)) ?_
           try go_wp2
           go_roundg k2
           case measure => have := HK1.out; have := HK2.out; omega
           case rel => exact ⟨(wrap64 (x43_2 + 1)), (y564), (.slice Ao58 y564.length co58), zqQ, H', ⟨by have := HK1.out; have := HK2.out; omega⟩, ⟨by (with_reducible repeat (first | apply Kd.S_alloc | apply Kd.S_drewN | apply Kd.S_drew)); exact Kd.S_mono (Kd.S_far (p := ⟨gb538, 1, none⟩) (Kd.S_types HO_539000.out BK538.out (by decide)) (fun _ hk => hk.2) (.slice Ao58 y564.length co58)) (fun _ hk => hk.1.2)⟩, ⟨by (with_reducible repeat (first | apply Kd.S_alloc | apply Kd.S_drewN | apply Kd.S_drew)); exact Kd.S_mono (Kd.S_far (p := ⟨gb538, 1, none⟩) (Kd.S_types HO566.out BK538.out (by decide)) (fun _ hk => hk.2) (.slice Ao58 y564.length co58)) (fun _ hk => hk.1)⟩, ⟨by (with_reducible repeat (first | refine blk_drewN ?_ _ | refine blk_drew ?_ | refine blk_alloc ?_ _)); refine blk_far ?_ NB536_538.out _; (with_reducible repeat (first | refine blk_drewN ?_ _ | refine blk_drew ?_ | refine blk_alloc ?_ _)); exact BK536.out⟩, ⟨by (with_reducible repeat (first | refine blk_drewN ?_ _ | refine blk_drew ?_ | refine blk_alloc ?_ _)); refine blk_far ?_ NB537_538.out _; (with_reducible repeat (first | refine blk_drewN ?_ _ | refine blk_drew ?_ | refine blk_alloc ?_ _)); exact BK537.out⟩, ⟨by (with_reducible repeat (first | refine blk_drewN ?_ _ | refine blk_drew ?_ | refine blk_alloc ?_ _)); refine blk_put (cs := #[u539000, u539001]) ?_ 1 _ rfl; (with_reducible repeat (first | refine blk_drewN ?_ _ | refine blk_drew ?_ | refine blk_alloc ?_ _)); exact BK538.out⟩, ⟨zqI HB.out GE536.out GE537.out GE538.out⟩⟩
          ·
           rw [if_neg c53] at H
           exact absurd H (by simp)
        ·
         rw [if_neg c38] at H
         exact absurd H (by simp)
       ·
        rw [if_neg c37] at H
        exact absurd H (by simp)
      ·
       rw [if_neg c36] at H
       have c36b0 : decide (x43_2 < (l0_1.length : Int)) = false := decide_eq_false c36
       clear c36
       simp only [Option.some.injEq, Prod.mk.injEq] at H
       obtain ⟨rfl, rfl⟩ := H
       have hnb60 := NB538_536.out
       have hnc60 := NB536_538.out
       have hnb61 := NB538_537.out
       have hnc61 := NB537_538.out
       have hcz62_0 : wr.cell? ⟨gb538, 0, none⟩ = some (u539000) := (blk_cell BK538.out 0).trans rfl
       have hcz62_1 : wr.cell? ⟨gb538, 1, none⟩ = some (u539001) := (blk_cell BK538.out 1).trans rfl
       have hfz62_0 := blk_frozen BK538.out 0
       have hfz62_1 := blk_frozen BK538.out 1
       obtain ⟨Ao63, co63, eo63⟩ := Kd.S_slice HO_539000.out
       subst eo63
       have hnb64 := NB537_536.out
       have hnc64 := NB536_537.out
       have hcz65_0 : wr.cell? ⟨gb537, 0, none⟩ = some (.slice none 0 0) := (blk_cell BK537.out 0).trans rfl
       have hcz65_1 : wr.cell? ⟨gb537, 1, none⟩ = some (.slice none 0 0) := (blk_cell BK537.out 1).trans rfl
       have hfz65_0 := blk_frozen BK537.out 0
       have hfz65_1 := blk_frozen BK537.out 1
       obtain ⟨Ao66, co66, eo66⟩ := Kd.S_slice HO_539001.out
       subst eo66
       go_wp2
       refine bodyPost_ret (results_cell_row rfl _ _ gb537 56 #[.slice Ao63 x539000_1.length co63, .slice Ao66 x539001_2.length co66] (0, 0) _ rfl (by (with_reducible repeat (first | refine blk_drewN ?_ _ | refine blk_drew ?_ | refine blk_alloc ?_ _)); refine blk_put (cs := #[.slice Ao63 x539000_1.length co63, .slice none 0 0]) ?_ 1 _ rfl; (with_reducible repeat (first | refine blk_drewN ?_ _ | refine blk_drew ?_ | refine blk_alloc ?_ _)); refine blk_put (cs := #[.slice none 0 0, .slice none 0 0]) ?_ 0 _ rfl; (with_reducible repeat (first | refine blk_drewN ?_ _ | refine blk_drew ?_ | refine blk_alloc ?_ _)); exact BK537.out) Try.underlying56 rfl (by kernel_rfl)) rfl ?_
       exact ⟨_, _, zqR, by (with_reducible repeat (first | apply Kd.S_alloc | apply Kd.S_drewN | apply Kd.S_drew)); exact Kd.S_mono (Kd.S_far (p := ⟨gb537, 1, none⟩) (Kd.S_far (p := ⟨gb537, 0, none⟩) (Kd.S_types HO_539000.out BK537.out (by decide)) (fun _ hk => hk.2) (.slice Ao63 x539000_1.length co63)) (fun _ hk => hk.2) (.slice Ao66 x539001_2.length co66)) (fun _ hk => hk.1), by (with_reducible repeat (first | apply Kd.S_alloc | apply Kd.S_drewN | apply Kd.S_drew)); exact Kd.S_mono (Kd.S_far (p := ⟨gb537, 1, none⟩) (Kd.S_far (p := ⟨gb537, 0, none⟩) (Kd.S_types HO_539001.out BK537.out (by decide)) (fun _ hk => hk.2) (.slice Ao63 x539000_1.length co63)) (fun _ hk => hk.2) (.slice Ao66 x539001_2.length co66)) (fun _ hk => hk.1), zqI HB.out GE536.out GE537.out GE538.out⟩
end Go.Proofs.Ythoeindopljmkaa.P
end
end
