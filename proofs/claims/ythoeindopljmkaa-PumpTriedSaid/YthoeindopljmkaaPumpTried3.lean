/- Words and contracts for a claim. -/
import Derived.Test.YthoeindopljmkaaPumpTried2
import Derived.OpenShut
import Derived.Deep.Slices
import Derived.ChangeSame
section
namespace Go.Proofs.Ythoeindopljmkaa.P
open Go.ChangeShapes Go.WideShapes Go.Deep Go.RowKit Go.Proofs.YthoeindopljmkaaW.PrintWords
set_option maxRecDepth 100000
set_option linter.unusedVariables false
set_option linter.unusedSimpArgs false
theorem two_of {α : Type} {l : List α} (h : l.length = 2) : ∃ a b, l = [a, b] := by
  match l, h with
  | [a, b], _ => exact ⟨a, b, rfl⟩
theorem pair_u8 {H : Type} {enc : TypeId × Value → H} {w : World} {base : Nat} {spare : Nat → Bool} {held : Bool} {fuel : Nat} {cs : List Value} {x : DataW H × List MemPlace} (h : DataW.trod enc Try.prog w base spare held fuel 86 cs = some x) :
    ∃ a b : Int, cs = [.int .u8 a, .int .u8 b] ∧ (Lit.int .u8 a).wf = true ∧ (Lit.int .u8 b).wf = true ∧ x = (.agg [.lit (.int .u8 a), .lit (.int .u8 b)], []) := by
  obtain ⟨xs, m, _, hx, hcl, hxl, hg⟩ := DataW.trod_array Try.underlying86 h
  have hc : Try.prog.cellsOf 86 = 2 := by kernel_rfl
  have hc5 : Try.prog.cellsOf 5 = 1 := by kernel_rfl
  rw [hc] at hcl
  obtain ⟨c0, c1, rfl⟩ := two_of hcl
  obtain ⟨y0, y1, rfl⟩ := two_of hxl
  have h0 := hg 0 (by omega)
  have h1 := hg 1 (by omega)
  rw [hc5] at h0 h1
  obtain ⟨a, e0, z0, w0⟩ := DataW.trod_int Try.underlying5 (show DataW.trod enc Try.prog w base spare held m 5 [c0] = some y0 from h0)
  obtain ⟨b, e1, z1, w1⟩ := DataW.trod_int Try.underlying5 (show DataW.trod enc Try.prog w base spare held m 5 [c1] = some y1 from h1)
  injection e0 with e0
  injection e1 with e1
  subst e0 e1 z0 z1
  exact ⟨a, b, rfl, w0, w1, hx⟩
theorem open_bytes2_66 {H : Type} {enc : TypeId × Value → H} {w : World} {base : Nat} {spare : Nat → Bool} {held : Bool} {fuel : Nat} {A : Option Addr} {len cap : Nat} {x : DataW H × List MemPlace}
    (h : DataW.trod enc Try.prog w base spare held fuel 66 [.slice A len cap] = some x) :
    ∃ l : List S86, Kd.C k86 w A l.length l ∧ l.length = len ∧ l.length ≤ cap ∧ ∀ s ∈ l, (Lit.int .u8 s.f0).wf = true ∧ (Lit.int .u8 s.f1).wf = true := by
  have hc : Try.prog.cellsOf 86 = 2 := by kernel_rfl
  rcases open_slice Try.underlying66 h with ⟨hcs, _⟩ | ⟨a, len', cap', m, n, D, Pl, hcs, hb, hl, hm, hmm, hx, hi⟩
  · injection hcs with hcs _
    injection hcs with e1 e2 e3
    subst e1 e2 e3
    exact ⟨[], ⟨rfl, by simp, fun h => absurd h (by simp)⟩, rfl, Nat.le_refl _, fun _ h => by cases h⟩
  · injection hcs with hcs _
    injection hcs with e1 e2 e3
    subst e1 e2 e3
    have hlm : len ≤ m := by rw [hmm]; split <;> omega
    have each : ∀ i, i < len → ∃ s : S86, w.cell? (a.add (i * 2)) = some (.int .u8 s.f0) ∧ w.cell? (a.add (i * 2 + 1)) = some (.int .u8 s.f1) ∧ (Lit.int .u8 s.f0).wf = true ∧ (Lit.int .u8 s.f1).wf = true := by
      intro i hlt
      obtain ⟨cs', hcc, ht⟩ := hi i (by omega)
      rw [hc] at hcc
      obtain ⟨y0, y1, e, w0, w1, _⟩ := pair_u8 ht
      subst e
      obtain ⟨_, _, hat⟩ := World.cells?_some hcc
      have h0 := hat 0 (by omega)
      have h1 := hat 1 (by omega)
      rw [Go.Deep.add_add] at h0 h1
      exact ⟨⟨y0, y1⟩, h0, h1, w0, w1⟩
    obtain ⟨F, hF⟩ : ∃ F : Nat → S86, ∀ i, i < len → w.cell? (a.add (i * 2)) = some (.int .u8 (F i).f0) ∧ w.cell? (a.add (i * 2 + 1)) = some (.int .u8 (F i).f1) ∧ (Lit.int .u8 (F i).f0).wf = true ∧ (Lit.int .u8 (F i).f1).wf = true :=
      ⟨fun i => if h : i < len then Classical.choose (each i h) else z86, fun i h => by simp only [dif_pos h]; exact Classical.choose_spec (each i h)⟩
    have hlen : ((List.range len).map F).length = len := by simp
    refine ⟨(List.range len).map F, ?_, hlen, by rw [hlen]; exact hl, fun s hs => ?_⟩
    · rw [hlen]
      refine ⟨hlen, by unfold maxLen at hm; omega, fun _ => ⟨a, rfl, fun j p hp => ?_⟩⟩
      obtain ⟨hj, rfl⟩ := List.getElem?_eq_some_iff.1 hp
      have hF' := hF j (by simpa using hj)
      refine ⟨_, rfl, k86_mk w _, fun i u hu => ?_⟩
      simp only [List.getElem_map, List.getElem_range] at hu
      show w.cell? (a.add (j * 2 + i)) = _
      match i, hu with
      | 0, hu => cases hu; exact hF'.1
      | 1, hu => cases hu; exact hF'.2.1
      | _ + 2, hu => simp at hu
    · obtain ⟨i, hi, rfl⟩ := List.mem_map.1 hs
      exact (hF i (List.mem_range.1 hi)).2.2
end Go.Proofs.Ythoeindopljmkaa.P
end
section
namespace Go.Proofs.Ythoeindopljmkaa.P
open Go.RowKit Go.Proofs.YthoeindopljmkaaW.PrintWords Go.Proofs.YthoeindopljmkaaW.PrintLast Go.Proofs.YthoeindopljmkaaW.PrintMore
attribute [local go_sem] max2_int min2_int max_two min_two max_three min_three max_four min_four
set_option linter.unusedVariables false
set_option linter.unusedSimpArgs false
theorem pianolalaw04_numbers.mono_l : ∀ k, (∀ y0 y1 y2, LeO (pianolalaw04_numbers.l0 k y0 y1 y2) (pianolalaw04_numbers.l0 (k + 1) y0 y1 y2))
  | 0 => fun _ _ _ r h => by simp [pianolalaw04_numbers.l0] at h
  | k + 1 => by
    have ih0 := pianolalaw04_numbers.mono_l k
    · intro y0 y1 y2
      unfold pianolalaw04_numbers.l0
      repeat' first
      | (with_reducible exact ih0 _ _ _)
      | (with_reducible exact LeO.refl _)
      | (with_reducible exact LeO.none _)
      | (with_reducible refine LeO.ite ?_ ?_)
      | (with_reducible refine LeO.bind ?_ (fun _ => ?_))
      | exact ih0 _ _ _
      | exact LeO.none _
      | refine LeO.ite ?_ ?_
      | refine LeO.bind ?_ (fun _ => ?_)
theorem pianolalaw04_Set_made.mono_l : ∀ k, (∀ y0 y1 y2, LeO (pianolalaw04_Set_made.l0 k y0 y1 y2) (pianolalaw04_Set_made.l0 (k + 1) y0 y1 y2)) ∧ (∀ y0 y1 y2 y3, LeO (pianolalaw04_Set_made.j1 k y0 y1 y2 y3) (pianolalaw04_Set_made.j1 (k + 1) y0 y1 y2 y3))
  | 0 => ⟨fun _ _ _ r h => by simp [pianolalaw04_Set_made.l0] at h, fun _ _ _ _ r h => by simp [pianolalaw04_Set_made.j1] at h⟩
  | k + 1 => by
    obtain ⟨ih0, ih1⟩ := pianolalaw04_Set_made.mono_l k
    refine ⟨?_, ?_⟩
    · intro y0 y1 y2
      unfold pianolalaw04_Set_made.l0
      repeat' first
      | (with_reducible exact ih0 _ _ _)
      | (with_reducible exact ih1 _ _ _ _)
      | (with_reducible exact LeO.refl _)
      | (with_reducible exact LeO.none _)
      | (with_reducible refine LeO.ite ?_ ?_)
      | (with_reducible refine LeO.bind ?_ (fun _ => ?_))
      | exact ih0 _ _ _
      | exact ih1 _ _ _ _
      | exact LeO.none _
      | refine LeO.ite ?_ ?_
      | refine LeO.bind ?_ (fun _ => ?_)
    · intro y0 y1 y2 y3
      unfold pianolalaw04_Set_made.j1
      repeat' first
      | (with_reducible exact ih0 _ _ _)
      | (with_reducible exact ih1 _ _ _ _)
      | (with_reducible exact LeO.refl _)
      | (with_reducible exact LeO.none _)
      | (with_reducible refine LeO.ite ?_ ?_)
      | (with_reducible refine LeO.bind ?_ (fun _ => ?_))
      | exact ih0 _ _ _
      | exact ih1 _ _ _ _
      | exact LeO.none _
      | refine LeO.ite ?_ ?_
      | refine LeO.bind ?_ (fun _ => ?_)
theorem pianolalaw04_Set_made.mono : ∀ a0 k, LeO (pianolalaw04_Set_made.f k a0) (pianolalaw04_Set_made.f (k + 1) a0) := by
  intro a0 k
  obtain ⟨ih0, ih1⟩ := pianolalaw04_Set_made.mono_l k
  unfold pianolalaw04_Set_made.f
  repeat' first
      | (with_reducible exact ih0 _ _ _)
      | (with_reducible exact ih1 _ _ _ _)
      | (with_reducible exact LeO.refl _)
      | (with_reducible exact LeO.none _)
      | (with_reducible refine LeO.ite ?_ ?_)
      | (with_reducible refine LeO.bind ?_ (fun _ => ?_))
      | exact ih0 _ _ _
      | exact ih1 _ _ _ _
      | exact LeO.none _
      | refine LeO.ite ?_ ?_
      | refine LeO.bind ?_ (fun _ => ?_)
end Go.Proofs.Ythoeindopljmkaa.P
end
