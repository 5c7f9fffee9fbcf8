/- Words and contracts for a claim. -/
import Derived.Test.YthoeindopljmkaaPumpLacks3
import Derived.Deep.SlicePairs
import Derived.ProofKit
section
namespace Go.Proofs.Ythoeindopljmkaa.P
open Go.ChangeShapes Go.WideShapes Go.Deep Go.RowKit Go.Proofs.YthoeindopljmkaaW.PrintWords
set_option linter.unusedVariables false
set_option linter.unusedSimpArgs false
theorem cells_of_fields {w : World} {a : Addr} {l : List S71} {n : Nat} (hl : l.length = n) (hn : n ≤ 9223372036854775807)
    (h : ∀ i (hi : i < l.length), w.cell? (a.add (i * 2)) = some (.int .i64 l[i].f0) ∧ w.cell? (a.add (i * 2 + 1)) = some (.int .i64 l[i].f1)) : Kd.C k71 w (some a) n l := by
  refine ⟨hl, hn, fun _ => ⟨a, rfl, fun j p hp => ?_⟩⟩
  obtain ⟨hj, rfl⟩ := List.getElem?_eq_some_iff.1 hp
  refine ⟨_, rfl, k71_mk w l[j], fun i u hu => ?_⟩
  obtain ⟨h0, h1⟩ := h j hj
  show w.cell? (a.add (j * 2 + i)) = _
  match i, hu with
  | 0, hu => cases hu; exact h0
  | 1, hu => cases hu; exact h1
  | _ + 2, hu => simp at hu
theorem open_shares {H : Type} {enc : TypeId × Value → H} {w : World} {base : Nat} {spare : Nat → Bool} {held : Bool} {t e : TypeId} {f0 f1 : Field} {fuel : Nat} {A : Option Addr} {len cap : Nat} {x : DataW H × List MemPlace}
    (ht : Try.prog.underlying t = some (.slice e)) (he : Try.prog.underlying e = some (.struct #[f0, f1])) (ce : Try.prog.cellsOf e = 2) (o0 : f0.offset = 0) (o1 : f1.offset = 1)
    (u0 : Try.prog.underlying f0.type = some (.int .i64)) (u1 : Try.prog.underlying f1.type = some (.int .i64)) (c0 : Try.prog.cellsOf f0.type = 1) (c1 : Try.prog.cellsOf f1.type = 1)
    (h : DataW.trod enc Try.prog w base spare held fuel t [.slice A len cap] = some x) :
    ∃ l : List S71, Kd.C k71 w A l.length l ∧ l.length = len ∧ l.length ≤ cap ∧ ∀ s ∈ l, (Lit.int .i64 s.f0).wf = true ∧ (Lit.int .i64 s.f1).wf = true := by
  rcases open_slice_pairs ht he ce o0 o1 c0 c1 h with ⟨hcs, _⟩ | ⟨a, len', cap', m, n, V0, V1, D0, D1, P0, P1, hcs, hb, hl, hm, hmm, hx, hi⟩
  · injection hcs with hcs _
    injection hcs with e1 e2 e3
    subst e1 e2 e3
    exact ⟨[], ⟨rfl, by simp, fun h => absurd h (by simp)⟩, rfl, Nat.le_refl _, fun _ h => by cases h⟩
  · injection hcs with hcs _
    injection hcs with e1 e2 e3
    subst e1 e2 e3
    have hlm : len ≤ m := by rw [hmm]; split <;> omega
    have each : ∀ i, i < len → ∃ s : S71, w.cell? (a.add (i * 2)) = some (.int .i64 s.f0) ∧ w.cell? (a.add (i * 2 + 1)) = some (.int .i64 s.f1) ∧ (Lit.int .i64 s.f0).wf = true ∧ (Lit.int .i64 s.f1).wf = true := by
      intro i hlt
      obtain ⟨h0, h1, t0, t1⟩ := hi i (by omega)
      obtain ⟨x0, e0, _, w0⟩ := DataW.trod_int u0 t0
      obtain ⟨x1, e1, _, w1⟩ := DataW.trod_int u1 t1
      injection e0 with e0
      injection e1 with e1
      exact ⟨⟨x0, x1⟩, h0.trans (by rw [e0]), h1.trans (by rw [e1]), w0, w1⟩
    obtain ⟨F, hF⟩ : ∃ F : Nat → S71, ∀ i, i < len → w.cell? (a.add (i * 2)) = some (.int .i64 (F i).f0) ∧ w.cell? (a.add (i * 2 + 1)) = some (.int .i64 (F i).f1) ∧ (Lit.int .i64 (F i).f0).wf = true ∧ (Lit.int .i64 (F i).f1).wf = true :=
      ⟨fun i => if h : i < len then Classical.choose (each i h) else z71, fun i h => by simp only [dif_pos h]; exact Classical.choose_spec (each i h)⟩
    have hlen : ((List.range len).map F).length = len := by simp
    refine ⟨(List.range len).map F, ?_, hlen, by rw [hlen]; exact hl, fun s hs => ?_⟩
    · rw [hlen]
      refine cells_of_fields hlen (by unfold maxLen at hm; omega) (fun i hi => ?_)
      have := hF i (by simpa using hi)
      simp only [List.getElem_map, List.getElem_range]
      exact ⟨this.1, this.2.1⟩
    · obtain ⟨i, hi, rfl⟩ := List.mem_map.1 hs
      exact (hF i (List.mem_range.1 hi)).2.2
theorem open_shares_22 {H : Type} {enc : TypeId × Value → H} {w : World} {base : Nat} {spare : Nat → Bool} {held : Bool} {fuel : Nat} {A : Option Addr} {len cap : Nat} {x : DataW H × List MemPlace}
    (h : DataW.trod enc Try.prog w base spare held fuel 22 [.slice A len cap] = some x) :
    ∃ l : List S71, Kd.C k71 w A l.length l ∧ l.length = len ∧ l.length ≤ cap ∧ ∀ s ∈ l, (Lit.int .i64 s.f0).wf = true ∧ (Lit.int .i64 s.f1).wf = true :=
  open_shares Try.underlying22 Try.underlying71 (by kernel_rfl) rfl rfl Try.underlying3 Try.underlying3 (by kernel_rfl) (by kernel_rfl) h
end Go.Proofs.Ythoeindopljmkaa.P
end
