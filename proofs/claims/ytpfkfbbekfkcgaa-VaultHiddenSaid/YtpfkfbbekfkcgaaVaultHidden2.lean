/- Words and contracts for a claim. -/
import Derived.Test.YtpfkfbbekfkcgaaVaultHidden1
import Derived.OpenShut
import Derived.Deep.Slices
import Derived.ChangeSame
section
namespace Go.Proofs.Ytpfkfbbekfkcgaa.P
open Go.ChangeShapes Go.WideShapes Go.Deep Go.RowKit Go.Proofs.YtpfkfbbekfkcgaaW.PrintWords
set_option maxRecDepth 100000
set_option linter.unusedVariables false
set_option linter.unusedSimpArgs false
theorem two_of {α : Type} {l : List α} (h : l.length = 2) : ∃ a b, l = [a, b] := by
  match l, h with
  | [a, b], _ => exact ⟨a, b, rfl⟩
theorem pair_u8 {H : Type} {enc : TypeId × Value → H} {w : World} {base : Nat} {spare : Nat → Bool} {held : Bool} {fuel : Nat} {cs : List Value} {x : DataW H × List MemPlace} (h : DataW.trod enc Try.prog w base spare held fuel 64 cs = some x) :
    ∃ a b : Int, cs = [.int .u8 a, .int .u8 b] ∧ (Lit.int .u8 a).wf = true ∧ (Lit.int .u8 b).wf = true ∧ x = (.agg [.lit (.int .u8 a), .lit (.int .u8 b)], []) := by
  obtain ⟨xs, m, _, hx, hcl, hxl, hg⟩ := DataW.trod_array Try.underlying64 h
  have hc : Try.prog.cellsOf 64 = 2 := by kernel_rfl
  have hc5 : Try.prog.cellsOf 5 = 1 := by kernel_rfl
  rw [hc] at hcl
  obtain ⟨c0, c1, rfl⟩ := two_of hcl
  obtain ⟨y0, y1, rfl⟩ := two_of hxl
  have h0 := hg 0 (by omega)
  have h1 := hg 1 (by omega)
  rw [hc5] at h0 h1
  obtain ⟨a, e0, z0, w0⟩ := DataW.trod_int Try.underlying5 (show DataW.trod enc Try.prog w base spare held m 5 [c0] = some y0 from h0)
  obtain ⟨b, e1, z1, w1⟩ := DataW.trod_int Try.underlying5 (show DataW.trod enc Try.prog w base spare held m 5 [c1] = some y1 from h1)
  injection e0 with e0
  injection e1 with e1
  subst e0 e1 z0 z1
  exact ⟨a, b, rfl, w0, w1, hx⟩
theorem open_arr2 {H : Type} {enc : TypeId × Value → H} {w : World} {base : Nat} {spare : Nat → Bool} {held : Bool} {r : Reach} {b0 : Nat} {v : Value} {d : DataW H} {p : List MemPlace} (hv : Value.okWide Try.prog w r b0 64 v) (h : DataW.Trod enc Try.prog w base spare held 64 v d p) :
    ∃ a b : Int, v = .agg #[.int .u8 a, .int .u8 b] ∧ (Lit.int .u8 a).wf = true ∧ (Lit.int .u8 b).wf = true ∧ d = .agg [.lit (.int .u8 a), .lit (.int .u8 b)] ∧ p = [] := by
  simp only [Value.okWide, Try.underlying64] at hv
  obtain ⟨cs, rfl, h2, _⟩ := hv
  obtain ⟨fuel, hf⟩ := h
  obtain ⟨a, b, hcs, wa, wb, hx⟩ := pair_u8 hf
  injection hx with hd hp
  obtain ⟨l⟩ := cs
  have hl : l = [.int .u8 a, .int .u8 b] := hcs
  subst hl
  exact ⟨a, b, rfl, wa, wb, hd, hp⟩
theorem shut_arr2 {H : Type} {enc : TypeId × Value → H} {w : World} {base : Nat} {spare : Nat → Bool} {held : Bool} {a b : Int} (wa : (Lit.int .u8 a).wf = true) (wb : (Lit.int .u8 b).wf = true) :
    DataW.Trod enc Try.prog w base spare held 64 (.agg #[.int .u8 a, .int .u8 b]) (.agg [.lit (.int .u8 a), .lit (.int .u8 b)]) [] := by
  have hc : Try.prog.cellsOf 64 = 2 := by kernel_rfl
  have hc5 : Try.prog.cellsOf 5 = 1 := by kernel_rfl
  refine ⟨2, ?_⟩
  have h0 : DataW.trod enc Try.prog w base spare held 1 5 [.int .u8 a] = some (.lit (.int .u8 a), []) := trod_int_mk 0 Try.underlying5 wa
  have h1 : DataW.trod enc Try.prog w base spare held 1 5 [.int .u8 b] = some (.lit (.int .u8 b), []) := trod_int_mk 0 Try.underlying5 wb
  unfold DataW.trod
  have r2 : List.range 2 = [0, 1] := rfl
  simp [Try.underlying64, Value.cells, hc, hc5, r2, h0, h1]
end Go.Proofs.Ytpfkfbbekfkcgaa.P
end
