/- Words and contracts for a claim. -/
import Derived.Test.YthoeindopljmkaaBase8
import Derived.LoopN
section
namespace Go.Proofs.Ythoeindopljmkaa.P
open Go.RowKit Go.Shelf Go.Proofs.YthoeindopljmkaaW.PrintWords Go.Proofs.YthoeindopljmkaaW.PrintLast Go.Proofs.YthoeindopljmkaaW.PrintMore
set_option linter.unusedVariables false
set_option linter.unusedSimpArgs false
attribute [local go_sem] Oper.semAt_some
def KeepC (A B : World) : Prop := A.heap.size ≤ B.heap.size ∧ ∀ (k : Nat) (o : Obj), A.heap[k]? = some o → o.isCells = true → B.heap[k]? = some o
theorem KeepC.refl (A : World) : KeepC A A := ⟨Nat.le_refl _, fun _ _ h _ => h⟩
theorem KeepC.trans {A B C : World} (h : KeepC A B) (k : KeepC B C) : KeepC A C := ⟨Nat.le_trans h.1 k.1, fun i o hi ho => k.2 i o (h.2 i o hi ho) ho⟩
theorem KeepC.putObj (W : World) (l : Nat) (o o' : Obj) (h : W.heap[l]? = some o) (ho : o.isCells = false) : KeepC W (W.putObj l o') := by
  refine ⟨by simp [World.putObj], fun i u hi hu => ?_⟩
  by_cases e : l = i
  · subst e; rw [h] at hi; injection hi with hi; subst hi; rw [ho] at hu; cases hu
  · exact (World.putObj_heap_other (Ne.symm e)).trans hi
theorem KeepC.cell {A B : World} (h : KeepC A B) {a : Addr} {v : Value} (hc : A.cell? a = some v) : B.cell? a = some v := by
  unfold World.cell? at hc ⊢
  cases e : A.heap[a.block]? with
  | none => rw [e] at hc; cases hc
  | some o =>
    rw [e] at hc
    cases o <;> first | (rw [h.2 _ _ e rfl]; exact hc) | cases hc
def loopBody : Code → Option Code
  | .seq x y => match loopBody x with | some b => some b | none => loopBody y
  | .block _ c => loopBody c
  | .loop c => some c
  | .scope c => loopBody c
  | .cond _ x y => match loopBody x with | some b => some b | none => loopBody y
  | _ => none
def Marks (base : Nat) (W : World) : Nat → List Deferred → Prop
  | _, [] => True
  | B, d :: ds => ∃ D, d = { target := .collected D, args := #[] } ∧ base ≤ D ∧ D < B ∧ W.heap[D]? = some (.deferred (some [])) ∧ Marks base W D ds
theorem Marks.keep {base : Nat} {W W' : World} (hk : ∀ (k : Nat) (o : Obj), W.heap[k]? = some o → o.isCells = false → W'.heap[k]? = some o) : ∀ {B : Nat} {ds : List Deferred}, Marks base W B ds → Marks base W' B ds
  | _, [], _ => trivial
  | _, _ :: _, ⟨D, e, h1, h2, h3, h4⟩ => ⟨D, e, h1, h2, hk _ _ h3 rfl, Marks.keep hk h4⟩
theorem Marks.mono {base : Nat} {W : World} : ∀ {B B' : Nat} {ds : List Deferred}, Marks base W B ds → B ≤ B' → Marks base W B' ds
  | _, _, [], _, _ => trivial
  | _, _, _ :: _, ⟨D, e, h1, h2, h3, h4⟩, h => ⟨D, e, h1, Nat.lt_of_lt_of_le h2 h, h3, h4⟩
theorem Marks.put {base : Nat} {W : World} {j : Nat} {o : Obj} : ∀ {B : Nat} {ds : List Deferred}, Marks base W B ds → B ≤ j → Marks base (W.putObj j o) B ds
  | _, [], _, _ => trivial
  | _, _ :: _, ⟨D, e, h1, h2, h3, h4⟩, h => ⟨D, e, h1, h2, (World.putObj_heap_other (by omega)).trans h3, Marks.put h4 (by omega)⟩
theorem R_keepC {w W : World} {base : Nat} {v : Value} {xs : List Int} (h : Kd.R (Kd.int .i64) 3 w base (fun _ => True) v xs) (k : KeepC w W) : Kd.R (Kd.int .i64) 3 W base (fun _ => True) v xs :=
  Kd.R_mono (Kd.R_step (Kd.R_bound h) (fun i hi _ => by obtain ⟨_, _, _, q, _, cells, e⟩ := hi; exact (k.2 i _ e rfl).trans e.symm)) (fun _ _ => trivial)
theorem leaves {fn : Func} {tmps : Array Value} {R : Ending → World → Prop} {base : Nat} : ∀ (ds : List Deferred) (B : Nat) (W : World), Marks base W B ds → base ≤ W.heap.size →
    (∀ W', Below base W W' → KeepC W W' → ∃ v, (results fn tmps).run Try.prog W' = .ok v W' ∧ R (.returned v) W') → LeavesInM Fence.wide 10 Try.prog fn tmps R ds .returning W
  | [], _, W, _, _, h => h W (Below.refl _ _) (KeepC.refl _)
  | _ :: ds, B, W, ⟨D, e, h1, h2, h3, h4⟩, hb, h => by
    subst e
    refine ⟨by simp, .inl ⟨D, _, rfl, run_takeDeferred h3, ?_⟩⟩
    have kc := KeepC.putObj W D (.deferred (some [])) (.deferred none) h3 rfl
    have hg := grownBy_putObj' W D (.deferred none)
    have bb : Below base W (W.putObj D (.deferred none)) := ⟨hg.os, hg.tape, hg.output, hg.size, fun k hk => hg.block k (by omega) (by simp; omega)⟩
    exact leaves ds D _ (h4.put (Nat.le_refl _)) (Nat.le_trans hb hg.size) (fun W' hW hk => h W' (bb.trans hW) (kc.trans hk))
end Go.Proofs.Ythoeindopljmkaa.P
end
