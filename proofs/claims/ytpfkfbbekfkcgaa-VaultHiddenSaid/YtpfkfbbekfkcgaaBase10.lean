/- Words and contracts for a claim. -/
import Derived.Test.YtpfkfbbekfkcgaaBase9
import Derived.RangeFuncKeeps
import Derived.RangeFuncBound
import Derived.RangeFuncCalls
import Derived.RangeFuncLeaves
import Derived.OwnWalkIn
import Derived.TacticsInMore
section
namespace Go.Proofs.Ytpfkfbbekfkcgaa.P
open Go.RowKit Go.Shelf Go.Proofs.YtpfkfbbekfkcgaaW.PrintWords Go.Proofs.YtpfkfbbekfkcgaaW.PrintLast Go.Proofs.YtpfkfbbekfkcgaaW.PrintMore
set_option linter.unusedVariables false
set_option linter.unusedSimpArgs false
def KeepC (A B : World) : Prop := A.heap.size ≤ B.heap.size ∧ ∀ (k : Nat) (o : Obj), A.heap[k]? = some o → o.isCells = true → B.heap[k]? = some o
theorem KeepC.refl (A : World) : KeepC A A := ⟨Nat.le_refl _, fun _ _ h _ => h⟩
theorem KeepC.trans {A B C : World} (h : KeepC A B) (k : KeepC B C) : KeepC A C := ⟨Nat.le_trans h.1 k.1, fun i o hi ho => k.2 i o (h.2 i o hi ho) ho⟩
theorem KeepC.of_below {A B : World} (h : Below A.heap.size A B) : KeepC A B := ⟨h.size, fun i o hi _ => (h.block i (Array.getElem?_eq_some_iff.1 hi).1).trans hi⟩
theorem KeepC.putObj (W : World) (l : Nat) (o o' : Obj) (h : W.heap[l]? = some o) (ho : o.isCells = false) : KeepC W (W.putObj l o') := by
  refine ⟨by simp [World.putObj], fun i u hi hu => ?_⟩
  by_cases e : l = i
  · subst e; rw [h] at hi; injection hi with hi; subst hi; rw [ho] at hu; cases hu
  · exact (World.putObj_heap_other (Ne.symm e)).trans hi
theorem KeepC.cell {A B : World} (h : KeepC A B) {a : Addr} {v : Value} (hc : A.cell? a = some v) : B.cell? a = some v := by
  unfold World.cell? at hc ⊢
  cases e : A.heap[a.block]? with
  | none => rw [e] at hc; cases hc
  | some o =>
    rw [e] at hc
    cases o <;> first | (rw [h.2 _ _ e rfl]; exact hc) | cases hc
def KeepHi (n₁ : Nat) (A B : World) : Prop := A.heap.size ≤ B.heap.size ∧ ∀ (k : Nat) (o : Obj), n₁ ≤ k → A.heap[k]? = some o → o.isCells = true → B.heap[k]? = some o
theorem KeepC.hi {A B : World} (h : KeepC A B) (n₁ : Nat) : KeepHi n₁ A B := ⟨h.1, fun k o _ hk ho => h.2 k o hk ho⟩
theorem KeepHi.trans {n₁ : Nat} {A B C : World} (h : KeepHi n₁ A B) (k : KeepHi n₁ B C) : KeepHi n₁ A C := ⟨Nat.le_trans h.1 k.1, fun i o hn hi ho => k.2 i o hn (h.2 i o hn hi ho) ho⟩
theorem KeepHi.cell {n₁ : Nat} {A B : World} (h : KeepHi n₁ A B) {a : Addr} {v : Value} (hn : n₁ ≤ a.block) (hc : A.cell? a = some v) : B.cell? a = some v := by
  unfold World.cell? at hc ⊢
  cases e : A.heap[a.block]? with
  | none => rw [e] at hc; cases hc
  | some o =>
    rw [e] at hc
    cases o <;> first | (rw [h.2 _ _ hn e rfl]; exact hc) | cases hc
def ownPostV {α : Type} (n₁ : Nat) (I : List α → World → Prop) (Ix : Code → List α → World → Prop) (xs : List α) (W : World) : Exit → Act → World → Prop
  | .normal, _, W' => KeepsOthers W W' ∧ KeepC W W' ∧ I xs W'
  | .ret, _, W' => KeepsOthers W W' ∧ KeepHi n₁ W W' ∧ Ix .ret xs W'
  | .exit id, _, W' => KeepsOthers W W' ∧ KeepHi n₁ W W' ∧ Ix (.exit id) xs W'
  | .goto t, _, W' => KeepsOthers W W' ∧ KeepHi n₁ W W' ∧ Ix (.goto t) xs W'
  | .panic _, _, _ => False
  | .outgrown, _, _ => False
theorem KeepC.ints {A B : World} (h : KeepC A B) {A0 : Option Addr} {n : Nat} {xs : List Int} (hc : Kd.C (Kd.int .i64) A A0 n xs) : Kd.C (Kd.int .i64) B A0 n xs := by
  refine ⟨hc.1, hc.2.1, fun hn => ?_⟩
  obtain ⟨ad, e, hr⟩ := hc.2.2 hn
  refine ⟨ad, e, fun j p hj => ?_⟩
  obtain ⟨c, hs, hr2, hcell⟩ := hr j p hj
  exact ⟨c, hs, hr2, fun i u hu => h.cell (hcell i u hu)⟩
def SeqV {α : Type} (P : Program) (gf : Nat) (lb : Array Value) (V : Value → α → World → Prop) (n₁ : Nat) (S Sp : List α → Prop) (w : World) : Prop :=
  ∀ (l : Nat) (J Jx : List α → World → Prop) (W : World), Below w.heap.size w W → AbidesFrom W.heap.size J → AbidesFrom W.heap.size Jx →
    (∀ m pre x v W1, J pre W1 → V v x W1 → YieldAt Fence.wide m P l #[v] W1 fun e W' =>
      (e = .returned (.bool true) ∧ J (pre ++ [x]) W' ∧ KeepC W1 W') ∨ (e = .returned (.bool false) ∧ Jx (pre ++ [x]) W' ∧ KeepHi n₁ W1 W')) →
    J [] W →
    CallsIn Fence.wide 9 P gf (#[.func (.yield l) #[] #[]] ++ lb) W fun e W' => (∃ v, e = .returned v) ∧ ((∃ xs, S xs ∧ J xs W') ∨ (∃ pre, Sp pre ∧ Jx pre W'))
theorem wide_room (k : Nat) : Fence.wide.room k := fun d h => by cases h
theorem wide_any {m m' : Nat} {P : Program} {l : Nat} {args : Array Value} {W : World} {R : Ending → World → Prop} (h : YieldAt Fence.wide m P l args W R) : YieldAt Fence.wide m' P l args W R := by
  obtain ⟨fn, tmps, assign, body, hy, hR⟩ := h
  exact ⟨fn, tmps, assign, body, hy, ⟨hR.1, fun c cs _ => hR.2 c cs (wide_room _)⟩⟩
def combos : Nat → Nat → Int → List Int → List (List Int)
  | 0, _, _, b => [b]
  | _ + 1, 0, _, _ => []
  | d + 1, r + 1, f, b => combos d r (f + 1) (b ++ [f]) ++ combos (d + 1) r (f + 1) b
def VI (v : Value) (x : List Int) (W : World) : Prop := ∃ A c, v = .slice A x.length c ∧ x.length ≤ c ∧ Kd.C (Kd.int .i64) W A x.length x
theorem VI.keep {A B : World} {v : Value} {x : List Int} (h : VI v x A) (k : KeepC A B) : VI v x B := by
  obtain ⟨a, c, e, hc, hr⟩ := h
  exact ⟨a, c, e, hc, k.ints hr⟩
theorem Clip89 (A : Option Addr) (n c : Nat) (w : World) (h : n ≤ c) :
    Calls Try.prog 89 #[.slice A n c] w fun e w' => e = .returned (.slice A n n) ∧ w' = w := by
  obtain ⟨i3, hi3, hz3, hs3, hb3⟩ := info_parts info3
  have h1 : (n : Int) ≤ (c : Int) := by omega
  have h2 : (0 : Int) ≤ (n : Int) := by omega
  go_enter Try.func89, Try.ntmps89
  go_wp2
  go_ret
  exact ⟨rfl, rfl⟩
end Go.Proofs.Ytpfkfbbekfkcgaa.P
end
