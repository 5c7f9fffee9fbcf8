/- Words and contracts for a claim. -/
import Derived.Test.YthoeindopljmkaaBase12
import Derived.StillTail
section
namespace Go.Proofs.Ythoeindopljmkaa.P
open Go.RowKit Go.Shelf Go.Proofs.YthoeindopljmkaaW.PrintWords Go.Proofs.YthoeindopljmkaaW.PrintLast Go.Proofs.YthoeindopljmkaaW.PrintMore
set_option linter.unusedVariables false
set_option linter.unusedSimpArgs false
def noDefer (o : Oper) : Bool := match o.op with | .defer _ => false | _ => true
theorem noDefer_of {o : Oper} (h : noDefer o = true) : ∀ c, o.op ≠ .defer c := fun c e => by unfold noDefer at h; rw [e] at h; cases h
def Tame (Q : Exit → Act → World → Prop) : Exit → Act → World → Prop
  | .panic _, _, _ => False
  | .outgrown, _, _ => False
  | e, a, w => Q e a w
theorem Tame.normal {Q : Exit → Act → World → Prop} {a : Act} {w : World} (h : Q .normal a w) : Tame Q .normal a w := h
theorem not_lets (Q : Exit → Act → World → Prop) : ¬ LetsOut (Tame Q) := fun ⟨_, _, h⟩ => h
section
variable {P : Program} {ops : Array Oper} {Q : Exit → Act → World → Prop} {l n : Nat}
theorem opIn_of {o : Oper} (hd : noDefer o = true) {a : Act} {w : World} {K K' : Act → World → Prop} (hK : ∀ a w, K a w → K' a w)
    (h : o.wp P a w K (Tame Q)) : o.wpIn (Fence.wide.inRound l) n P a w K' Q := by
  refine ⟨fun _ _ => trivial, ?_⟩
  rw [show (Fence.wide.inRound l).round = some l from rfl, Oper.semAt_some l _ _ (noDefer_of hd)]
  unfold Oper.wp at h
  generalize (execOp a.eval o).run P w = r at *
  have wd : (Fence.wide.inRound l).depth.isSome = true → 1 ≤ n := fun e => by cases e
  cases r with
  | ok x w' =>
    cases x <;> simp only [Oper.uponIn, Oper.upon] at h ⊢ <;>
      first
        | exact hK _ _ h
        | exact ⟨wd, CallsIn.inRound l (callsIn_wide.2 (h.mono (fun e w'' he => by cases e <;> first | exact hK _ _ he | exact (he : False).elim | exact absurd he (not_lets Q))))⟩
        | exact ⟨wd, fun c cs _ => let ⟨v, w', r, s⟩ := h c cs; ⟨v, w', hK _ _ r, stepsIn_wide.2 s⟩⟩
        | exact ⟨wd, trivial, fun c cs _ => let ⟨e, w', r, s⟩ := h c cs; ⟨e, w', (by cases e <;> first | exact hK _ _ r | exact (r : False).elim | exact absurd r (not_lets Q)), comesIn_wide.2 s⟩⟩
        | exact (h : False).elim
  | halt x w' => cases x <;> simp only [Oper.uponIn, Oper.upon] at h ⊢ <;> first | exact (h : False).elim | exact h | trivial
theorem anyIn_of {md : Region.Mode} (hd : ops.toList.all noDefer = true) : ∀ (fuel : Nat) (listed : Array Bool) (a : Act) (w : World), wpAny P md ops (Tame Q) fuel listed a w → wpAnyIn (Fence.wide.inRound l) n P md ops Q fuel listed a w
  | 0, listed, a, w, h => ⟨h.1, h.2⟩
  | fuel + 1, listed, a, w, h => by
    refine ⟨fun e => h.1 e, fun i hi => ?_⟩
    have h := h.2 i hi
    unfold wpOp at h
    unfold wpOpIn
    split
    · rename_i e; simp only [e] at h; exact anyIn_of hd fuel _ _ _ h
    · rename_i o e
      simp only [e] at h
      have ho : noDefer o = true := List.all_eq_true.1 hd o (Array.mem_toList_iff.2 (Array.mem_of_getElem? e))
      split
      · rename_i c
        rw [if_pos c] at h
        rcases h with h | h
        · exact opIn_of ho (fun a w => anyIn_of hd fuel _ a w) h
        · exact absurd h.2 (not_lets Q)
      · rename_i c
        rw [if_neg c] at h
        exact ⟨fun _ _ => trivial, anyIn_of hd fuel _ _ _ h⟩
theorem drawnIn_of {id : Nat} {a : Act} {w : World} (hm : P.follows .mixedOrders = true) (hd : ops.toList.all noDefer = true)
    (h : wpAny P .any ops (Tame Q) ops.size (Array.replicate ops.size false) a { w with drawn := w.drawn + 1 }) : (Code.region id ops true).wpIn (Fence.wide.inRound l) n P Q a w :=
  wpIn_region_any hm (anyIn_of hd _ _ _ _ h)
theorem stillIn_of {id : Nat} {a : Act} {w : World} {os : List Oper} (k : Nat) (hm : P.follows .mixedOrders = true) (hd : os.toArray.toList.all noDefer = true) (hB : Region.lexTailB .any os.toArray k = true)
    (h : wpStill P os.toArray { w with drawn := w.drawn + 1 } (fun a' => wpList P os.toArray (Tame Q) (os.drop k) a' { w with drawn := w.drawn + 1 }) (os.take k) a) : (Code.region id os.toArray true).wpIn (Fence.wide.inRound l) n P Q a w := by
  simp only [Region.lexTailB, Bool.and_eq_true, decide_eq_true_eq] at hB
  obtain ⟨⟨⟨⟨hsel, hn⟩, hs⟩, hc⟩, hlex⟩ := hB
  have hn' : k < os.length := by simpa using hn
  have htl : (os.take k).length = k := by simp; omega
  have hdl : (os.drop k).length = os.toArray.size - k := by simp
  have inv0 : HeadInv .any os.toArray k (Array.replicate os.toArray.size false) :=
    ⟨by simp, fun j oj _ hl => (by rw [getD_replicate_false] at hl; cases hl), fun t _ ht => getD_in (by simpa using ht) (getD_replicate_false _ _)⟩
  have H := wpAnyL_lex (md := .any) (g := os.toArray.size - k) hsel hs hc hn (os.take k) 0 _ a (fun j hj => by
    have hj' : j < k := by rw [htl] at hj; exact hj
    simp [hj']) (by simpa using htl) inv0 (by rw [htl]; exact hlex) h
  refine drawnIn_of hm hd ?_
  have := wpAny_of_head (Q' := Tame Q) (g := os.toArray.size - k) (fun listed a' hL => by
    have := wpAny_of_seq (md := .any) (Q' := Tame Q) (os.drop k) k listed a' { w with drawn := w.drawn + 1 } (fun j => by simp [List.getElem?_drop]) (by rw [hdl]; exact hL.1) hL.2
    rwa [hdl] at this) _ _ _ H
  rw [htl, show k + (os.toArray.size - k) = os.toArray.size by omega] at this
  exact this
end
end Go.Proofs.Ythoeindopljmkaa.P
end
