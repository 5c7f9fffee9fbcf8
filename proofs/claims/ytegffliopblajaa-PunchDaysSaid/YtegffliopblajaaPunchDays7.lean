/- Words and contracts for a claim. -/
import Derived.Test.YtegffliopblajaaPunchDays6

section
namespace Go.Proofs.Ytegffliopblajaa.P
open Go.RowKit Go.Proofs.YtegffliopblajaaW.PrintWords Go.Proofs.YtegffliopblajaaW.PrintLast Go.Proofs.YtegffliopblajaaW.PrintMore
set_option linter.unusedVariables false
set_option linter.unusedSimpArgs false
def c52 (x : S47) : S52 := ⟨x.f0, x.f1⟩
theorem w_succ (i : Nat) (h : i ≤ 1000000000) : wrap64 ((i : Int) + 1) = ((i + 1 : Nat) : Int) := by unfold wrap64; omega
end Go.Proofs.Ytegffliopblajaa.P
end
section
namespace Go.Proofs.Ytegffliopblajaa.P
open Go.RowKit Go.Proofs.YtegffliopblajaaW.PrintWords Go.Proofs.YtegffliopblajaaW.PrintLast Go.Proofs.YtegffliopblajaaW.PrintMore
set_option linter.unusedVariables false
set_option linter.unusedSimpArgs false
theorem loop_ev {α : Type} {F : Nat → Int → Option α} {G : Nat → Option α} {bad : Nat → Bool} {n : Nat} {e r : α}
    (hs : ∀ k i, i < n → F (k + 1) (i : Nat) = if bad i = true then some e else F k ((i + 1 : Nat) : Int)) (hf : ∀ k, F (k + 1) (n : Nat) = G k) (hG : Ev G r) :
    ∀ (m i : Nat), i + m = n → Ev (fun k => F k (i : Nat)) (if (List.range' i m).any bad = true then e else r)
  | 0, i, h => by
    obtain rfl : i = n := by omega
    exact Ev.step hf hG
  | m + 1, i, h => by
    rw [List.range'_succ, List.any_cons]
    cases c : bad i with
    | true =>
      rw [Bool.true_or, if_pos rfl]
      exact Ev.step (f := fun _ => some e) (fun k => (hs k i (by omega)).trans (by rw [if_pos c])) (Ev.now _)
    | false =>
      rw [Bool.false_or]
      exact Ev.step (fun k => (hs k i (by omega)).trans (by rw [if_neg (by rw [c]; decide)])) (loop_ev hs hf hG m (i + 1) (by omega))
def badRule (a b c d e : Int) (l : List S47) (i : Nat) : Bool :=
  decide (wrap64 (wrap64 ((rd_T47 l (i : Nat)).f1 - (rd_T47 l (i : Nat)).f0) * b) > wrap64 (1000 * c)) ||
    (decide (0 < i) && (decide (wrap64 (wrap64 ((rd_T47 l (i : Nat)).f0 - (rd_T47 l (i - 1 : Nat)).f1) * a) < wrap64 (1000 * d)) || decide (wrap64 (wrap64 ((rd_T47 l (i : Nat)).f0 - (rd_T47 l (i - 1 : Nat)).f1) * b) ≥ wrap64 (1000 * e))))
def badGap (l : List S47) (i : Nat) : Bool := decide ((rd_T47 l (i + 1 : Nat)).f0 ≤ (rd_T47 l (i : Nat)).f1)
def holdsR (a b c d e x y : Int) (l : List S47) : Int :=
  if paperOk a b c d e = true ∧ good ⟨x, y⟩ = true then (if l.length > 200 then 5 else if l.length = 0 then 6 else
    if (List.range' 0 l.length).any (fun i => !good (rd_T47 l (i : Nat))) = true then 6 else
    if (rd_T47 l 0).f0 = x ∧ (rd_T47 l (l.length - 1 : Nat)).f1 = y then (if (List.range' 0 (l.length - 1)).any (badGap l) = true then 13 else if (List.range' 0 l.length).any (badRule a b c d e l) = true then 21 else 0) else 13) else 3
theorem w_pred (n : Nat) (h : 0 < n) (h2 : n ≤ 1000000) : wrap64 ((n : Int) - 1) = ((n - 1 : Nat) : Int) := by unfold wrap64; omega
theorem drop1_at (l : List S47) (i : Nat) : rd_T47 (l.drop 1) (i : Nat) = rd_T47 l (i + 1 : Nat) := by
  unfold rd_T47
  rw [List.getD_eq_getElem?_getD, List.getD_eq_getElem?_getD, List.getElem?_drop, Int.toNat_natCast, Int.toNat_natCast, Nat.add_comm]
theorem good_f' (x : S47) : punch_Slot_good.f x.f0 x.f1 = some (good x) := good_f x
theorem pholds_l2 (a b c d e : Int) (l : List S47) (hl : l.length ≤ 200) : Ev (fun k => punch_Holds.l2 k l l l.length 0 a b c d e) (if (List.range' 0 l.length).any (badRule a b c d e l) = true then 21 else 0) := by
  refine loop_ev (F := fun k i => punch_Holds.l2 k l l l.length i a b c d e) (n := l.length) (G := fun _ => some 0) (fun k i hi => ?_) (fun k => ?_) (Ev.now _) l.length 0 (by omega)
  · show punch_Holds.l2 (k + 1) l l l.length i a b c d e = _
    rw [punch_Holds.l2, if_pos (by omega), if_pos (by omega), if_pos (by omega), w_succ i (by omega)]
    unfold badRule
    by_cases h1 : wrap64 (wrap64 ((rd_T47 l (i : Nat)).f1 - (rd_T47 l (i : Nat)).f0) * b) > wrap64 (1000 * c)
    · rw [if_pos h1, decide_eq_true h1, Bool.true_or, if_pos rfl]
    · rw [if_neg h1, decide_eq_false h1, Bool.false_or]
      by_cases h2 : i = 0
      · rw [if_pos (by omega), decide_eq_false (show ¬ 0 < i by omega), Bool.false_and, if_neg (by decide)]
      · rw [if_neg (by omega), w_pred i (by omega) (by omega), if_pos (by omega), if_pos (by omega), decide_eq_true (show 0 < i by omega), Bool.true_and]
        by_cases h3 : wrap64 (wrap64 ((rd_T47 l (i : Nat)).f0 - (rd_T47 l (i - 1 : Nat)).f1) * a) < wrap64 (1000 * d)
        · rw [if_pos h3, decide_eq_true h3, Bool.true_or, if_pos rfl]
        · rw [if_neg h3, decide_eq_false h3, Bool.false_or]
          by_cases h4 : wrap64 (wrap64 ((rd_T47 l (i : Nat)).f0 - (rd_T47 l (i - 1 : Nat)).f1) * b) ≥ wrap64 (1000 * e)
          · rw [if_pos h4, decide_eq_true h4, if_pos rfl]
          · rw [if_neg h4, decide_eq_false h4, if_neg (by decide)]
  · show punch_Holds.l2 (k + 1) l l l.length l.length a b c d e = _
    rw [punch_Holds.l2, if_neg (by omega)]
theorem pholds_l1 (a b c d e : Int) (l : List S47) (hl : l.length ≤ 200) (h0 : 0 < l.length) : Ev (fun k => punch_Holds.l1 k l (l.drop 1) (l.drop 1).length 0 a b c d e) (if (List.range' 0 (l.length - 1)).any (badGap l) = true then 13 else if (List.range' 0 l.length).any (badRule a b c d e l) = true then 21 else 0) := by
  have hd : (l.drop 1).length = l.length - 1 := by rw [List.length_drop]
  refine loop_ev (F := fun k i => punch_Holds.l1 k l (l.drop 1) (l.drop 1).length i a b c d e) (n := l.length - 1) (G := fun k => punch_Holds.l2 k l l l.length 0 a b c d e) (fun k i hi => ?_) (fun k => ?_) (pholds_l2 a b c d e l hl) (l.length - 1) 0 (by omega)
  · show punch_Holds.l1 (k + 1) l (l.drop 1) (l.drop 1).length i a b c d e = _
    rw [punch_Holds.l1, if_pos (by omega), if_pos (by omega), if_pos (by omega), if_pos (by omega), w_succ i (by omega), drop1_at]
    unfold badGap
    by_cases h1 : (rd_T47 l (i + 1 : Nat)).f0 ≤ (rd_T47 l (i : Nat)).f1
    · rw [if_pos h1, decide_eq_true h1, if_pos rfl]
    · rw [if_neg h1, decide_eq_false h1, if_neg (by decide)]
  · show punch_Holds.l1 (k + 1) l (l.drop 1) (l.drop 1).length (l.length - 1 : Nat) a b c d e = _
    rw [punch_Holds.l1, if_neg (by omega)]
theorem pholds_l0 (a b c d e x y : Int) (l : List S47) (hl : l.length ≤ 200) (h0 : 0 < l.length) : Ev (fun k => punch_Holds.l0 k l l l.length 0 a b c d e x y) (if (List.range' 0 l.length).any (fun i => !good (rd_T47 l (i : Nat))) = true then 6 else
    if (rd_T47 l 0).f0 = x ∧ (rd_T47 l (l.length - 1 : Nat)).f1 = y then (if (List.range' 0 (l.length - 1)).any (badGap l) = true then 13 else if (List.range' 0 l.length).any (badRule a b c d e l) = true then 21 else 0) else 13) := by
  refine loop_ev (F := fun k i => punch_Holds.l0 k l l l.length i a b c d e x y) (n := l.length) (G := fun k => punch_Holds.j2 k l (!(decide ((rd_T47 l 0).f0 = x ∧ (rd_T47 l (l.length - 1 : Nat)).f1 = y))) a b c d e) (fun k i hi => ?_) (fun k => ?_) ?_ l.length 0 (by omega)
  · show punch_Holds.l0 (k + 1) l l l.length i a b c d e x y = _
    rw [punch_Holds.l0, if_pos (by omega), if_pos (by omega), if_pos (by omega), good_f', w_succ i (by omega)]
    show (if good (rd_T47 l (i : Nat)) = true then _ else _) = _
    cases good (rd_T47 l (i : Nat)) <;> rfl
  · show punch_Holds.l0 (k + 1) l l l.length l.length a b c d e x y = _
    rw [punch_Holds.l0, if_neg (by omega), if_pos (by omega)]
    by_cases c1 : (rd_T47 l 0).f0 = x
    · rw [if_pos c1, w_pred _ h0 (by omega), if_pos (by omega), if_pos (by omega)]
      congr 1
      by_cases c2 : (rd_T47 l (l.length - 1 : Nat)).f1 = y
      · rw [decide_eq_true ⟨c1, c2⟩]
        simpa using c2
      · rw [decide_eq_false (fun h => c2 h.2)]
        simpa using c2
    · rw [if_neg c1, decide_eq_false (fun h => c1 h.1)]
      rfl
  · by_cases c1 : (rd_T47 l 0).f0 = x ∧ (rd_T47 l (l.length - 1 : Nat)).f1 = y
    · rw [if_pos c1, decide_eq_true c1]
      refine Ev.step (fun k => ?_) (pholds_l1 a b c d e l hl h0)
      rw [punch_Holds.j2, if_neg (by decide), if_pos (by omega)]
      rfl
    · rw [if_neg c1, decide_eq_false c1]
      refine Ev.step (f := fun _ => some 13) (fun k => ?_) (Ev.now _)
      rw [punch_Holds.j2, if_pos (by decide)]
theorem Holds_f (a b c d e x y : Int) (l : List S47) (hl : l.length ≤ 1000000) : Ev (fun k => punch_Holds.f k a b c d e x y l) (holdsR a b c d e x y l) := by
  unfold punch_Holds.f holdsR
  simp only [paperOk_f, Option.bind_some]
  have bad : ∀ k, punch_Holds.j0 (k + 1) l true a b c d e x y = some 3 := fun k => by rw [punch_Holds.j0, if_pos rfl]
  by_cases c1 : paperOk a b c d e = true
  · simp only [if_pos c1, show punch_Slot_good.f x y = some (good ⟨x, y⟩) from good_f ⟨x, y⟩, Option.bind_some]
    cases c2 : good ⟨x, y⟩ with
    | true =>
      rw [if_pos ⟨c1, rfl⟩]
      simp only [Bool.not_true]
      have e1 : ∀ k, punch_Holds.j0 (k + 1) l false a b c d e x y = if l.length > 200 then some 5 else if l.length = 0 then some 6 else punch_Holds.l0 k l l l.length 0 a b c d e x y := fun k => by
        rw [punch_Holds.j0, if_neg (by decide)]
        by_cases c3 : l.length > 200
        · rw [if_pos (by omega), if_pos c3]
        · rw [if_neg (by omega), if_neg c3]
          by_cases c4 : l.length = 0
          · rw [if_pos (by omega), if_pos c4]
          · rw [if_neg (by omega), if_neg c4]
      refine Ev.step e1 ?_
      by_cases c3 : l.length > 200
      · simp only [if_pos c3]; exact Ev.now _
      · simp only [if_neg c3]
        by_cases c4 : l.length = 0
        · simp only [if_pos c4]; exact Ev.now _
        · simp only [if_neg c4]
          exact pholds_l0 a b c d e x y l (by omega) (by omega)
    | false =>
      rw [if_neg (fun h => by cases h.2)]
      exact Ev.step (f := fun _ => some 3) bad (Ev.now _)
  · simp only [if_neg c1]
    rw [if_neg (fun h => c1 h.1)]
    exact Ev.step (f := fun _ => some 3) bad (Ev.now _)
end Go.Proofs.Ytegffliopblajaa.P
end
section
namespace Go.Proofs.Ytegffliopblajaa.P
open Go.RowKit Go.Proofs.YtegffliopblajaaW.PrintWords Go.Proofs.YtegffliopblajaaW.PrintLast Go.Proofs.YtegffliopblajaaW.PrintMore
set_option linter.unusedVariables false
set_option linter.unusedSimpArgs false
def barsR (a b c d e : Int) : Int × Int × Int × Int × Int := if paperOk a b c d e = true then (if barHi b c < 1 then (0, 0, 0, 0, 20) else if barLo a d > barTo b e then (1, barHi b c, 0, 0, 0) else (1, barHi b c, barLo a d, barTo b e, 0)) else (0, 0, 0, 0, 3)
theorem Bars_f (a b c d e : Int) : punch_Bars.f a b c d e = some (barsR a b c d e) := by
  unfold punch_Bars.f barsR
  by_cases h1 : paperOk a b c d e = true
  · rw [if_pos h1, if_pos h1]
    by_cases h2 : barHi b c < 1
    · rw [if_pos h2, if_pos h2]
    · rw [if_neg h2, if_neg h2]
      by_cases h3 : barLo a d > barTo b e
      · rw [if_pos h3, if_pos h3]
      · rw [if_neg h3, if_neg h3]
  · rw [if_neg h1, if_neg h1]
theorem bar_bounds {a b c d e : Int} (h : paperOk a b c d e = true) : 0 ≤ barHi b c ∧ barHi b c ≤ 1200 ∧ 1 ≤ barLo a d ∧ 0 ≤ barTo b e ∧ barTo b e ≤ 1200 := by
  have hp := paperOk_iff.1 h
  unfold barHi barLo barTo
  refine ⟨Int.ediv_nonneg (by omega) (by omega), ?_, ?_, Int.ediv_nonneg (by omega) (by omega), ?_⟩
  · have : 1000 * c / b < 1201 := Int.ediv_lt_of_lt_mul (by omega) (by omega)
    omega
  · exact Int.le_ediv_of_mul_le (by omega) (by omega)
  · have : (1000 * e - 1) / b < 1201 := Int.ediv_lt_of_lt_mul (by omega) (by omega)
    omega
theorem lo_iff {a d : Int} (ha : 0 < a) {n : Int} : n * a ≥ 1000 * d ↔ barLo a d ≤ n := by
  unfold barLo
  rw [← Int.lt_add_one_iff, Int.ediv_lt_iff_lt_mul ha, Int.add_mul, Int.one_mul]
  omega
theorem to_iff {b e : Int} (hb : 0 < b) {n : Int} : n * b < 1000 * e ↔ n ≤ barTo b e := by
  unfold barTo
  rw [Int.le_ediv_iff_mul_le hb]
  omega
def s1 (H : Int) (i : Nat) : Int := if 1 ≤ min (i : Int) H then 1 else 0
def s3 (L T : Int) (i : Nat) : Int := if L ≤ min (i : Int) T then L else 0
def s4 (L T : Int) (i : Nat) : Int := if L ≤ min (i : Int) T then min (i : Int) T else 0
theorem barsR_ok {a b c d e : Int} (h : (barsR a b c d e).2.2.2.2 = 0) : (barsR a b c d e).1 = 1 ∧ 1 ≤ (barsR a b c d e).2.1 ∧ (barsR a b c d e).2.1 ≤ 1200 ∧ 0 ≤ (barsR a b c d e).2.2.1 ∧ (barsR a b c d e).2.2.1 ≤ (barsR a b c d e).2.2.2.1 ∧ (barsR a b c d e).2.2.2.1 ≤ 1200 := by
  unfold barsR at h ⊢
  split at h
  · rename_i c1
    obtain ⟨h1, h2, h3, h4, h5⟩ := bar_bounds c1
    rw [if_pos c1]
    split at h
    · cases h
    · rename_i c2
      rw [if_neg c2]
      split at h
      · rename_i c3
        rw [if_pos c3]
        refine ⟨rfl, ?_, ?_, ?_, ?_, ?_⟩ <;> dsimp only <;> omega
      · rename_i c3
        rw [if_neg c3]
        refine ⟨rfl, ?_, ?_, ?_, ?_, ?_⟩ <;> dsimp only <;> omega
  · cases h
end Go.Proofs.Ytegffliopblajaa.P
end
section
namespace Go.Proofs.Ytegffliopblajaa.P
open Go.RowKit Go.Proofs.YtegffliopblajaaW.PrintWords Go.Proofs.YtegffliopblajaaW.PrintLast Go.Proofs.YtegffliopblajaaW.PrintMore
set_option linter.unusedVariables false
set_option linter.unusedSimpArgs false
def hF (H L tq : Int) (n : Nat) (p : Int) : Int := min H (tq - p - (n + n * L))
def wF (L T tq : Int) (n : Nat) (p : Int) : Int := min T (tq - p - ((n + 1 : Nat) : Int) - n * L)
def cutF (H L T tq : Int) : Nat → Int → List S47
  | 0, p => [⟨p, p + hF H L tq 0 p⟩]
  | n + 1, p => ⟨p, p + hF H L tq (n + 1) p⟩ :: cutF H L T tq n (p + hF H L tq (n + 1) p + wF L T tq n (p + hF H L tq (n + 1) p))
structure Bd (H L T tq : Int) : Prop where
  h1 : 1 ≤ H
  h2 : H ≤ 1200
  l0 : 0 ≤ L
  lt : L ≤ T
  t2 : T ≤ 1200
  to2 : tq ≤ 1000000
structure Inv (H L T tq : Int) (n : Nat) (p : Int) : Prop where
  lo : (n : Int) + 1 + n * L ≤ tq - p
  hi : tq - p ≤ n * H + H + n * T
  p0 : 0 ≤ p
  n2 : n ≤ 200
theorem w_id {x : Int} (h0 : -4000000000000000000 ≤ x) (h1 : x ≤ 4000000000000000000) : wrap64 x = x := by unfold wrap64; omega
theorem mul_b {n : Nat} {z : Int} (hn : n ≤ 201) (h0 : 0 ≤ z) (h1 : z ≤ 1200) : 0 ≤ (n : Int) * z ∧ (n : Int) * z ≤ 241200 := by
  have a : 0 ≤ (n : Int) * z := Int.mul_nonneg (by omega) h0
  have b : (n : Int) * z ≤ 201 * 1200 := Int.mul_le_mul (by omega) h1 h0 (by omega)
  omega
theorem mul_s (n : Nat) (z : Int) : ((n + 1 : Nat) : Int) * z = n * z + z := by rw [show ((n + 1 : Nat) : Int) = (n : Int) + 1 by omega, Int.add_mul, Int.one_mul]
theorem mul_m {n : Nat} {y z : Int} (h : y ≤ z) : (n : Int) * y ≤ n * z := Int.mul_le_mul_of_nonneg_left h (by omega)
theorem mul_1 {n : Nat} {z : Int} (h : 1 ≤ z) : (n : Int) ≤ n * z := by
  have := mul_m (n := n) h
  omega
theorem h_bd {H L T tq : Int} (b : Bd H L T tq) {n : Nat} {p : Int} (i : Inv H L T tq n p) : 1 ≤ hF H L tq n p ∧ hF H L tq n p ≤ H ∧ hF H L tq n p ≤ tq - p := by
  obtain ⟨h1, h2, h3, h4, h5, h6⟩ := b
  obtain ⟨i1, i2, i3, i4⟩ := i
  have a1 := mul_b (n := n) (z := L) (by omega) h3 (by omega)
  unfold hF
  omega
theorem w_bd {H L T tq : Int} (b : Bd H L T tq) {n : Nat} {p : Int} (i : Inv H L T tq (n + 1) p) : L ≤ wF L T tq n (p + hF H L tq (n + 1) p) ∧ wF L T tq n (p + hF H L tq (n + 1) p) ≤ T ∧ wF L T tq n (p + hF H L tq (n + 1) p) ≤ tq - p ∧ Inv H L T tq n (p + hF H L tq (n + 1) p + wF L T tq n (p + hF H L tq (n + 1) p)) := by
  have hb := h_bd b i
  obtain ⟨h1, h2, h3, h4, h5, h6⟩ := b
  obtain ⟨i1, i2, i3, i4⟩ := i
  have a1 := mul_b (n := n) (z := L) (by omega) h3 (by omega)
  have a2 := mul_s n L
  have a3 := mul_s n T
  have a4 := mul_s n H
  have a5 := mul_m (n := n) h4
  have a6 := mul_1 (n := n) h1
  have a7 := mul_b (n := n) (z := T) (by omega) (by omega) h5
  rw [a2] at i1
  rw [a3, a4] at i2
  have e1 : hF H L tq (n + 1) p = min H (tq - p - (((n + 1 : Nat) : Int) + ((n : Int) * L + L))) := by unfold hF; rw [a2]
  obtain ⟨h, hh⟩ : ∃ h, h = hF H L tq (n + 1) p := ⟨_, rfl⟩
  rw [← hh] at hb e1 ⊢
  have e2 : wF L T tq n (p + h) = min T (tq - (p + h) - ((n + 1 : Nat) : Int) - n * L) := rfl
  obtain ⟨w, hw⟩ : ∃ w, w = wF L T tq n (p + h) := ⟨_, rfl⟩
  rw [← hw] at e2 ⊢
  clear hh hw
  refine ⟨by omega, by omega, by omega, ?_, ?_, by omega, by omega⟩
  · omega
  · omega
theorem least_f (a v : Int) : Ev (fun k => punch_least.f k a [v]) (min a v) := by
  refine ⟨2, fun k hk => ?_⟩
  obtain ⟨k, rfl⟩ : ∃ q, k = q + 2 := ⟨k - 2, by omega⟩
  show punch_least.l0 (k + 1 + 1) a [v] 1 0 = _
  rw [punch_least.l0, if_pos (by simp), if_pos (by omega), if_pos (by simp), show wrap64 ((0 : Int) + 1) = 1 by unfold wrap64; omega, punch_least.l0, if_neg (by simp)]
  congr 1
  show mn a v = _
  unfold mn
  omega
theorem pbridge_l0 {H L T fr tq : Int} (b : Bd H L T tq) : ∀ (n : Nat) (p : Int) (out : List S47), Inv H L T tq n p → out.length + n ≤ 1000 → Ev (fun k => punch_Bridge.l0 k out p n fr tq 1 H L T) (out ++ cutF H L T tq n p, 0)
 | 0, p, out, i, ho => by
  have hb := h_bd b i
  obtain ⟨i1, i2, i3, i4⟩ := i
  have b2 := b.h2
  have b6 := b.to2
  refine Ev.step (f := fun k => (punch_least.f k H [tq - p]).bind fun t => (if out.length < 8796093022208 then ((some (out ++ [(⟨p, wrap64 (p + t)⟩ : S47)] : List (S47))).bind fun y275 => punch_Bridge.l0 k y275 (wrap64 (p + t)) (-1) fr tq 1 H L T) else none)) (fun k => ?_) ?_
  ·
   rw [punch_Bridge.l0, if_pos (by omega), show wrap64 (wrap64 (tq - p) - wrap64 (((0 : Nat) : Int) * wrap64 (1 + L))) = tq - p by rw [show ((0 : Nat) : Int) * wrap64 (1 + L) = 0 by simp]; unfold wrap64; omega]
   congr 1
   funext t
   simp only [if_neg (show ¬ ((0 : Nat) : Int) > 0 by omega), show wrap64 (((0 : Nat) : Int) - 1) = -1 by unfold wrap64; omega]
  ·
   refine Ev.bind (least_f H (tq - p)) ?_
   have e : min H (tq - p) = hF H L tq 0 p := by unfold hF; simp
   rw [e]
   simp only [if_pos (show out.length < 8796093022208 by omega), Option.bind_some, show wrap64 (p + hF H L tq 0 p) = p + hF H L tq 0 p by unfold wrap64; omega]
   refine Ev.step (f := fun _ => some (out ++ cutF H L T tq 0 p, 0)) (fun k => ?_) (Ev.now _)
   rw [punch_Bridge.l0, if_neg (by omega)]
   rfl
 | n + 1, p, out, i, ho => by
  have hb := h_bd b i
  obtain ⟨w1, w2, w3, i'⟩ := w_bd b i
  have a1 := mul_b (n := n + 1) (z := L) (by have := i.n2; omega) b.l0 (by have := b.lt; have := b.t2; omega)
  have a2 := mul_b (n := n) (z := L) (by have := i.n2; omega) b.l0 (by have := b.lt; have := b.t2; omega)
  have ih := pbridge_l0 (fr := fr) b n _ (out ++ [⟨p, p + hF H L tq (n + 1) p⟩]) i' (by rw [List.length_append]; simp; omega)
  obtain ⟨i1, i2, i3, i4⟩ := i
  have b1 := b.h1
  have b2 := b.h2
  have b3 := b.l0
  have b4 := b.lt
  have b5 := b.t2
  have b6 := b.to2
  have m1 : ((n + 1 : Nat) : Int) * (1 + L) = ((n + 1 : Nat) : Int) + ((n + 1 : Nat) : Int) * L := by rw [Int.mul_add, Int.mul_one]
  refine Ev.step (f := fun k => (punch_least.f k H [tq - p - (((n + 1 : Nat) : Int) + ((n + 1 : Nat) : Int) * L)]).bind fun t => (if out.length < 8796093022208 then ((some (out ++ [(⟨p, wrap64 (p + t)⟩ : S47)] : List (S47))).bind fun y275 => (punch_least.f k T [wrap64 (wrap64 (wrap64 (tq - wrap64 (p + t)) - wrap64 (((n + 1 : Nat) : Int) * 1)) - wrap64 ((n : Int) * L))]).bind fun t281 => punch_Bridge.l0 k y275 (wrap64 (wrap64 (p + t) + t281)) n fr tq 1 H L T) else none)) (fun k => ?_) ?_
  ·
   rw [punch_Bridge.l0, if_pos (by omega), show wrap64 (1 + L) = 1 + L by unfold wrap64; omega, m1, show wrap64 (wrap64 (tq - p) - wrap64 (((n + 1 : Nat) : Int) + ((n + 1 : Nat) : Int) * L)) = tq - p - (((n + 1 : Nat) : Int) + ((n + 1 : Nat) : Int) * L) by unfold wrap64; omega]
   congr 1
   funext t
   simp only [if_pos (show ((n + 1 : Nat) : Int) > 0 by omega), show wrap64 (((n + 1 : Nat) : Int) - 1) = n by unfold wrap64; omega]
  ·
   refine Ev.bind (least_f H _) ?_
   have e : min H (tq - p - (((n + 1 : Nat) : Int) + ((n + 1 : Nat) : Int) * L)) = hF H L tq (n + 1) p := rfl
   rw [e]
   have ew : wrap64 (wrap64 (wrap64 (tq - (p + hF H L tq (n + 1) p)) - wrap64 (((n + 1 : Nat) : Int) * 1)) - wrap64 ((n : Int) * L)) = tq - (p + hF H L tq (n + 1) p) - ((n + 1 : Nat) : Int) - (n : Int) * L := by
    rw [Int.mul_one]
    unfold wrap64; omega
   simp only [if_pos (show out.length < 8796093022208 by omega), Option.bind_some, show wrap64 (p + hF H L tq (n + 1) p) = p + hF H L tq (n + 1) p by unfold wrap64; omega, ew]
   refine Ev.bind (least_f T _) ?_
   have e2 : min T (tq - (p + hF H L tq (n + 1) p) - ((n + 1 : Nat) : Int) - (n : Int) * L) = wF L T tq n (p + hF H L tq (n + 1) p) := rfl
   rw [e2]
   simp only [show wrap64 (p + hF H L tq (n + 1) p + wF L T tq n (p + hF H L tq (n + 1) p)) = p + hF H L tq (n + 1) p + wF L T tq n (p + hF H L tq (n + 1) p) by unfold wrap64; omega]
   have e3 : out ++ cutF H L T tq (n + 1) p = out ++ [⟨p, p + hF H L tq (n + 1) p⟩] ++ cutF H L T tq n (p + hF H L tq (n + 1) p + wF L T tq n (p + hF H L tq (n + 1) p)) := by rw [cutF, List.append_assoc]; rfl
   rw [e3]
   exact ih
end Go.Proofs.Ytegffliopblajaa.P
end
section
namespace Go.Proofs.Ytegffliopblajaa.P
open Go.RowKit Go.Proofs.YtegffliopblajaaW.PrintWords Go.Proofs.YtegffliopblajaaW.PrintLast Go.Proofs.YtegffliopblajaaW.PrintMore
set_option linter.unusedVariables false
set_option linter.unusedSimpArgs false
def jJ (H T len : Int) : Nat := if len > H then ((len + T - 1) / (H + T)).toNat else 0
theorem jJ_up {H T len : Int} (h1 : 1 ≤ H) (h2 : 0 ≤ T) (h3 : 1 ≤ len) : len ≤ (jJ H T len : Int) * H + H + jJ H T len * T := by
  unfold jJ
  split
  · have q0 : 0 ≤ (len + T - 1) / (H + T) := Int.ediv_nonneg (by omega) (by omega)
    have := Int.lt_ediv_add_one_mul_self (len + T - 1) (show 0 < H + T by omega)
    rw [Int.toNat_of_nonneg q0]
    rw [Int.add_mul, Int.one_mul, Int.mul_add] at this
    omega
  · omega
theorem jJ_le {H T len : Int} (h1 : 1 ≤ H) (h2 : 0 ≤ T) (h4 : T ≤ 1200) (h3 : 1 ≤ len) (h5 : len ≤ 10000) : jJ H T len ≤ 11200 := by
  unfold jJ
  split
  · have : (len + T - 1) / (H + T) ≤ len + T - 1 := Int.ediv_le_self _ (by omega)
    omega
  · omega
def bridgeD (H L T x y : Int) : List S47 × Int :=
  if jJ H T (y - x) > 199 ∨ (jJ H T (y - x) > 0 ∧ T = 0) ∨ y - x < (jJ H T (y - x) : Int) + 1 + jJ H T (y - x) * L then ([], 20) else (cutF H L T y (jJ H T (y - x)) x, 0)
theorem bridge_inv {H L T x y : Int} (b : Bd H L T y) (hx : 0 ≤ x) (hl : 1 ≤ y - x) (hc : ¬ (jJ H T (y - x) > 199 ∨ (jJ H T (y - x) > 0 ∧ T = 0) ∨ y - x < (jJ H T (y - x) : Int) + 1 + jJ H T (y - x) * L)) : Inv H L T y (jJ H T (y - x)) x := by
  have := jJ_up (T := T) b.h1 (by have := b.l0; have := b.lt; omega) hl
  refine ⟨by omega, this, hx, by omega⟩
theorem pbridge_j {H L T x y : Int} (b : Bd H L T y) (hx : 0 ≤ x) (hl : 1 ≤ y - x) (hl2 : y - x ≤ 10000) : Ev (fun k => punch_Bridge.j0 k (y - x) ((jJ H T (y - x) : Int) + 1) x y 1 H L T) (bridgeD H L T x y) := by
  have b0 := b.l0
  have b1 := b.lt
  have b2 := b.t2
  have hj := jJ_le (H := H) (T := T) b.h1 (by omega) b2 hl hl2
  have a1 : 0 ≤ (jJ H T (y - x) : Int) * L := Int.mul_nonneg (by omega) b0
  have a2 : (jJ H T (y - x) : Int) * L ≤ 11200 * 1200 := Int.mul_le_mul (by omega) (by omega) b0 (by omega)
  have inv := fun hc => bridge_inv b hx hl hc
  obtain ⟨J, hJ⟩ : ∃ J, J = jJ H T (y - x) := ⟨_, rfl⟩
  have eD : bridgeD H L T x y = if J > 199 ∨ (J > 0 ∧ T = 0) ∨ y - x < (J : Int) + 1 + J * L then ([], 20) else (cutF H L T y J x, 0) := by rw [hJ]; rfl
  rw [eD]
  rw [← hJ] at hj a1 a2 inv ⊢
  have e1 : ∀ k, punch_Bridge.j1 (k + 1) ((J : Int) + 1) true x y 1 H L T = some ([], 20) := fun k => by rw [punch_Bridge.j1, if_pos rfl]
  have e2 : wrap64 (((J : Int) + 1) + wrap64 (wrap64 (((J : Int) + 1) - 1) * L)) = (J : Int) + 1 + J * L := by
    rw [w_id (x := (J : Int) + 1 - 1) (by omega) (by omega), show (J : Int) + 1 - 1 = J by omega, w_id (x := (J : Int) * L) (by omega) (by omega), w_id (by omega) (by omega)]
  have e3 : ∀ k, punch_Bridge.j0 (k + 1) (y - x) ((J : Int) + 1) x y 1 H L T = if J > 199 ∨ (J > 0 ∧ T = 0) then punch_Bridge.j1 k ((J : Int) + 1) true x y 1 H L T else punch_Bridge.j1 k ((J : Int) + 1) (decide (y - x < (J : Int) + 1 + J * L)) x y 1 H L T := fun k => by
    rw [punch_Bridge.j0, e2]
    by_cases c1 : J > 199
    · rw [if_pos (by omega), if_pos (.inl c1)]
    · rw [if_neg (by omega)]
      by_cases c2 : J > 0
      · rw [if_pos (by omega)]
        by_cases c3 : T = 0
        · rw [if_pos c3, if_pos (.inr ⟨c2, c3⟩)]
        · rw [if_neg c3, if_neg (by rintro (h | h); omega; exact c3 h.2)]
      · rw [if_neg (by omega), if_neg (by rintro (h | h); omega; omega)]
  refine Ev.step e3 ?_
  by_cases c : J > 199 ∨ (J > 0 ∧ T = 0)
  · simp only [if_pos c]
    rw [if_pos (by rcases c with c | c; exact .inl c; exact .inr (.inl c))]
    exact Ev.step (f := fun _ => some ([], 20)) e1 (Ev.now _)
  · simp only [if_neg c]
    by_cases c2 : y - x < (J : Int) + 1 + J * L
    · rw [if_pos (.inr (.inr c2))]
      simp only [decide_eq_true c2]
      exact Ev.step (f := fun _ => some ([], 20)) e1 (Ev.now _)
    · have hc : ¬ (J > 199 ∨ (J > 0 ∧ T = 0) ∨ y - x < (J : Int) + 1 + J * L) := by
        rintro (h | h | h)
        · exact c (.inl h)
        · exact c (.inr h)
        · exact c2 h
      rw [if_neg hc]
      simp only [decide_eq_false c2]
      refine Ev.step (f := fun k => punch_Bridge.l0 k [] x J x y 1 H L T) (fun k => ?_) ?_
      · rw [punch_Bridge.j1, if_neg (by decide), w_id (x := (J : Int) + 1 - 1) (by omega) (by omega), show (J : Int) + 1 - 1 = J by omega]
      · have := pbridge_l0 (fr := x) b J x [] (inv hc) (by simp; omega)
        simpa using this
def bridgeR (a b c d e x y : Int) : List S47 × Int := if (barsR a b c d e).2.2.2.2 = 0 then (if good ⟨x, y⟩ = true ∧ y - x ≤ 10000 then bridgeD (barsR a b c d e).2.1 (barsR a b c d e).2.2.1 (barsR a b c d e).2.2.2.1 x y else ([], 3)) else ([], (barsR a b c d e).2.2.2.2)
theorem good_iff {x y : Int} : good ⟨x, y⟩ = true ↔ 0 ≤ x ∧ x < y ∧ y ≤ 1000000 := by
  unfold good
  simp only [Bool.and_eq_true, decide_eq_true_eq]
  omega
theorem bd_of {a b c d e x y : Int} (h : (barsR a b c d e).2.2.2.2 = 0) (hg : good ⟨x, y⟩ = true) : Bd (barsR a b c d e).2.1 (barsR a b c d e).2.2.1 (barsR a b c d e).2.2.2.1 y := by
  obtain ⟨h1, h2, h3, h4, h5, h6⟩ := barsR_ok h
  have := good_iff.1 hg
  exact ⟨h2, h3, h4, h5, h6, by omega⟩
theorem Bridge_f (a b c d e x y : Int) (wx : (Lit.int .i64 x).wf = true) (wy : (Lit.int .i64 y).wf = true) : Ev (fun k => punch_Bridge.f k a b c d e x y) (bridgeR a b c d e x y) := by
  unfold punch_Bridge.f bridgeR
  simp only [Bars_f, Option.bind_some]
  by_cases h : (barsR a b c d e).2.2.2.2 = 0
  · simp only [if_pos h, show punch_Slot_good.f x y = some (good ⟨x, y⟩) from good_f ⟨x, y⟩, Option.bind_some]
    by_cases hg : good ⟨x, y⟩ = true
    · have hg' := good_iff.1 hg
      have bd := bd_of h hg
      have h1 := (barsR_ok h).1
      simp only [if_pos hg, w_id (x := y - x) (by omega) (by omega), h1]
      by_cases hl : y - x > 10000
      · rw [if_neg (fun h => by omega)]
        simp only [if_pos hl]
        exact Ev.now _
      · rw [if_pos ⟨hg, by omega⟩]
        simp only [if_neg hl]
        have := pbridge_j bd hg'.1 (by omega) (by omega)
        obtain ⟨H, hH⟩ : ∃ H, H = (barsR a b c d e).2.1 := ⟨_, rfl⟩
        obtain ⟨L, hL⟩ : ∃ L, L = (barsR a b c d e).2.2.1 := ⟨_, rfl⟩
        obtain ⟨T, hT⟩ : ∃ T, T = (barsR a b c d e).2.2.2.1 := ⟨_, rfl⟩
        rw [← hH, ← hL, ← hT] at this bd
        simp only [← hH, ← hL, ← hT]
        have b0 := bd.l0
        have b1 := bd.lt
        have b2 := bd.t2
        have b3 := bd.h1
        have b4 := bd.h2
        by_cases hc : y - x > H
        · have q0 : 0 ≤ (y - x + T - 1) / (H + T) := Int.ediv_nonneg (by omega) (by omega)
          have q1 : (y - x + T - 1) / (H + T) ≤ y - x + T - 1 := Int.ediv_le_self _ (by omega)
          have ej : ((jJ H T (y - x) : Nat) : Int) + 1 = wrap64 (1 + wrap64 (Int.tdiv (wrap64 (wrap64 (wrap64 (wrap64 (y - x - H) + H) + T) - 1)) (wrap64 (H + T)))) := by
            rw [w_id (x := y - x - H) (by omega) (by omega), w_id (x := y - x - H + H) (by omega) (by omega), w_id (x := y - x - H + H + T) (by omega) (by omega), w_id (x := y - x - H + H + T - 1) (by omega) (by omega), w_id (x := H + T) (by omega) (by omega), show y - x - H + H + T - 1 = y - x + T - 1 by omega, Int.tdiv_eq_ediv_of_nonneg (by omega), w_id (x := (y - x + T - 1) / (H + T)) (by omega) (by omega), w_id (by omega) (by omega)]
            unfold jJ
            rw [if_pos hc, Int.toNat_of_nonneg q0]
            omega
          simp only [if_pos hc, if_neg (show ¬ wrap64 (H + T) = 0 by rw [w_id (by omega) (by omega)]; omega), ← ej]
          exact this
        · simp only [if_neg hc]
          have ej : jJ H T (y - x) = 0 := by unfold jJ; rw [if_neg hc]
          rw [ej] at this
          exact this
    · simp only [if_neg hg]
      rw [if_neg (fun h => hg h.1)]
      exact Ev.now _
  · simp only [if_neg h]
    exact Ev.now _
end Go.Proofs.Ytegffliopblajaa.P
end
section
namespace Go.Proofs.Ytegffliopblajaa.P
open Go.RowKit Go.Proofs.YtegffliopblajaaW.PrintWords Go.Proofs.YtegffliopblajaaW.PrintLast Go.Proofs.YtegffliopblajaaW.PrintMore
set_option linter.unusedVariables false
set_option linter.unusedSimpArgs false
def st (rest : Int) (l : List S47) (r : Nat) : List Int := fillL rest l ((ordL l).take r) (List.replicate 40 (-1))
end Go.Proofs.Ytegffliopblajaa.P
end
section
namespace Go.Proofs.Ytegffliopblajaa.P
open Go.RowKit Go.Proofs.YtegffliopblajaaW.PrintWords Go.Proofs.YtegffliopblajaaW.PrintLast Go.Proofs.YtegffliopblajaaW.PrintMore
set_option linter.unusedVariables false
set_option linter.unusedSimpArgs false
structure Cut (H L T tq : Int) (n : Nat) (p : Int) (l : List S47) : Prop where
  len : l.length = n + 1
  first : (rd_T47 l 0).f0 = p
  last : (rd_T47 l (n : Nat)).f1 = tq
  each : ∀ i : Nat, i < n + 1 → p ≤ (rd_T47 l (i : Nat)).f0 ∧ (rd_T47 l (i : Nat)).f0 < (rd_T47 l (i : Nat)).f1 ∧ (rd_T47 l (i : Nat)).f1 - (rd_T47 l (i : Nat)).f0 ≤ H ∧ (rd_T47 l (i : Nat)).f1 ≤ tq
  gaps : ∀ i : Nat, i < n → L ≤ (rd_T47 l (i + 1 : Nat)).f0 - (rd_T47 l (i : Nat)).f1 ∧ (rd_T47 l (i + 1 : Nat)).f0 - (rd_T47 l (i : Nat)).f1 ≤ T
theorem cons0 (x : S47) (l : List S47) : rd_T47 (x :: l) ((0 : Nat) : Int) = x := rfl
theorem consS (x : S47) (l : List S47) (i : Nat) : rd_T47 (x :: l) ((i + 1 : Nat) : Int) = rd_T47 l (i : Nat) := by
  unfold rd_T47
  rw [Int.toNat_natCast, Int.toNat_natCast]; rfl
theorem cut_cut {H L T tq : Int} (b : Bd H L T tq) : ∀ (n : Nat) (p : Int), Inv H L T tq n p → Cut H L T tq n p (cutF H L T tq n p)
  | 0, p, v => by
    have hb := h_bd b v
    have e : hF H L tq 0 p = tq - p := by
      unfold hF
      have := v.hi
      omega
    rw [cutF]
    refine ⟨rfl, rfl, ?_, fun i hi => ?_, fun i hi => by omega⟩
    · rw [cons0]; dsimp only; omega
    · obtain rfl : i = 0 := by omega
      rw [cons0]; dsimp only; omega
  | n + 1, p, v => by
    have hb := h_bd b v
    obtain ⟨w1, w2, w3, w4⟩ := w_bd b v
    have ih := cut_cut b n _ w4
    have i4 := w4.lo
    have hz : 0 ≤ (n : Int) * L := Int.mul_nonneg (by omega) b.l0
    have hL := b.l0
    rw [cutF]
    refine ⟨by rw [List.length_cons, ih.len], rfl, by rw [consS]; exact ih.last, fun i hi => ?_, fun i hi => ?_⟩
    · match i, hi with
      | 0, _ => rw [cons0]; dsimp only; omega
      | i + 1, hi =>
        rw [consS]
        have := ih.each i (by omega)
        omega
    · match i, hi with
      | 0, _ =>
        have h0 := ih.first
        rw [consS, cons0]
        dsimp only
        rw [show ((0 : Nat) : Int) = 0 from rfl, h0]
        omega
      | i + 1, hi =>
        rw [consS, consS]
        exact ih.gaps i (by omega)
theorem cut_holds {a b c d e x y : Int} {n : Nat} {l : List S47} (h : paperOk a b c d e = true) (hg : good ⟨x, y⟩ = true) (hn : n ≤ 199) {L T : Int} (hc : Cut (barHi b c) L T y n x l) (hLT : n = 0 ∨ (L = barLo a d ∧ T = barTo b e)) : holdsR a b c d e x y l = 0 := by
 have hp := paperOk_iff.1 h
 obtain ⟨q1, q2, q3, q4, q5⟩ := bar_bounds h
 have hxy := good_iff.1 hg
 have hl := hc.len
 unfold holdsR
 have g1 : (List.range' 0 l.length).any (fun i => !good (rd_T47 l (i : Nat))) = false := by
  rw [List.any_eq_false]
  intro i hi
  have hi := (List.mem_range'_1.1 hi).2
  have := hc.each i (by omega)
  have hgi : good (rd_T47 l (i : Nat)) = true := by
   unfold good
   simp only [Bool.and_eq_true, decide_eq_true_eq]
   omega
  rw [hgi]; decide
 have g2 : (List.range' 0 (l.length - 1)).any (badGap l) = false := by
  rw [List.any_eq_false]
  intro i hi
  have hi := (List.mem_range'_1.1 hi).2
  have := hc.gaps i (by omega)
  unfold badGap
  rw [decide_eq_true_iff]
  rcases hLT with h0 | ⟨h0, _⟩
  ·
   omega
  ·
   omega
 have g3 : (List.range' 0 l.length).any (badRule a b c d e l) = false := by
  rw [List.any_eq_false]
  intro i hi
  have hi := (List.mem_range'_1.1 hi).2
  have h1 := hc.each i (by omega)
  unfold badRule
  obtain ⟨z, hz⟩ : ∃ z, z = (rd_T47 l (i : Nat)).f1 - (rd_T47 l (i : Nat)).f0 := ⟨_, rfl⟩
  have ez : z * b ≤ 1000 * c := (Int.le_ediv_iff_mul_le (by omega)).1 (show z ≤ 1000 * c / b by unfold barHi at h1; omega)
  have ez0 : 0 ≤ z * b := Int.mul_nonneg (by omega) (by omega)
  have b1 : decide (wrap64 (wrap64 ((rd_T47 l (i : Nat)).f1 - (rd_T47 l (i : Nat)).f0) * b) > wrap64 (1000 * c)) = false := by
   rw [← hz, w_id (x := z) (by omega) (by omega), w_id (x := z * b) (by omega) (by omega), w_id (x := 1000 * c) (by omega) (by omega)]
   exact decide_eq_false (by omega)
  rw [b1, Bool.false_or]
  by_cases c0 : 0 < i
  ·
   rcases hLT with h0 | ⟨hL, hT⟩
   ·
    omega
   ·
    have h2 := hc.gaps (i - 1) (by omega)
    rw [show i - 1 + 1 = i by omega] at h2
    obtain ⟨u, hu⟩ : ∃ u, u = (rd_T47 l (i : Nat)).f0 - (rd_T47 l (i - 1 : Nat)).f1 := ⟨_, rfl⟩
    rw [← hu, hL, hT] at h2
    have u1 := (lo_iff (a := a) (d := d) (by omega) (n := u)).2 h2.1
    have u2 := (to_iff (b := b) (e := e) (by omega) (n := u)).2 h2.2
    have m3 : 0 ≤ u * a := Int.mul_nonneg (by omega) (by omega)
    have m4 : u * a ≤ 1200 * 1100 := Int.mul_le_mul (by omega) (by omega) (by omega) (by omega)
    have m5 : 0 ≤ u * b := Int.mul_nonneg (by omega) (by omega)
    rw [← hu, w_id (x := u) (by omega) (by omega), w_id (x := u * a) (by omega) (by omega), w_id (x := u * b) (by omega) (by omega), w_id (x := 1000 * d) (by omega) (by omega), w_id (x := 1000 * e) (by omega) (by omega), decide_eq_false (show ¬ u * a < 1000 * d by omega), decide_eq_false (show ¬ u * b ≥ 1000 * e by omega)]
    simp
  ·
   rw [decide_eq_false c0]; simp
 have e0 : (rd_T47 l 0).f0 = x ∧ (rd_T47 l (l.length - 1 : Nat)).f1 = y := ⟨hc.first, by rw [show l.length - 1 = n by omega]; exact hc.last⟩
 rw [if_pos ⟨h, hg⟩, if_neg (by omega), if_neg (by omega), g1, if_neg (by decide), if_pos e0, g2, if_neg (by decide), g3, if_neg (by decide)]
end Go.Proofs.Ytegffliopblajaa.P
end
section
namespace Go.Proofs.Ytegffliopblajaa.P
open Go.RowKit Go.Proofs.YtegffliopblajaaW.PrintWords Go.Proofs.YtegffliopblajaaW.PrintLast Go.Proofs.YtegffliopblajaaW.PrintMore
set_option linter.unusedVariables false
set_option linter.unusedSimpArgs false
section
variable {a b c d e : Int} (hp : paperOk a b c d e = true)
include hp
theorem mul_rng {n g : Int} (h0 : 0 ≤ n) (h1 : n ≤ 1200) (h2 : a ≤ g) (h3 : g ≤ b) : 0 ≤ n * a ∧ n * a ≤ n * g ∧ n * g ≤ n * b ∧ n * b ≤ 1320000 := by
  have q := paperOk_iff.1 hp
  have m1 : 0 ≤ n * a := Int.mul_nonneg h0 (by omega)
  have m2 : n * a ≤ n * g := Int.mul_le_mul_of_nonneg_left h2 h0
  have m3 : n * g ≤ n * b := Int.mul_le_mul_of_nonneg_left h3 h0
  have m4 : n * b ≤ 1200 * 1100 := Int.mul_le_mul h1 (by omega) (by omega) (by omega)
  omega
def hX (b c n : Int) : Bool := decide (1 ≤ n ∧ n ≤ barHi b c)
def bX (a b d e n : Int) : Bool := decide (1 ≤ n ∧ barLo a d ≤ n ∧ n ≤ barTo b e)
theorem hole_at {n g : Int} (h0 : 0 ≤ n) (h1 : n ≤ 1200) (h2 : a ≤ g) (h3 : g ≤ b) : ∃ t, days_hole.f n g a b c d e = some t ∧ (hX b c n = true → t = true) ∧ (g = b → t = hX b c n) := by
  have q := paperOk_iff.1 hp
  have m := mul_rng hp h0 h1 h2 h3
  have ib : n ≤ barHi b c ↔ n * b ≤ 1000 * c := by unfold barHi; rw [Int.le_ediv_iff_mul_le (by omega)]
  refine ⟨_, rfl, fun h => ?_, fun h => ?_⟩
  · unfold hX at h
    have h := of_decide_eq_true h
    have := ib.1 h.2
    rw [w_id (x := n * g) (by omega) (by omega), w_id (x := 1000 * c) (by omega) (by omega), decide_eq_true (show n ≥ 1 by omega), decide_eq_true (show n * g ≤ 1000 * c by omega)]
    rfl
  · subst h
    unfold hX
    rw [w_id (x := n * g) (by omega) (by omega), w_id (x := 1000 * c) (by omega) (by omega), ← Bool.decide_and]
    exact decide_eq_decide.2 ⟨fun h => ⟨h.1, ib.2 h.2⟩, fun h => ⟨h.1, ib.1 h.2⟩⟩
theorem bridge_at {n g : Int} (h0 : 0 ≤ n) (h1 : n ≤ 1200) (h2 : a ≤ g) (h3 : g ≤ b) : ∃ t, days_bridge.f n g a b c d e = some t ∧ (bX a b d e n = true → t = true) := by
  have q := paperOk_iff.1 hp
  have m := mul_rng hp h0 h1 h2 h3
  refine ⟨_, rfl, fun h => ?_⟩
  have h := of_decide_eq_true h
  have u1 := (lo_iff (a := a) (d := d) (by omega) (n := n)).2 h.2.1
  have u2 := (to_iff (b := b) (e := e) (by omega) (n := n)).2 h.2.2
  rw [w_id (x := n * g) (by omega) (by omega), w_id (x := 1000 * d) (by omega) (by omega), w_id (x := 1000 * e) (by omega) (by omega), decide_eq_true (show n ≥ 1 by omega), decide_eq_true (show n * g ≥ 1000 * d by omega), decide_eq_true (show n * g < 1000 * e by omega)]
  rfl
theorem bridge_two {n : Int} (h0 : 0 ≤ n) (h1 : n ≤ 1200) : ∃ t u, days_bridge.f n a a b c d e = some t ∧ days_bridge.f n b a b c d e = some u ∧ (t && u) = bX a b d e n := by
  have q := paperOk_iff.1 hp
  have m := mul_rng hp h0 h1 (Int.le_refl a) (by omega)
  have u1 := (lo_iff (a := a) (d := d) (by omega) (n := n))
  have u2 := (to_iff (b := b) (e := e) (by omega) (n := n))
  refine ⟨_, _, rfl, rfl, ?_⟩
  unfold bX
  rw [w_id (x := n * a) (by omega) (by omega), w_id (x := n * b) (by omega) (by omega), w_id (x := 1000 * d) (by omega) (by omega), w_id (x := 1000 * e) (by omega) (by omega), ← Bool.decide_and, ← Bool.decide_and, ← Bool.decide_and, ← Bool.decide_and, ← Bool.decide_and]
  exact decide_eq_decide.2 ⟨fun h => ⟨h.1.1.1, u1.1 h.1.1.2, u2.1 h.2.2⟩, fun h => by
    have v1 := u1.2 h.2.1
    have v2 := u2.2 h.2.2
    exact ⟨⟨⟨h.1, v1⟩, by omega⟩, ⟨⟨h.1, by omega⟩, v2⟩⟩⟩
theorem days_j3 {x1 x2 g er : Int} {s : Bool} {i : Nat} (hi : i < 40) (hg1 : a ≤ g) (hg2 : g ≤ b) {q1 q2 q3 q4 : Int} {r : Bool} (h : Ev (fun k => pianolalaw03_PunchDays.l0 k x1 x2 g er s ((i + 1 : Nat) : Int) a b c d e q1 q2 q3 q4) r) :
    Ev (fun k => pianolalaw03_PunchDays.j3 k x1 x2 g er s i (hX b c i) (bX a b d e i) false a b c d e q1 q2 q3 q4) r := by
  obtain ⟨t, et, ht, _⟩ := hole_at hp (n := (i : Int)) (g := g) (by omega) (by omega) hg1 hg2
  obtain ⟨u, eu, hu⟩ := bridge_at hp (n := (i : Int)) (g := g) (by omega) (by omega) hg1 hg2
  refine Ev.step (fun k => ?_) h
  rw [pianolalaw03_PunchDays.j3, if_neg (by decide), et, eu, Option.bind_some, Option.bind_some, w_succ i (by omega)]
  cases hx : hX b c i with
  | true =>
    rw [if_pos rfl, if_pos (ht hx)]
    cases hy : bX a b d e i with
    | true => rw [if_pos rfl, if_pos (hu hy)]
    | false => rw [if_neg (by decide)]
  | false =>
    rw [if_neg (by decide)]
    cases hy : bX a b d e i with
    | true => rw [if_pos rfl, if_pos (hu hy)]
    | false => rw [if_neg (by decide)]
omit hp in
theorem days_j2 {x1 x2 g er : Int} {s : Bool} {i : Nat} {q1 q2 q3 q4 : Int} {r : Bool} (h0 : er = 0 → q1 = 1) (h1 : er = 0 → q2 = barHi b c) (h2 : er = 0 → ((q3 = barLo a d ∧ q4 = barTo b e) ∨ (q3 = 0 ∧ q4 = 0 ∧ barTo b e < barLo a d)))
    (h : Ev (fun k => pianolalaw03_PunchDays.j3 k x1 x2 g er s i (hX b c i) (bX a b d e i) false a b c d e q1 q2 q3 q4) r) :
    Ev (fun k => pianolalaw03_PunchDays.j2 k x1 x2 g er s i (hX b c i) (bX a b d e i) a b c d e q1 q2 q3 q4) r := by
  refine Ev.step (fun k => ?_) h
  rw [pianolalaw03_PunchDays.j2]
  by_cases c0 : er = 0
  · have e0 := h0 c0
    have e1 := h1 c0
    have e2 := h2 c0
    rw [if_pos c0]
    by_cases c1 : (i : Int) ≥ 1
    · have ex : hX b c i = decide ((i : Int) ≤ q2) := by
        unfold hX
        exact decide_eq_decide.2 ⟨fun h => by omega, fun h => by omega⟩
      rw [if_pos c1, if_pos (show (i : Int) ≥ q1 by omega), ← ex, bne_self_eq_false, if_neg (by decide)]
      by_cases c2 : (i : Int) ≥ q3
      · have ey : bX a b d e i = decide ((i : Int) ≤ q4) := by
          unfold bX
          exact decide_eq_decide.2 ⟨fun h => by omega, fun h => by omega⟩
        rw [if_pos c2, ← ey, bne_self_eq_false]
      · have ey : bX a b d e i = false := by
          unfold bX
          exact decide_eq_false (fun h => by omega)
        rw [if_neg c2, ey, bne_self_eq_false]
    · have ex : hX b c i = false := by
        unfold hX
        exact decide_eq_false (fun h => by omega)
      have ey : bX a b d e i = false := by
        unfold bX
        exact decide_eq_false (fun h => by omega)
      rw [if_neg c1, ex, ey, bne_self_eq_false, if_neg (by decide)]
  · rw [if_neg c0]
def sX (b c : Int) (i : Nat) : Bool := decide (2 ≤ i ∧ 1 ≤ barHi b c)
theorem days_l0 {x1 x2 g er : Int} (hg1 : a ≤ g) (hg2 : g ≤ b) {q1 q2 q3 q4 : Int} {r : Bool} (h0 : er = 0 → q1 = 1) (h1 : er = 0 → q2 = barHi b c) (h2 : er = 0 → ((q3 = barLo a d ∧ q4 = barTo b e) ∨ (q3 = 0 ∧ q4 = 0 ∧ barTo b e < barLo a d)))
    (h : Ev (fun k => pianolalaw03_PunchDays.l0 k x1 x2 g er (sX b c 40) ((40 : Nat) : Int) a b c d e q1 q2 q3 q4) r) :
    ∀ (m i : Nat), i + m = 40 → Ev (fun k => pianolalaw03_PunchDays.l0 k x1 x2 g er (sX b c i) i a b c d e q1 q2 q3 q4) r
  | 0, i, hi => by
    obtain rfl : i = 40 := by omega
    exact h
  | m + 1, i, hi => by
    have q := paperOk_iff.1 hp
    have rec_ := days_j2 (x1 := x1) (x2 := x2) (g := g) h0 h1 h2 (days_j3 hp (i := i) (by omega) hg1 hg2 (days_l0 hg1 hg2 h0 h1 h2 h m (i + 1) (by omega)))
    obtain ⟨t, et, ht, _⟩ := hole_at hp (n := (i : Int)) (g := a) (by omega) (by omega) (Int.le_refl _) (by omega)
    obtain ⟨t', et', _, ht'⟩ := hole_at hp (n := (i : Int)) (g := b) (by omega) (by omega) (by omega) (Int.le_refl _)
    obtain ⟨u, u', eu, eu', hu⟩ := bridge_two hp (n := (i : Int)) (by omega) (by omega)
    refine Ev.step (f := fun k => pianolalaw03_PunchDays.j1 k x1 x2 g er (sX b c i) i (hX b c i) (bX a b d e i) a b c d e q1 q2 q3 q4) (fun k => ?_) (Ev.step (fun k => ?_) rec_)
    · rw [pianolalaw03_PunchDays.l0, if_pos (by omega), et, et', eu, eu']
      simp only [Option.bind_some]
      rw [ht' rfl]
      cases ht2 : t with
      | true =>
        rw [if_pos rfl]
        cases hu2 : u with
        | true => rw [if_pos rfl, ← hu, hu2, Bool.true_and]
        | false => rw [if_neg (by decide), ← hu, hu2, Bool.false_and]
      | false =>
        have ex : hX b c i = false := by
          rw [← Bool.not_eq_true]
          intro h
          rw [ht h] at ht2; cases ht2
        rw [if_neg (by decide), ex]
        cases hu2 : u with
        | true => rw [if_pos rfl, ← hu, hu2, Bool.true_and]
        | false => rw [if_neg (by decide), ← hu, hu2, Bool.false_and]
    · rw [pianolalaw03_PunchDays.j1]
      cases hs : sX b c i with
      | true =>
        have : sX b c (i + 1) = true := by
          have hs := of_decide_eq_true hs
          exact decide_eq_true (by omega)
        rw [if_pos rfl, this]
      | false =>
        have : hX b c i = sX b c (i + 1) := by
          have hs := of_decide_eq_false hs
          unfold hX sX
          exact decide_eq_decide.2 ⟨fun h => by omega, fun h => by omega⟩
        rw [if_neg (by decide), ← this]
theorem days_l1 {g : Int} (hg1 : a ≤ g) (hg2 : g ≤ b) {n : Nat} {l : List S47} {L T x y : Int} (hn : n ≤ 199) (hc : Cut (barHi b c) L T y n x l) (hy : y ≤ 1000000) (hx : 0 ≤ x) (hLT : n = 0 ∨ (L = barLo a d ∧ T = barTo b e)) :
    ∀ (m i : Nat), i + m = n + 1 → Ev (fun k => pianolalaw03_PunchDays.l1 k g l l l.length i a b c d e) true
  | 0, i, hi => by
    have hl := hc.len
    refine Ev.step (f := fun _ => some true) (fun k => ?_) (Ev.now _)
    rw [pianolalaw03_PunchDays.l1, if_neg (by omega)]
    rfl
  | m + 1, i, hi => by
    have hl := hc.len
    have q := bar_bounds hp
    have h1 := hc.each i (by omega)
    refine Ev.step (fun k => ?_) (days_l1 hg1 hg2 hn hc hy hx hLT m (i + 1) (by omega))
    rw [pianolalaw03_PunchDays.l1, if_pos (by omega), if_pos (by omega), if_pos (by omega), w_id (x := (rd_T47 l (i : Nat)).f1 - (rd_T47 l (i : Nat)).f0) (by omega) (by omega), w_succ i (by omega)]
    obtain ⟨t, et, ht, _⟩ := hole_at hp (n := (rd_T47 l (i : Nat)).f1 - (rd_T47 l (i : Nat)).f0) (g := g) (by omega) (by omega) hg1 hg2
    rw [et, Option.bind_some, if_pos (ht (by unfold hX; exact decide_eq_true (by omega)))]
    by_cases c0 : (i : Int) > 0
    · have h2 := hc.gaps (i - 1) (by omega)
      have h3 := hc.each (i - 1) (by omega)
      rw [show i - 1 + 1 = i by omega] at h2
      have ew : wrap64 ((i : Int) - 1) = ((i - 1 : Nat) : Int) := by unfold wrap64; omega
      have hLT : L = barLo a d ∧ T = barTo b e := by
        rcases hLT with h | h
        · omega
        · exact h
      rw [hLT.1, hLT.2] at h2
      obtain ⟨u, eu, hu⟩ := bridge_at hp (n := (rd_T47 l (i : Nat)).f0 - (rd_T47 l (i - 1 : Nat)).f1) (g := g) (by omega) (by omega) hg1 hg2
      rw [if_pos c0, ew, if_pos (by omega), if_pos (by omega), w_id (x := (rd_T47 l (i : Nat)).f0 - (rd_T47 l (i - 1 : Nat)).f1) (by omega) (by omega), eu, Option.bind_some, if_pos (hu (by unfold bX; exact decide_eq_true (by omega)))]
    · rw [if_neg c0]
theorem days_bridged {g : Int} (hg1 : a ≤ g) (hg2 : g ≤ b) {L T x y : Int} (hH : 1 ≤ barHi b c) (h0 : 0 ≤ L) (hle : L ≤ T) (hT : T ≤ 1200) (hor : T = 0 ∨ (L = barLo a d ∧ T = barTo b e)) (hx : 0 ≤ x) (hxy : x < y) (hy : y ≤ 1000000) (hl : y - x ≤ 10000) :
    Ev (fun k => pianolalaw03_PunchDays.j4 k g (bridgeD (barHi b c) L T x y).1 (bridgeD (barHi b c) L T x y).2 false a b c d e x y) true := by
  have q := bar_bounds hp
  have hg : good ⟨x, y⟩ = true := good_iff.2 (by omega)
  have hbd : Bd (barHi b c) L T y := ⟨by omega, by omega, h0, hle, by omega, by omega⟩
  unfold bridgeD
  by_cases c0 : jJ (barHi b c) T (y - x) > 199 ∨ (jJ (barHi b c) T (y - x) > 0 ∧ T = 0) ∨ y - x < (jJ (barHi b c) T (y - x) : Int) + 1 + jJ (barHi b c) T (y - x) * L
  · rw [if_pos c0]
    refine Ev.step (f := fun _ => some true) (fun k => ?_) (Ev.now _)
    rw [pianolalaw03_PunchDays.j4, if_neg (by decide), if_pos rfl, if_pos (show ((([], 20) : List S47 × Int).1.length : Int) = 0 from rfl)]
    rfl
  · rw [if_neg c0]
    have hv := bridge_inv hbd hx (by omega) c0
    have hcut := cut_cut hbd _ _ hv
    have hlen := hcut.len
    have hLT : jJ (barHi b c) T (y - x) = 0 ∨ (L = barLo a d ∧ T = barTo b e) := by
      rcases hor with h | h
      · exact .inl (by omega)
      · exact .inr h
    have hJ : jJ (barHi b c) T (y - x) ≤ 199 := by omega
    have hh := cut_holds hp hg hJ hcut hLT
    have hHf := Holds_f a b c d e x y (cutF (barHi b c) L T y (jJ (barHi b c) T (y - x)) x) (by omega)
    rw [hh] at hHf
    have hlast := hcut.last
    have hfirst := hcut.first
    have el : wrap64 (((cutF (barHi b c) L T y (jJ (barHi b c) T (y - x)) x).length : Int) - 1) = ((jJ (barHi b c) T (y - x) : Nat) : Int) := by
      rw [hlen]; unfold wrap64; omega
    refine Ev.step (f := fun k => (punch_Holds.f k a b c d e x y (cutF (barHi b c) L T y (jJ (barHi b c) T (y - x)) x)).bind fun t => pianolalaw03_PunchDays.j5 k g (cutF (barHi b c) L T y (jJ (barHi b c) T (y - x)) x) (t != 0) a b c d e) (fun k => ?_) (Ev.bind hHf ?_)
    · rw [pianolalaw03_PunchDays.j4, if_neg (by decide)]
      dsimp only
      rw [if_neg (show ¬ (0 : Int) = 20 by decide), if_neg (by omega), if_pos (by omega), if_pos hfirst, el, if_pos (by omega), if_pos (by omega), if_pos hlast]
    · refine Ev.step (fun k => ?_) (days_l1 hp hg1 hg2 hJ hcut hy hx hLT (jJ (barHi b c) T (y - x) + 1) 0 (by omega))
      rw [pianolalaw03_PunchDays.j5, if_neg (by decide)]
      rfl
end
theorem daysLaw_ev (x0 x1 x2 x3 x4 f n t : Int) (h0 : 0 ≤ x0 ∧ x0 ≤ 255) (h1 : 0 ≤ x1 ∧ x1 ≤ 255) (h2 : 0 ≤ x2 ∧ x2 ≤ 255) (h3 : 0 ≤ x3 ∧ x3 ≤ 255) (h4 : 0 ≤ x4 ∧ x4 ≤ 255) (hf : 0 ≤ f ∧ f ≤ 255) (hn : 0 ≤ n ∧ n ≤ 255) (ht : 0 ≤ t ∧ t ≤ 65535) : Ev (fun k => pianolalaw03_PunchDays.f k x0 x1 x2 x3 x4 f n t) true := by
 unfold pianolalaw03_PunchDays.f
 have em : pianolalaw03_Sheet_made.f x0 x1 x2 x3 x4 = some (900 + x0 % 150, 900 + x0 % 150 + x1 % 50, 1 + x2 % 12, 1 + x3 % 6, 1 + x4 % 14) := by
  unfold pianolalaw03_Sheet_made.f
  rw [w_id (x := x0) (by omega) (by omega), w_id (x := x1) (by omega) (by omega), w_id (x := x2) (by omega) (by omega), w_id (x := x3) (by omega) (by omega), w_id (x := x4) (by omega) (by omega),
   Int.tmod_eq_emod_of_nonneg h0.1, Int.tmod_eq_emod_of_nonneg h1.1, Int.tmod_eq_emod_of_nonneg h2.1, Int.tmod_eq_emod_of_nonneg h3.1, Int.tmod_eq_emod_of_nonneg h4.1,
   w_id (x := 900 + x0 % 150) (by omega) (by omega), w_id (x := 900 + x0 % 150 + x1 % 50) (by omega) (by omega), w_id (x := 1 + x2 % 12) (by omega) (by omega), w_id (x := 1 + x3 % 6) (by omega) (by omega), w_id (x := 1 + x4 % 14) (by omega) (by omega)]
 rw [em]
 simp only [Option.bind_some, Bars_f]
 obtain ⟨a, ha⟩ : ∃ a, a = 900 + x0 % 150 := ⟨_, rfl⟩
 obtain ⟨b, hb⟩ : ∃ b, b = a + x1 % 50 := ⟨_, rfl⟩
 obtain ⟨c, hc⟩ : ∃ c, c = 1 + x2 % 12 := ⟨_, rfl⟩
 obtain ⟨d, hd⟩ : ∃ d, d = 1 + x3 % 6 := ⟨_, rfl⟩
 obtain ⟨e, he⟩ : ∃ e, e = 1 + x4 % 14 := ⟨_, rfl⟩
 rw [← ha, ← hb, ← hc, ← hd, ← he]
 have hp : paperOk a b c d e = true := paperOk_iff.2 (by omega)
 have hq := bar_bounds hp
 have ew : wrap64 (wrap64 (b - a) + 1) = b - a + 1 := by rw [w_id (x := b - a) (by omega) (by omega), w_id (by omega) (by omega)]
 rw [ew]
 simp only [if_neg (show ¬ b - a + 1 = 0 by omega)]
 have hm0 := Int.emod_nonneg t (show b - a + 1 ≠ 0 by omega)
 have hm1 := Int.emod_lt_of_pos t (show 0 < b - a + 1 by omega)
 have eg : wrap64 (a + Int.tmod (wrap64 t) (b - a + 1)) = a + t % (b - a + 1) := by
  rw [w_id (x := t) (by omega) (by omega), Int.tmod_eq_emod_of_nonneg ht.1, w_id (by omega) (by omega)]
 rw [eg]
 obtain ⟨g, hg⟩ : ∃ g, g = a + t % (b - a + 1) := ⟨_, rfl⟩
 rw [← hg]
 have hg1 : a ≤ g := by omega
 have hg2 : g ≤ b := by omega
 have ex : wrap64 f = f := w_id (by omega) (by omega)
 have ey : wrap64 (wrap64 (wrap64 f + 1) + Int.tmod (wrap64 n) 60) = f + 1 + n % 60 := by
  rw [ex, w_id (x := n) (by omega) (by omega), Int.tmod_eq_emod_of_nonneg hn.1, w_id (x := f + 1) (by omega) (by omega), w_id (by omega) (by omega)]
 have s0 : sX b c 0 = false := rfl
 by_cases c1 : barHi b c < 1
 ·
  have er : barsR a b c d e = (0, 0, 0, 0, 20) := by unfold barsR; rw [if_pos hp, if_pos c1]
  rw [er]
  refine days_l0 hp hg1 hg2 (er := 20) (fun h => absurd h (by decide)) (fun h => absurd h (by decide)) (fun h => absurd h (by decide)) ?_ 40 0 rfl
  rw [show sX b c 40 = false from decide_eq_false (by omega)]
  refine Ev.step (f := fun _ => some true) (fun k => ?_) (Ev.now _)
  rw [pianolalaw03_PunchDays.l0, if_neg (by omega), if_neg (by decide), if_pos rfl]
  rfl
 ·
  have main : ∀ L T : Int, barsR a b c d e = (1, barHi b c, L, T, 0) → 0 ≤ L → L ≤ T → T ≤ 1200 → ((L = barLo a d ∧ T = barTo b e) ∨ (L = 0 ∧ T = 0 ∧ barTo b e < barLo a d)) → Ev (fun k => pianolalaw03_PunchDays.l0 k f n g 0 false 0 a b c d e 1 (barHi b c) L T) true := fun L T er hL hle hT hor => by
   have s40 : sX b c 40 = true := decide_eq_true (by omega)
   have hbr := Bridge_f a b c d e f (f + 1 + n % 60) (by
    have : IntKind.i64.min ≤ f ∧ f ≤ IntKind.i64.max := ⟨show (-9223372036854775808 : Int) ≤ _ by omega, show _ ≤ (9223372036854775807 : Int) by omega⟩
    simpa [Lit.wf] using this) (by
    have : IntKind.i64.min ≤ f + 1 + n % 60 ∧ f + 1 + n % 60 ≤ IntKind.i64.max := ⟨show (-9223372036854775808 : Int) ≤ _ by omega, show _ ≤ (9223372036854775807 : Int) by omega⟩
    simpa [Lit.wf] using this)
   have eB : bridgeR a b c d e f (f + 1 + n % 60) = bridgeD (barHi b c) L T f (f + 1 + n % 60) := by
    unfold bridgeR
    rw [er, if_pos rfl, if_pos ⟨good_iff.2 (by omega), by omega⟩]
   rw [eB] at hbr
   have hj := days_bridged hp hg1 hg2 (x := f) (y := f + 1 + n % 60) (by omega) hL hle hT (by
    rcases hor with h | h
    ·
     exact .inr h
    ·
     exact .inl h.2.1) (by omega) (by omega) (by omega) (by omega)
   refine days_l0 hp hg1 hg2 (fun _ => rfl) (fun _ => rfl) (fun _ => hor) ?_ 40 0 rfl
   rw [s40]
   refine Ev.step (f := fun k => (punch_Bridge.f k a b c d e f (f + 1 + n % 60)).bind fun bt => if bt.2 = 0 then pianolalaw03_PunchDays.j4 k g bt.1 bt.2 false a b c d e f (f + 1 + n % 60) else pianolalaw03_PunchDays.j4 k g bt.1 bt.2 (bt.2 != 20) a b c d e f (f + 1 + n % 60)) (fun k => ?_) (Ev.bind hbr ?_)
   ·
    rw [pianolalaw03_PunchDays.l0, if_neg (by omega), if_pos rfl, ey, ex]
    simp only [if_true]
   ·
    by_cases c2 : (bridgeD (barHi b c) L T f (f + 1 + n % 60)).2 = 0
    ·
     simp only [if_pos c2]; exact hj
    ·
     have e20 : (bridgeD (barHi b c) L T f (f + 1 + n % 60)).2 = 20 := by
      unfold bridgeD at c2 ⊢
      split at c2
      ·
       rename_i c3; rw [if_pos c3]
      ·
       exact absurd rfl c2
     simp only [if_neg c2]
     rw [show ((bridgeD (barHi b c) L T f (f + 1 + n % 60)).2 != 20) = false by rw [e20]; decide]
     exact hj
  by_cases c2 : barLo a d > barTo b e
  ·
   have er : barsR a b c d e = (1, barHi b c, 0, 0, 0) := by unfold barsR; rw [if_pos hp, if_neg c1, if_pos c2]
   rw [er]
   exact main 0 0 er (by omega) (by omega) (by omega) (.inr ⟨rfl, rfl, by omega⟩)
  ·
   have er : barsR a b c d e = (1, barHi b c, barLo a d, barTo b e, 0) := by unfold barsR; rw [if_pos hp, if_neg c1, if_neg c2]
   rw [er]
   exact main (barLo a d) (barTo b e) er (by omega) (by omega) (by omega) (.inl ⟨rfl, rfl⟩)
end Go.Proofs.Ytegffliopblajaa.P
namespace Go.Proofs.Ytegffliopblajaa.Pure
open P Go.Proofs.YtegffliopblajaaW.PrintWords
theorem u8_of4 {a : Int} (w : (Lit.int .u8 a).wf = true) : 0 ≤ a ∧ a ≤ 255 := by
  have h : IntKind.u8.min ≤ a ∧ a ≤ IntKind.u8.max := by simpa [Lit.wf] using w
  exact ⟨h.1, h.2⟩
theorem u16_of {a : Int} (w : (Lit.int .u16 a).wf = true) : 0 ≤ a ∧ a ≤ 65535 := by
  have h : IntKind.u16.min ≤ a ∧ a ≤ IntKind.u16.max := by simpa [Lit.wf] using w
  exact ⟨h.1, h.2⟩
theorem PunchDays (a b c e f y z t : Int) (wa : (Lit.int .u8 a).wf = true) (wb : (Lit.int .u8 b).wf = true) (wc : (Lit.int .u8 c).wf = true) (we : (Lit.int .u8 e).wf = true) (wf : (Lit.int .u8 f).wf = true) (wy : (Lit.int .u8 y).wf = true) (wz : (Lit.int .u8 z).wf = true) (wt : (Lit.int .u16 t).wf = true) : ∃ k, pianolalaw03_PunchDays.f k a b c e f y z t = some true :=
  (daysLaw_ev a b c e f y z t (u8_of4 wa) (u8_of4 wb) (u8_of4 wc) (u8_of4 we) (u8_of4 wf) (u8_of4 wy) (u8_of4 wz) (u16_of wt)).rounds
end Go.Proofs.Ytegffliopblajaa.Pure
end
