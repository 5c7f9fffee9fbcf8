/- Words and contracts for a claim. -/
import Derived.Test.YtegffliopblajaaPunchFewest5

section
namespace Go.Proofs.Ytegffliopblajaa.P
open Go.RowKit Go.Proofs.YtegffliopblajaaW.PrintWords Go.Proofs.YtegffliopblajaaW.PrintLast Go.Proofs.YtegffliopblajaaW.PrintMore
set_option linter.unusedVariables false
set_option linter.unusedSimpArgs false
def hF (H L tq : Int) (n : Nat) (p : Int) : Int := min H (tq - p - (n + n * L))
def wF (L T tq : Int) (n : Nat) (p : Int) : Int := min T (tq - p - ((n + 1 : Nat) : Int) - n * L)
def cutF (H L T tq : Int) : Nat → Int → List S47
  | 0, p => [⟨p, p + hF H L tq 0 p⟩]
  | n + 1, p => ⟨p, p + hF H L tq (n + 1) p⟩ :: cutF H L T tq n (p + hF H L tq (n + 1) p + wF L T tq n (p + hF H L tq (n + 1) p))
structure Bd (H L T tq : Int) : Prop where
  h1 : 1 ≤ H
  h2 : H ≤ 1200
  l0 : 0 ≤ L
  lt : L ≤ T
  t2 : T ≤ 1200
  to2 : tq ≤ 1000000
structure Inv (H L T tq : Int) (n : Nat) (p : Int) : Prop where
  lo : (n : Int) + 1 + n * L ≤ tq - p
  hi : tq - p ≤ n * H + H + n * T
  p0 : 0 ≤ p
  n2 : n ≤ 200
theorem w_id {x : Int} (h0 : -4000000000000000000 ≤ x) (h1 : x ≤ 4000000000000000000) : wrap64 x = x := by unfold wrap64; omega
theorem mul_b {n : Nat} {z : Int} (hn : n ≤ 201) (h0 : 0 ≤ z) (h1 : z ≤ 1200) : 0 ≤ (n : Int) * z ∧ (n : Int) * z ≤ 241200 := by
  have a : 0 ≤ (n : Int) * z := Int.mul_nonneg (by omega) h0
  have b : (n : Int) * z ≤ 201 * 1200 := Int.mul_le_mul (by omega) h1 h0 (by omega)
  omega
theorem mul_s (n : Nat) (z : Int) : ((n + 1 : Nat) : Int) * z = n * z + z := by rw [show ((n + 1 : Nat) : Int) = (n : Int) + 1 by omega, Int.add_mul, Int.one_mul]
theorem mul_m {n : Nat} {y z : Int} (h : y ≤ z) : (n : Int) * y ≤ n * z := Int.mul_le_mul_of_nonneg_left h (by omega)
theorem mul_1 {n : Nat} {z : Int} (h : 1 ≤ z) : (n : Int) ≤ n * z := by
  have := mul_m (n := n) h
  omega
theorem h_bd {H L T tq : Int} (b : Bd H L T tq) {n : Nat} {p : Int} (i : Inv H L T tq n p) : 1 ≤ hF H L tq n p ∧ hF H L tq n p ≤ H ∧ hF H L tq n p ≤ tq - p := by
  obtain ⟨h1, h2, h3, h4, h5, h6⟩ := b
  obtain ⟨i1, i2, i3, i4⟩ := i
  have a1 := mul_b (n := n) (z := L) (by omega) h3 (by omega)
  unfold hF
  omega
theorem w_bd {H L T tq : Int} (b : Bd H L T tq) {n : Nat} {p : Int} (i : Inv H L T tq (n + 1) p) : L ≤ wF L T tq n (p + hF H L tq (n + 1) p) ∧ wF L T tq n (p + hF H L tq (n + 1) p) ≤ T ∧ wF L T tq n (p + hF H L tq (n + 1) p) ≤ tq - p ∧ Inv H L T tq n (p + hF H L tq (n + 1) p + wF L T tq n (p + hF H L tq (n + 1) p)) := by
  have hb := h_bd b i
  obtain ⟨h1, h2, h3, h4, h5, h6⟩ := b
  obtain ⟨i1, i2, i3, i4⟩ := i
  have a1 := mul_b (n := n) (z := L) (by omega) h3 (by omega)
  have a2 := mul_s n L
  have a3 := mul_s n T
  have a4 := mul_s n H
  have a5 := mul_m (n := n) h4
  have a6 := mul_1 (n := n) h1
  have a7 := mul_b (n := n) (z := T) (by omega) (by omega) h5
  rw [a2] at i1
  rw [a3, a4] at i2
  have e1 : hF H L tq (n + 1) p = min H (tq - p - (((n + 1 : Nat) : Int) + ((n : Int) * L + L))) := by unfold hF; rw [a2]
  obtain ⟨h, hh⟩ : ∃ h, h = hF H L tq (n + 1) p := ⟨_, rfl⟩
  rw [← hh] at hb e1 ⊢
  have e2 : wF L T tq n (p + h) = min T (tq - (p + h) - ((n + 1 : Nat) : Int) - n * L) := rfl
  obtain ⟨w, hw⟩ : ∃ w, w = wF L T tq n (p + h) := ⟨_, rfl⟩
  rw [← hw] at e2 ⊢
  clear hh hw
  refine ⟨by omega, by omega, by omega, ?_, ?_, by omega, by omega⟩
  · omega
  · omega
theorem cut_len (H L T tq : Int) : ∀ (n : Nat) (p : Int), (cutF H L T tq n p).length = n + 1
  | 0, _ => rfl
  | n + 1, _ => by rw [cutF, List.length_cons, cut_len]
theorem least_f (a v : Int) : Ev (fun k => punch_least.f k a [v]) (min a v) := by
  refine ⟨2, fun k hk => ?_⟩
  obtain ⟨k, rfl⟩ : ∃ q, k = q + 2 := ⟨k - 2, by omega⟩
  show punch_least.l0 (k + 1 + 1) a [v] 1 0 = _
  rw [punch_least.l0, if_pos (by simp), if_pos (by omega), if_pos (by simp), show wrap64 ((0 : Int) + 1) = 1 by unfold wrap64; omega, punch_least.l0, if_neg (by simp)]
  congr 1
  show mn a v = _
  unfold mn
  omega
theorem pbridge_l0 {H L T fr tq : Int} (b : Bd H L T tq) : ∀ (n : Nat) (p : Int) (out : List S47), Inv H L T tq n p → out.length + n ≤ 1000 → Ev (fun k => punch_Bridge.l0 k out p n fr tq 1 H L T) (out ++ cutF H L T tq n p, 0)
 | 0, p, out, i, ho => by
  have hb := h_bd b i
  obtain ⟨i1, i2, i3, i4⟩ := i
  have b2 := b.h2
  have b6 := b.to2
  refine Ev.step (f := fun k => (punch_least.f k H [tq - p]).bind fun t => (if out.length < 8796093022208 then ((some (out ++ [(⟨p, wrap64 (p + t)⟩ : S47)] : List (S47))).bind fun y275 => punch_Bridge.l0 k y275 (wrap64 (p + t)) (-1) fr tq 1 H L T) else none)) (fun k => ?_) ?_
  ·
   rw [punch_Bridge.l0, if_pos (by omega), show wrap64 (wrap64 (tq - p) - wrap64 (((0 : Nat) : Int) * wrap64 (1 + L))) = tq - p by rw [show ((0 : Nat) : Int) * wrap64 (1 + L) = 0 by simp]; unfold wrap64; omega]
   congr 1
   funext t
   simp only [if_neg (show ¬ ((0 : Nat) : Int) > 0 by omega), show wrap64 (((0 : Nat) : Int) - 1) = -1 by unfold wrap64; omega]
  ·
   refine Ev.bind (least_f H (tq - p)) ?_
   have e : min H (tq - p) = hF H L tq 0 p := by unfold hF; simp
   rw [e]
   simp only [if_pos (show out.length < 8796093022208 by omega), Option.bind_some, show wrap64 (p + hF H L tq 0 p) = p + hF H L tq 0 p by unfold wrap64; omega]
   refine Ev.step (f := fun _ => some (out ++ cutF H L T tq 0 p, 0)) (fun k => ?_) (Ev.now _)
   rw [punch_Bridge.l0, if_neg (by omega)]
   rfl
 | n + 1, p, out, i, ho => by
  have hb := h_bd b i
  obtain ⟨w1, w2, w3, i'⟩ := w_bd b i
  have a1 := mul_b (n := n + 1) (z := L) (by have := i.n2; omega) b.l0 (by have := b.lt; have := b.t2; omega)
  have a2 := mul_b (n := n) (z := L) (by have := i.n2; omega) b.l0 (by have := b.lt; have := b.t2; omega)
  have ih := pbridge_l0 (fr := fr) b n _ (out ++ [⟨p, p + hF H L tq (n + 1) p⟩]) i' (by rw [List.length_append]; simp; omega)
  obtain ⟨i1, i2, i3, i4⟩ := i
  have b1 := b.h1
  have b2 := b.h2
  have b3 := b.l0
  have b4 := b.lt
  have b5 := b.t2
  have b6 := b.to2
  have m1 : ((n + 1 : Nat) : Int) * (1 + L) = ((n + 1 : Nat) : Int) + ((n + 1 : Nat) : Int) * L := by rw [Int.mul_add, Int.mul_one]
  refine Ev.step (f := fun k => (punch_least.f k H [tq - p - (((n + 1 : Nat) : Int) + ((n + 1 : Nat) : Int) * L)]).bind fun t => (if out.length < 8796093022208 then ((some (out ++ [(⟨p, wrap64 (p + t)⟩ : S47)] : List (S47))).bind fun y275 => (punch_least.f k T [wrap64 (wrap64 (wrap64 (tq - wrap64 (p + t)) - wrap64 (((n + 1 : Nat) : Int) * 1)) - wrap64 ((n : Int) * L))]).bind fun t281 => punch_Bridge.l0 k y275 (wrap64 (wrap64 (p + t) + t281)) n fr tq 1 H L T) else none)) (fun k => ?_) ?_
  ·
   rw [punch_Bridge.l0, if_pos (by omega), show wrap64 (1 + L) = 1 + L by unfold wrap64; omega, m1, show wrap64 (wrap64 (tq - p) - wrap64 (((n + 1 : Nat) : Int) + ((n + 1 : Nat) : Int) * L)) = tq - p - (((n + 1 : Nat) : Int) + ((n + 1 : Nat) : Int) * L) by unfold wrap64; omega]
   congr 1
   funext t
   simp only [if_pos (show ((n + 1 : Nat) : Int) > 0 by omega), show wrap64 (((n + 1 : Nat) : Int) - 1) = n by unfold wrap64; omega]
  ·
   refine Ev.bind (least_f H _) ?_
   have e : min H (tq - p - (((n + 1 : Nat) : Int) + ((n + 1 : Nat) : Int) * L)) = hF H L tq (n + 1) p := rfl
   rw [e]
   have ew : wrap64 (wrap64 (wrap64 (tq - (p + hF H L tq (n + 1) p)) - wrap64 (((n + 1 : Nat) : Int) * 1)) - wrap64 ((n : Int) * L)) = tq - (p + hF H L tq (n + 1) p) - ((n + 1 : Nat) : Int) - (n : Int) * L := by
    rw [Int.mul_one]
    unfold wrap64; omega
   simp only [if_pos (show out.length < 8796093022208 by omega), Option.bind_some, show wrap64 (p + hF H L tq (n + 1) p) = p + hF H L tq (n + 1) p by unfold wrap64; omega, ew]
   refine Ev.bind (least_f T _) ?_
   have e2 : min T (tq - (p + hF H L tq (n + 1) p) - ((n + 1 : Nat) : Int) - (n : Int) * L) = wF L T tq n (p + hF H L tq (n + 1) p) := rfl
   rw [e2]
   simp only [show wrap64 (p + hF H L tq (n + 1) p + wF L T tq n (p + hF H L tq (n + 1) p)) = p + hF H L tq (n + 1) p + wF L T tq n (p + hF H L tq (n + 1) p) by unfold wrap64; omega]
   have e3 : out ++ cutF H L T tq (n + 1) p = out ++ [⟨p, p + hF H L tq (n + 1) p⟩] ++ cutF H L T tq n (p + hF H L tq (n + 1) p + wF L T tq n (p + hF H L tq (n + 1) p)) := by rw [cutF, List.append_assoc]; rfl
   rw [e3]
   exact ih
end Go.Proofs.Ytegffliopblajaa.P
end
section
namespace Go.Proofs.Ytegffliopblajaa.P
open Go.RowKit Go.Proofs.YtegffliopblajaaW.PrintWords Go.Proofs.YtegffliopblajaaW.PrintLast Go.Proofs.YtegffliopblajaaW.PrintMore
set_option linter.unusedVariables false
set_option linter.unusedSimpArgs false
def jJ (H T len : Int) : Nat := if len > H then ((len + T - 1) / (H + T)).toNat else 0
theorem jJ_up {H T len : Int} (h1 : 1 ≤ H) (h2 : 0 ≤ T) (h3 : 1 ≤ len) : len ≤ (jJ H T len : Int) * H + H + jJ H T len * T := by
  unfold jJ
  split
  · have q0 : 0 ≤ (len + T - 1) / (H + T) := Int.ediv_nonneg (by omega) (by omega)
    have := Int.lt_ediv_add_one_mul_self (len + T - 1) (show 0 < H + T by omega)
    rw [Int.toNat_of_nonneg q0]
    rw [Int.add_mul, Int.one_mul, Int.mul_add] at this
    omega
  · omega
theorem jJ_min {H T len : Int} (h1 : 1 ≤ H) (h2 : 0 ≤ T) (h3 : 1 ≤ len) {j : Nat} (h : j < jJ H T len) : ¬ len ≤ (j : Int) * H + H + j * T := by
  unfold jJ at h
  split at h
  · rename_i c
    have q0 : 0 ≤ (len + T - 1) / (H + T) := Int.ediv_nonneg (by omega) (by omega)
    have h4 := Int.ediv_mul_le (len + T - 1) (show H + T ≠ 0 by omega)
    have h5 : ((j : Int) + 1) * (H + T) ≤ (len + T - 1) / (H + T) * (H + T) := Int.mul_le_mul_of_nonneg_right (by omega) (by omega)
    rw [Int.add_mul, Int.one_mul, Int.mul_add] at h5
    omega
  · omega
theorem jJ_le {H T len : Int} (h1 : 1 ≤ H) (h2 : 0 ≤ T) (h4 : T ≤ 1200) (h3 : 1 ≤ len) (h5 : len ≤ 10000) : jJ H T len ≤ 11200 := by
  unfold jJ
  split
  · have : (len + T - 1) / (H + T) ≤ len + T - 1 := Int.ediv_le_self _ (by omega)
    omega
  · omega
def bridgeD (H L T x y : Int) : List S47 × Int :=
  if jJ H T (y - x) > 199 ∨ (jJ H T (y - x) > 0 ∧ T = 0) ∨ y - x < (jJ H T (y - x) : Int) + 1 + jJ H T (y - x) * L then ([], 20) else (cutF H L T y (jJ H T (y - x)) x, 0)
theorem bridge_inv {H L T x y : Int} (b : Bd H L T y) (hx : 0 ≤ x) (hl : 1 ≤ y - x) (hc : ¬ (jJ H T (y - x) > 199 ∨ (jJ H T (y - x) > 0 ∧ T = 0) ∨ y - x < (jJ H T (y - x) : Int) + 1 + jJ H T (y - x) * L)) : Inv H L T y (jJ H T (y - x)) x := by
  have := jJ_up (T := T) b.h1 (by have := b.l0; have := b.lt; omega) hl
  refine ⟨by omega, this, hx, by omega⟩
theorem pbridge_j {H L T x y : Int} (b : Bd H L T y) (hx : 0 ≤ x) (hl : 1 ≤ y - x) (hl2 : y - x ≤ 10000) : Ev (fun k => punch_Bridge.j0 k (y - x) ((jJ H T (y - x) : Int) + 1) x y 1 H L T) (bridgeD H L T x y) := by
  have b0 := b.l0
  have b1 := b.lt
  have b2 := b.t2
  have hj := jJ_le (H := H) (T := T) b.h1 (by omega) b2 hl hl2
  have a1 : 0 ≤ (jJ H T (y - x) : Int) * L := Int.mul_nonneg (by omega) b0
  have a2 : (jJ H T (y - x) : Int) * L ≤ 11200 * 1200 := Int.mul_le_mul (by omega) (by omega) b0 (by omega)
  have inv := fun hc => bridge_inv b hx hl hc
  obtain ⟨J, hJ⟩ : ∃ J, J = jJ H T (y - x) := ⟨_, rfl⟩
  have eD : bridgeD H L T x y = if J > 199 ∨ (J > 0 ∧ T = 0) ∨ y - x < (J : Int) + 1 + J * L then ([], 20) else (cutF H L T y J x, 0) := by rw [hJ]; rfl
  rw [eD]
  rw [← hJ] at hj a1 a2 inv ⊢
  have e1 : ∀ k, punch_Bridge.j1 (k + 1) ((J : Int) + 1) true x y 1 H L T = some ([], 20) := fun k => by rw [punch_Bridge.j1, if_pos rfl]
  have e2 : wrap64 (((J : Int) + 1) + wrap64 (wrap64 (((J : Int) + 1) - 1) * L)) = (J : Int) + 1 + J * L := by
    rw [w_id (x := (J : Int) + 1 - 1) (by omega) (by omega), show (J : Int) + 1 - 1 = J by omega, w_id (x := (J : Int) * L) (by omega) (by omega), w_id (by omega) (by omega)]
  have e3 : ∀ k, punch_Bridge.j0 (k + 1) (y - x) ((J : Int) + 1) x y 1 H L T = if J > 199 ∨ (J > 0 ∧ T = 0) then punch_Bridge.j1 k ((J : Int) + 1) true x y 1 H L T else punch_Bridge.j1 k ((J : Int) + 1) (decide (y - x < (J : Int) + 1 + J * L)) x y 1 H L T := fun k => by
    rw [punch_Bridge.j0, e2]
    by_cases c1 : J > 199
    · rw [if_pos (by omega), if_pos (.inl c1)]
    · rw [if_neg (by omega)]
      by_cases c2 : J > 0
      · rw [if_pos (by omega)]
        by_cases c3 : T = 0
        · rw [if_pos c3, if_pos (.inr ⟨c2, c3⟩)]
        · rw [if_neg c3, if_neg (by rintro (h | h); omega; exact c3 h.2)]
      · rw [if_neg (by omega), if_neg (by rintro (h | h); omega; omega)]
  refine Ev.step e3 ?_
  by_cases c : J > 199 ∨ (J > 0 ∧ T = 0)
  · simp only [if_pos c]
    rw [if_pos (by rcases c with c | c; exact .inl c; exact .inr (.inl c))]
    exact Ev.step (f := fun _ => some ([], 20)) e1 (Ev.now _)
  · simp only [if_neg c]
    by_cases c2 : y - x < (J : Int) + 1 + J * L
    · rw [if_pos (.inr (.inr c2))]
      simp only [decide_eq_true c2]
      exact Ev.step (f := fun _ => some ([], 20)) e1 (Ev.now _)
    · have hc : ¬ (J > 199 ∨ (J > 0 ∧ T = 0) ∨ y - x < (J : Int) + 1 + J * L) := by
        rintro (h | h | h)
        · exact c (.inl h)
        · exact c (.inr h)
        · exact c2 h
      rw [if_neg hc]
      simp only [decide_eq_false c2]
      refine Ev.step (f := fun k => punch_Bridge.l0 k [] x J x y 1 H L T) (fun k => ?_) ?_
      · rw [punch_Bridge.j1, if_neg (by decide), w_id (x := (J : Int) + 1 - 1) (by omega) (by omega), show (J : Int) + 1 - 1 = J by omega]
      · have := pbridge_l0 (fr := x) b J x [] (inv hc) (by simp; omega)
        simpa using this
def bridgeR (a b c d e x y : Int) : List S47 × Int := if (barsR a b c d e).2.2.2.2 = 0 then (if good ⟨x, y⟩ = true ∧ y - x ≤ 10000 then bridgeD (barsR a b c d e).2.1 (barsR a b c d e).2.2.1 (barsR a b c d e).2.2.2.1 x y else ([], 3)) else ([], (barsR a b c d e).2.2.2.2)
theorem good_iff {x y : Int} : good ⟨x, y⟩ = true ↔ 0 ≤ x ∧ x < y ∧ y ≤ 1000000 := by
  unfold good
  simp only [Bool.and_eq_true, decide_eq_true_eq]
  omega
theorem bd_of {a b c d e x y : Int} (h : (barsR a b c d e).2.2.2.2 = 0) (hg : good ⟨x, y⟩ = true) : Bd (barsR a b c d e).2.1 (barsR a b c d e).2.2.1 (barsR a b c d e).2.2.2.1 y := by
  obtain ⟨h1, h2, h3, h4, h5, h6⟩ := barsR_ok h
  have := good_iff.1 hg
  exact ⟨h2, h3, h4, h5, h6, by omega⟩
theorem Bridge_f (a b c d e x y : Int) (wx : (Lit.int .i64 x).wf = true) (wy : (Lit.int .i64 y).wf = true) : Ev (fun k => punch_Bridge.f k a b c d e x y) (bridgeR a b c d e x y) := by
  unfold punch_Bridge.f bridgeR
  simp only [Bars_f, Option.bind_some]
  by_cases h : (barsR a b c d e).2.2.2.2 = 0
  · simp only [if_pos h, show punch_Slot_good.f x y = some (good ⟨x, y⟩) from good_f ⟨x, y⟩, Option.bind_some]
    by_cases hg : good ⟨x, y⟩ = true
    · have hg' := good_iff.1 hg
      have bd := bd_of h hg
      have h1 := (barsR_ok h).1
      simp only [if_pos hg, w_id (x := y - x) (by omega) (by omega), h1]
      by_cases hl : y - x > 10000
      · rw [if_neg (fun h => by omega)]
        simp only [if_pos hl]
        exact Ev.now _
      · rw [if_pos ⟨hg, by omega⟩]
        simp only [if_neg hl]
        have := pbridge_j bd hg'.1 (by omega) (by omega)
        obtain ⟨H, hH⟩ : ∃ H, H = (barsR a b c d e).2.1 := ⟨_, rfl⟩
        obtain ⟨L, hL⟩ : ∃ L, L = (barsR a b c d e).2.2.1 := ⟨_, rfl⟩
        obtain ⟨T, hT⟩ : ∃ T, T = (barsR a b c d e).2.2.2.1 := ⟨_, rfl⟩
        rw [← hH, ← hL, ← hT] at this bd
        simp only [← hH, ← hL, ← hT]
        have b0 := bd.l0
        have b1 := bd.lt
        have b2 := bd.t2
        have b3 := bd.h1
        have b4 := bd.h2
        by_cases hc : y - x > H
        · have q0 : 0 ≤ (y - x + T - 1) / (H + T) := Int.ediv_nonneg (by omega) (by omega)
          have q1 : (y - x + T - 1) / (H + T) ≤ y - x + T - 1 := Int.ediv_le_self _ (by omega)
          have ej : ((jJ H T (y - x) : Nat) : Int) + 1 = wrap64 (1 + wrap64 (Int.tdiv (wrap64 (wrap64 (wrap64 (wrap64 (y - x - H) + H) + T) - 1)) (wrap64 (H + T)))) := by
            rw [w_id (x := y - x - H) (by omega) (by omega), w_id (x := y - x - H + H) (by omega) (by omega), w_id (x := y - x - H + H + T) (by omega) (by omega), w_id (x := y - x - H + H + T - 1) (by omega) (by omega), w_id (x := H + T) (by omega) (by omega), show y - x - H + H + T - 1 = y - x + T - 1 by omega, Int.tdiv_eq_ediv_of_nonneg (by omega), w_id (x := (y - x + T - 1) / (H + T)) (by omega) (by omega), w_id (by omega) (by omega)]
            unfold jJ
            rw [if_pos hc, Int.toNat_of_nonneg q0]
            omega
          simp only [if_pos hc, if_neg (show ¬ wrap64 (H + T) = 0 by rw [w_id (by omega) (by omega)]; omega), ← ej]
          exact this
        · simp only [if_neg hc]
          have ej : jJ H T (y - x) = 0 := by unfold jJ; rw [if_neg hc]
          rw [ej] at this
          exact this
    · simp only [if_neg hg]
      rw [if_neg (fun h => hg h.1)]
      exact Ev.now _
  · simp only [if_neg h]
    exact Ev.now _
end Go.Proofs.Ytegffliopblajaa.P
end
section
namespace Go.Proofs.Ytegffliopblajaa.P
open Go.RowKit Go.Proofs.YtegffliopblajaaW.PrintWords Go.Proofs.YtegffliopblajaaW.PrintLast Go.Proofs.YtegffliopblajaaW.PrintMore
set_option linter.unusedVariables false
set_option linter.unusedSimpArgs false
theorem mx_max (a b : Int) : mx a b = max a b := by unfold mx; omega
end Go.Proofs.Ytegffliopblajaa.P
end
section
namespace Go.Proofs.Ytegffliopblajaa.P
open Go.RowKit Go.Proofs.YtegffliopblajaaW.PrintWords Go.Proofs.YtegffliopblajaaW.PrintLast Go.Proofs.YtegffliopblajaaW.PrintMore
set_option linter.unusedVariables false
set_option linter.unusedSimpArgs false
def st (rest : Int) (l : List S47) (r : Nat) : List Int := fillL rest l ((ordL l).take r) (List.replicate 40 (-1))
end Go.Proofs.Ytegffliopblajaa.P
end
section
namespace Go.Proofs.Ytegffliopblajaa.P
open Go.RowKit Go.Proofs.YtegffliopblajaaW.PrintWords Go.Proofs.YtegffliopblajaaW.PrintLast Go.Proofs.YtegffliopblajaaW.PrintMore
set_option linter.unusedVariables false
set_option linter.unusedSimpArgs false
def DB (H M T : Int) (j : Nat) (n : Int) : Bool := decide ((j : Int) + 1 + j * M ≤ n ∧ n ≤ j * H + H + j * T ∧ (j = 0 ∨ M ≤ T))
theorem DB_iff {H M T : Int} {j : Nat} {n : Int} : DB H M T j n = true ↔ (j : Int) + 1 + j * M ≤ n ∧ n ≤ j * H + H + j * T ∧ (j = 0 ∨ M ≤ T) := by unfold DB; exact decide_eq_true_iff
theorem DB_pos {H M T : Int} (hM : 1 ≤ M) {j : Nat} {n : Int} (h : DB H M T j n = true) : 1 ≤ n := by
  have := DB_iff.1 h
  have a : 0 ≤ (j : Int) * M := Int.mul_nonneg (by omega) (by omega)
  omega
theorem DB_succ {H M T : Int} (hH : 1 ≤ H) (hM : 1 ≤ M) {j : Nat} {n : Int} : DB H M T (j + 1) n = true ↔ ∃ h w : Int, 1 ≤ h ∧ h ≤ H ∧ M ≤ w ∧ w ≤ T ∧ DB H M T j (n - h - w) = true := by
  have a1 := mul_s j M
  have a2 := mul_s j H
  have a3 := mul_s j T
  have b1 := mul_1 (n := j) hH
  constructor
  · intro h
    obtain ⟨h1, h2, h3⟩ := DB_iff.1 h
    rw [a1] at h1
    rw [a2, a3] at h2
    have hMT : M ≤ T := by rcases h3 with h3 | h3; · omega
                           · exact h3
    have b2 := mul_m (n := j) hMT
    have b3 : 0 ≤ (j : Int) * M := Int.mul_nonneg (by omega) (by omega)
    obtain ⟨X, hX⟩ : ∃ X, X = (j : Int) * M := ⟨_, rfl⟩
    rw [← hX] at h1 b2 b3
    obtain ⟨hh, eh⟩ : ∃ hh, hh = min H (n - ((j : Int) + 1 + X) - M) := ⟨_, rfl⟩
    obtain ⟨w, ew⟩ : ∃ w, w = min T (n - hh - ((j : Int) + 1 + X)) := ⟨_, rfl⟩
    refine ⟨hh, w, by omega, by omega, by omega, by omega, DB_iff.2 ⟨?_, ?_, .inr hMT⟩⟩
    · rw [← hX]; omega
    · omega
  · rintro ⟨h, w, h1, h2, h3, h4, h5⟩
    obtain ⟨h6, h7, _⟩ := DB_iff.1 h5
    refine DB_iff.2 ⟨?_, ?_, .inr (by omega)⟩
    · rw [a1]; omega
    · rw [a2, a3]; omega
section
variable {H L T : Int} (hH1 : 1 ≤ H) (hH2 : H ≤ 1200) (hL1 : 0 ≤ L) (hL2 : L ≤ 1200) (hT1 : 0 ≤ T) (hT2 : T ≤ 1200)
include hH1 hH2 hL1 hL2 hT1 hT2
theorem div_l1 {j : Nat} {n : Int} (hj : j ≤ 100) (hn1 : 1 ≤ n) (hn2 : n ≤ 5000) {r : Bool} {h : Int} (h1 : 1 ≤ h) (h2 : h ≤ H) (h3 : h < n)
  (ih : ∀ m : Int, 1 ≤ m → m ≤ 5000 → Ev (fun k => pianolalaw03_divided.f k 1 H L T m ((j + 1 : Nat) : Int)) (DB H (max 1 L) T j m))
  (hr : ∀ w : Int, max 1 L ≤ w → w ≤ T → DB H (max 1 L) T j (n - h - w) = true → r = true)
  (go : (∀ w : Int, max 1 L ≤ w → w ≤ T → DB H (max 1 L) T j (n - h - w) = false) → Ev (fun k => pianolalaw03_divided.l0 k n ((j + 2 : Nat) : Int) (h + 1) 1 H L T) r) :
  ∀ (m : Nat) (w : Int), w + m = max (T + 1) (max 1 L) → max 1 L ≤ w → (∀ w' : Int, max 1 L ≤ w' → w' < w → DB H (max 1 L) T j (n - h - w') = false) → Ev (fun k => pianolalaw03_divided.l1 k n ((j + 2 : Nat) : Int) h w 1 H L T) r
 | m, w, hw, hw1, hf => by
  by_cases c : w ≤ T ∧ h + w < n
  ·
   obtain ⟨m, rfl⟩ : ∃ m', m = m' + 1 := ⟨m - 1, by omega⟩
   have e1 : ∀ k, pianolalaw03_divided.l1 (k + 1) n ((j + 2 : Nat) : Int) h w 1 H L T = pianolalaw03_divided.j3 k n ((j + 2 : Nat) : Int) h w true 1 H L T := fun k => by
    rw [pianolalaw03_divided.l1, if_pos c.1, decide_eq_true (by rw [w_id (by omega) (by omega)]; exact c.2)]
   have e2 : ∀ k, pianolalaw03_divided.j3 (k + 1) n ((j + 2 : Nat) : Int) h w true 1 H L T = ((pianolalaw03_divided.f k 1 H L T (n - h - w) ((j + 1 : Nat) : Int)).bind fun t => if t = true then some true else pianolalaw03_divided.l1 k n ((j + 2 : Nat) : Int) h (w + 1) 1 H L T) := fun k => by
    rw [pianolalaw03_divided.j3, if_pos rfl, w_id (x := n - h) (by omega) (by omega), w_id (x := n - h - w) (by omega) (by omega), w_id (x := ((j + 2 : Nat) : Int) - 1) (by omega) (by omega), w_id (x := w + 1) (by omega) (by omega), show ((j + 2 : Nat) : Int) - 1 = ((j + 1 : Nat) : Int) by omega]
   refine Ev.step e1 (Ev.step e2 (Ev.bind (ih (n - h - w) (by omega) (by omega)) ?_))
   cases hd : DB H (max 1 L) T j (n - h - w) with
   | true =>
    simp only [if_true]
    rw [hr w hw1 c.1 hd]
    exact Ev.now _
   | false =>
    simp only [Bool.false_eq_true, if_false]
    exact div_l1 hj hn1 hn2 h1 h2 h3 ih hr go m (w + 1) (by omega) (by omega) (fun w' h4 h5 => by
     rcases Int.lt_or_le w' w with h6 | h6
     ·
      exact hf w' h4 h6
     ·
      obtain rfl : w' = w := by omega
      exact hd)
  ·
   have e1 : ∀ k, pianolalaw03_divided.l1 (k + 1) n ((j + 2 : Nat) : Int) h w 1 H L T = pianolalaw03_divided.j3 k n ((j + 2 : Nat) : Int) h w false 1 H L T := fun k => by
    rw [pianolalaw03_divided.l1]
    by_cases c1 : w ≤ T
    ·
     rw [if_pos c1, decide_eq_false (by rw [w_id (by omega) (by omega)]; exact fun c2 => c ⟨c1, c2⟩)]
    ·
     rw [if_neg c1]
   refine Ev.step e1 (Ev.step (fun k => by rw [pianolalaw03_divided.j3, if_neg (by decide), w_id (x := h + 1) (by omega) (by omega)]) (go (fun w' h4 h5 => ?_)))
   rcases Int.lt_or_le w' w with h6 | h6
   ·
    exact hf w' h4 h6
   ·
    rw [← Bool.not_eq_true]
    intro hd
    have := DB_pos (by omega) hd
    exact c ⟨by omega, by omega⟩
theorem div_l0 {j : Nat} {n : Int} (hj : j ≤ 100) (hn1 : 1 ≤ n) (hn2 : n ≤ 5000)
    (ih : ∀ m : Int, 1 ≤ m → m ≤ 5000 → Ev (fun k => pianolalaw03_divided.f k 1 H L T m ((j + 1 : Nat) : Int)) (DB H (max 1 L) T j m)) :
    ∀ (m : Nat) (h : Int), h + m = H + 1 → 1 ≤ h → (∀ h' w : Int, 1 ≤ h' → h' < h → max 1 L ≤ w → w ≤ T → DB H (max 1 L) T j (n - h' - w) = false) → Ev (fun k => pianolalaw03_divided.l0 k n ((j + 2 : Nat) : Int) h 1 H L T) (DB H (max 1 L) T (j + 1) n)
  | m, h, hm, h1, hf => by
    by_cases c : h ≤ H ∧ h < n
    · obtain ⟨m, rfl⟩ : ∃ m', m = m' + 1 := ⟨m - 1, by omega⟩
      refine Ev.step (f := fun k => pianolalaw03_divided.j1 k n ((j + 2 : Nat) : Int) h true 1 H L T) (fun k => by rw [pianolalaw03_divided.l0, if_pos c.1, decide_eq_true c.2]) ?_
      refine Ev.step (fun k => by rw [pianolalaw03_divided.j1, if_pos rfl, mx_max]) ?_
      refine div_l1 hH1 hH2 hL1 hL2 hT1 hT2 hj hn1 hn2 h1 c.1 c.2 ih (fun w h4 h5 h6 => (DB_succ hH1 (by omega)).2 ⟨h, w, h1, c.1, h4, h5, h6⟩) (fun hn => ?_) ((max (T + 1) (max 1 L)) - max 1 L).toNat (max 1 L) (by omega) (Int.le_refl _) (fun w' h4 h5 => by omega)
      refine div_l0 hj hn1 hn2 ih m (h + 1) (by omega) (by omega) (fun h' w h4 h5 h6 h7 => ?_)
      rcases Int.lt_or_le h' h with h8 | h8
      · exact hf h' w h4 h8 h6 h7
      · obtain rfl : h' = h := by omega
        exact hn w h6 h7
    · have hd : DB H (max 1 L) T (j + 1) n = false := by
        rw [← Bool.not_eq_true]
        intro hd
        obtain ⟨h', w, h4, h5, h6, h7, h8⟩ := (DB_succ hH1 (by omega)).1 hd
        have := DB_pos (by omega) h8
        have h9 : ¬ h' < h := fun h9 => by rw [hf h' w h4 h9 h6 h7] at h8; cases h8
        exact c ⟨by omega, by omega⟩
      rw [hd]
      refine Ev.step (f := fun k => pianolalaw03_divided.j1 k n ((j + 2 : Nat) : Int) h false 1 H L T) (fun k => ?_) (Ev.step (f := fun _ => some false) (fun k => by rw [pianolalaw03_divided.j1, if_neg (by decide)]) (Ev.now _))
      rw [pianolalaw03_divided.l0]
      by_cases c1 : h ≤ H
      · rw [if_pos c1, decide_eq_false (fun c2 => c ⟨c1, c2⟩)]
      · rw [if_neg c1]
theorem div_f : ∀ (j : Nat) (n : Int), j ≤ 100 → 1 ≤ n → n ≤ 5000 → Ev (fun k => pianolalaw03_divided.f k 1 H L T n ((j + 1 : Nat) : Int)) (DB H (max 1 L) T j n)
  | 0, n, _, h1, h2 => by
    refine Ev.step (f := fun _ => some (DB H (max 1 L) T 0 n)) (fun k => ?_) (Ev.now _)
    rw [pianolalaw03_divided.f, if_pos (by omega), if_pos h1]
    congr 1
    unfold DB
    exact decide_eq_decide.2 ⟨fun h => ⟨by omega, by omega, .inl rfl⟩, fun h => by have := h.2.1; omega⟩
  | j + 1, n, hj, h1, h2 => by
    refine Ev.step (fun k => ?_) (div_l0 hH1 hH2 hL1 hL2 hT1 hT2 (j := j) (n := n) (by omega) h1 h2 (fun m h3 h4 => div_f j m (by omega) h3 h4) H.toNat 1 (by omega) (Int.le_refl _) (fun h' w h3 h4 => by omega))
    rw [pianolalaw03_divided.f, if_neg (by omega)]
end
structure Cut (H L T tq : Int) (n : Nat) (p : Int) (l : List S47) : Prop where
  len : l.length = n + 1
  first : (rd_T47 l 0).f0 = p
  last : (rd_T47 l (n : Nat)).f1 = tq
  each : ∀ i : Nat, i < n + 1 → p ≤ (rd_T47 l (i : Nat)).f0 ∧ (rd_T47 l (i : Nat)).f0 < (rd_T47 l (i : Nat)).f1 ∧ (rd_T47 l (i : Nat)).f1 - (rd_T47 l (i : Nat)).f0 ≤ H ∧ (rd_T47 l (i : Nat)).f1 ≤ tq
  gaps : ∀ i : Nat, i < n → L ≤ (rd_T47 l (i + 1 : Nat)).f0 - (rd_T47 l (i : Nat)).f1 ∧ (rd_T47 l (i + 1 : Nat)).f0 - (rd_T47 l (i : Nat)).f1 ≤ T
theorem cons0 (x : S47) (l : List S47) : rd_T47 (x :: l) ((0 : Nat) : Int) = x := rfl
theorem consS (x : S47) (l : List S47) (i : Nat) : rd_T47 (x :: l) ((i + 1 : Nat) : Int) = rd_T47 l (i : Nat) := by
  unfold rd_T47
  rw [Int.toNat_natCast, Int.toNat_natCast]; rfl
theorem cut_cut {H L T tq : Int} (b : Bd H L T tq) : ∀ (n : Nat) (p : Int), Inv H L T tq n p → Cut H L T tq n p (cutF H L T tq n p)
  | 0, p, v => by
    have hb := h_bd b v
    have e : hF H L tq 0 p = tq - p := by
      unfold hF
      have := v.hi
      omega
    rw [cutF]
    refine ⟨rfl, rfl, ?_, fun i hi => ?_, fun i hi => by omega⟩
    · rw [cons0]; dsimp only; omega
    · obtain rfl : i = 0 := by omega
      rw [cons0]; dsimp only; omega
  | n + 1, p, v => by
    have hb := h_bd b v
    obtain ⟨w1, w2, w3, w4⟩ := w_bd b v
    have ih := cut_cut b n _ w4
    have i4 := w4.lo
    have hz : 0 ≤ (n : Int) * L := Int.mul_nonneg (by omega) b.l0
    have hL := b.l0
    rw [cutF]
    refine ⟨by rw [List.length_cons, ih.len], rfl, by rw [consS]; exact ih.last, fun i hi => ?_, fun i hi => ?_⟩
    · match i, hi with
      | 0, _ => rw [cons0]; dsimp only; omega
      | i + 1, hi =>
        rw [consS]
        have := ih.each i (by omega)
        omega
    · match i, hi with
      | 0, _ =>
        have h0 := ih.first
        rw [consS, cons0]
        dsimp only
        rw [show ((0 : Nat) : Int) = 0 from rfl, h0]
        omega
      | i + 1, hi =>
        rw [consS, consS]
        exact ih.gaps i (by omega)
theorem cut_holds {a b c d e x y : Int} {n : Nat} {l : List S47} (h : paperOk a b c d e = true) (hg : good ⟨x, y⟩ = true) (hn : n ≤ 199) {L T : Int} (hc : Cut (barHi b c) L T y n x l) (hLT : n = 0 ∨ (L = barLo a d ∧ T = barTo b e)) : holdsR a b c d e x y l = 0 := by
 have hp := paperOk_iff.1 h
 obtain ⟨q1, q2, q3, q4, q5⟩ := bar_bounds h
 have hxy := good_iff.1 hg
 have hl := hc.len
 unfold holdsR
 have g1 : (List.range' 0 l.length).any (fun i => !good (rd_T47 l (i : Nat))) = false := by
  rw [List.any_eq_false]
  intro i hi
  have hi := (List.mem_range'_1.1 hi).2
  have := hc.each i (by omega)
  have hgi : good (rd_T47 l (i : Nat)) = true := by
   unfold good
   simp only [Bool.and_eq_true, decide_eq_true_eq]
   omega
  rw [hgi]; decide
 have g2 : (List.range' 0 (l.length - 1)).any (badGap l) = false := by
  rw [List.any_eq_false]
  intro i hi
  have hi := (List.mem_range'_1.1 hi).2
  have := hc.gaps i (by omega)
  unfold badGap
  rw [decide_eq_true_iff]
  rcases hLT with h0 | ⟨h0, _⟩
  ·
   omega
  ·
   omega
 have g3 : (List.range' 0 l.length).any (badRule a b c d e l) = false := by
  rw [List.any_eq_false]
  intro i hi
  have hi := (List.mem_range'_1.1 hi).2
  have h1 := hc.each i (by omega)
  unfold badRule
  obtain ⟨z, hz⟩ : ∃ z, z = (rd_T47 l (i : Nat)).f1 - (rd_T47 l (i : Nat)).f0 := ⟨_, rfl⟩
  have ez : z * b ≤ 1000 * c := (Int.le_ediv_iff_mul_le (by omega)).1 (show z ≤ 1000 * c / b by unfold barHi at h1; omega)
  have ez0 : 0 ≤ z * b := Int.mul_nonneg (by omega) (by omega)
  have b1 : decide (wrap64 (wrap64 ((rd_T47 l (i : Nat)).f1 - (rd_T47 l (i : Nat)).f0) * b) > wrap64 (1000 * c)) = false := by
   rw [← hz, w_id (x := z) (by omega) (by omega), w_id (x := z * b) (by omega) (by omega), w_id (x := 1000 * c) (by omega) (by omega)]
   exact decide_eq_false (by omega)
  rw [b1, Bool.false_or]
  by_cases c0 : 0 < i
  ·
   rcases hLT with h0 | ⟨hL, hT⟩
   ·
    omega
   ·
    have h2 := hc.gaps (i - 1) (by omega)
    rw [show i - 1 + 1 = i by omega] at h2
    obtain ⟨u, hu⟩ : ∃ u, u = (rd_T47 l (i : Nat)).f0 - (rd_T47 l (i - 1 : Nat)).f1 := ⟨_, rfl⟩
    rw [← hu, hL, hT] at h2
    have u1 := (lo_iff (a := a) (d := d) (by omega) (n := u)).2 h2.1
    have u2 := (to_iff (b := b) (e := e) (by omega) (n := u)).2 h2.2
    have m3 : 0 ≤ u * a := Int.mul_nonneg (by omega) (by omega)
    have m4 : u * a ≤ 1200 * 1100 := Int.mul_le_mul (by omega) (by omega) (by omega) (by omega)
    have m5 : 0 ≤ u * b := Int.mul_nonneg (by omega) (by omega)
    rw [← hu, w_id (x := u) (by omega) (by omega), w_id (x := u * a) (by omega) (by omega), w_id (x := u * b) (by omega) (by omega), w_id (x := 1000 * d) (by omega) (by omega), w_id (x := 1000 * e) (by omega) (by omega), decide_eq_false (show ¬ u * a < 1000 * d by omega), decide_eq_false (show ¬ u * b ≥ 1000 * e by omega)]
    simp
  ·
   rw [decide_eq_false c0]; simp
 have e0 : (rd_T47 l 0).f0 = x ∧ (rd_T47 l (l.length - 1 : Nat)).f1 = y := ⟨hc.first, by rw [show l.length - 1 = n by omega]; exact hc.last⟩
 rw [if_pos ⟨h, hg⟩, if_neg (by omega), if_neg (by omega), g1, if_neg (by decide), if_pos e0, g2, if_neg (by decide), g3, if_neg (by decide)]
end Go.Proofs.Ytegffliopblajaa.P
end
section
namespace Go.Proofs.Ytegffliopblajaa.P
open Go.RowKit Go.Proofs.YtegffliopblajaaW.PrintWords Go.Proofs.YtegffliopblajaaW.PrintLast Go.Proofs.YtegffliopblajaaW.PrintMore
set_option linter.unusedVariables false
set_option linter.unusedSimpArgs false
theorem DB_low {H M T : Int} (h1 : 1 ≤ H) (h2 : 0 ≤ T) {n : Int} (h3 : 1 ≤ n) {j : Nat} (hj : j < jJ H T n) : DB H M T j n = false := by
  rw [← Bool.not_eq_true, DB_iff]
  rintro ⟨_, h, _⟩
  exact jJ_min h1 h2 h3 hj h
theorem DB_min {H M T : Int} (h1 : 1 ≤ H) (hM : 1 ≤ M) (h2 : 0 ≤ T) {n : Int} (h3 : 1 ≤ n) {j : Nat} (h : DB H M T j n = true) : DB H M T (jJ H T n) n = true := by
  obtain ⟨a, b, c⟩ := DB_iff.1 h
  have hj : jJ H T n ≤ j := by
    rcases Nat.lt_or_ge j (jJ H T n) with h4 | h4
    · exact absurd b (jJ_min h1 h2 h3 h4)
    · exact h4
  have hm : (jJ H T n : Int) * M ≤ (j : Int) * M := Int.mul_le_mul_of_nonneg_right (by omega) (by omega)
  exact DB_iff.2 ⟨by omega, jJ_up h1 h2 h3, by
    rcases c with c | c
    · exact .inl (by omega)
    · exact .inr c⟩
theorem bridge_yes {H L T n x : Int} (h1 : 1 ≤ H) (h2 : 0 ≤ T) (hL : 0 ≤ L) (h3 : 1 ≤ n) (h4 : n ≤ 26) (h : DB H (max 1 L) T (jJ H T n) n = true) : jJ H T n ≤ 12 ∧ (jJ H T n = 0 ∨ max 1 L ≤ T) ∧ bridgeD H L T x (x + n) = (cutF H L T (x + n) (jJ H T n) x, 0) ∧ (jJ H T n : Int) + 1 + jJ H T n * (max 1 L) ≤ n := by
  obtain ⟨a, b, c⟩ := DB_iff.1 h
  have m1 : (jJ H T n : Int) ≤ jJ H T n * (max 1 L) := mul_1 (by omega)
  have m2 : (jJ H T n : Int) * L ≤ jJ H T n * (max 1 L) := mul_m (by omega)
  refine ⟨by omega, c, ?_, a⟩
  unfold bridgeD
  rw [show x + n - x = n by omega, if_neg (by omega)]
theorem bridge_no {H L T n x : Int} (h1 : 1 ≤ H) (h2 : 0 ≤ T) (hLT : T = 0 ∨ 1 ≤ L) (hle : L ≤ T) (h3 : 1 ≤ n) (h : DB H (max 1 L) T (jJ H T n) n = false) : bridgeD H L T x (x + n) = ([], 20) := by
  unfold bridgeD
  rw [show x + n - x = n by omega]
  refine if_pos ?_
  rw [← Bool.not_eq_true, DB_iff] at h
  have hu := jJ_up h1 h2 h3
  refine Classical.byContradiction fun c => h ⟨?_, hu, by omega⟩
  rcases hLT with e | e
  · have h0 : jJ H T n = 0 := by omega
    rw [h0]; omega
  · rw [show max 1 L = L by omega]; omega
section
variable {H L T : Int} (hH1 : 1 ≤ H) (hH2 : H ≤ 1200) (hL1 : 0 ≤ L) (hL2 : L ≤ 1200) (hT1 : 0 ≤ T) (hT2 : T ≤ 1200)
include hH1 hH2 hL1 hL2 hT1 hT2
theorem first_l2 {n : Int} (h3 : 1 ≤ n) (h4 : n ≤ 26) {q : Nat} (hq : q ≤ 12) (l : List S47) {h : Int} (ho : n - h < (q : Int) + 1 + (q * (max 1 L) + max 1 L)) (hh1 : 1 ≤ h) (hh2 : h ≤ 1200)
    (go : Ev (fun k => pianolalaw03_PunchFewest.l1 k n l ((q + 2 : Nat) : Int) (h - 1) 1 H L T) true) :
    ∀ (m : Nat) (w : Int), w + m = max (T + 1) (max 1 L) → max 1 L ≤ w → Ev (fun k => pianolalaw03_PunchFewest.l2 k n l ((q + 2 : Nat) : Int) h w 1 H L T) true
  | m, w, hm, hw => by
    by_cases c : w ≤ T
    · obtain ⟨m, rfl⟩ : ∃ m', m = m' + 1 := ⟨m - 1, by omega⟩
      have rec_ := first_l2 h3 h4 hq l ho hh1 hh2 go m (w + 1) (by omega) (by omega)
      by_cases c1 : n - h - w ≥ 1
      · have hd : DB H (max 1 L) T q (n - h - w) = false := by
          rw [← Bool.not_eq_true, DB_iff]
          rintro ⟨h5, _⟩
          omega
        have hf := div_f hH1 hH2 hL1 hL2 hT1 hT2 q (n - h - w) (by omega) c1 (by omega)
        rw [hd] at hf
        refine Ev.step (f := fun k => (pianolalaw03_divided.f k 1 H L T (n - h - w) ((q + 1 : Nat) : Int)).bind fun t => if t = true then some false else pianolalaw03_PunchFewest.l2 k n l ((q + 2 : Nat) : Int) h (w + 1) 1 H L T) (fun k => ?_) (Ev.bind hf ?_)
        · rw [pianolalaw03_PunchFewest.l2, if_pos c, w_id (x := n - h) (by omega) (by omega), w_id (x := n - h - w) (by omega) (by omega), if_pos c1, w_id (x := ((q + 2 : Nat) : Int) - 1) (by omega) (by omega), w_id (x := w + 1) (by omega) (by omega), show ((q + 2 : Nat) : Int) - 1 = ((q + 1 : Nat) : Int) by omega]
        · simp only [Bool.false_eq_true, if_false]
          exact rec_
      · refine Ev.step (fun k => ?_) rec_
        rw [pianolalaw03_PunchFewest.l2, if_pos c, w_id (x := n - h) (by omega) (by omega), w_id (x := n - h - w) (by omega) (by omega), if_neg c1, w_id (x := w + 1) (by omega) (by omega)]
    · refine Ev.step (fun k => ?_) go
      rw [pianolalaw03_PunchFewest.l2, if_neg c, w_id (x := h - 1) (by omega) (by omega)]
theorem first_l1 {n : Int} (h3 : 1 ≤ n) (h4 : n ≤ 26) {q : Nat} (hq : q ≤ 12) (l : List S47) (h0 : 0 < l.length) {z : Int} (hz : wrap64 ((rd_T47 l 0).f1 - (rd_T47 l 0).f0) = z) (hz1 : 1 ≤ z) (ho : z < H → n - z ≤ (q : Int) + 1 + (q * (max 1 L) + max 1 L)) (hzH : z ≤ H) :
    ∀ (m : Nat) (h : Int), h = z + m → h ≤ H → Ev (fun k => pianolalaw03_PunchFewest.l1 k n l ((q + 2 : Nat) : Int) h 1 H L T) true
  | 0, h, hm, hhH => by
    refine Ev.step (f := fun k => pianolalaw03_PunchFewest.j4 k n l ((q + 2 : Nat) : Int) h false 1 H L T) (fun k => ?_) (Ev.step (f := fun _ => some true) (fun k => ?_) (Ev.now _))
    · rw [pianolalaw03_PunchFewest.l1, if_pos (by omega), if_pos (by omega), hz, decide_eq_false (by omega)]
    · rw [pianolalaw03_PunchFewest.j4, if_neg (by decide)]
      rfl
  | m + 1, h, hm, hhH => by
    refine Ev.step (f := fun k => pianolalaw03_PunchFewest.j4 k n l ((q + 2 : Nat) : Int) h true 1 H L T) (fun k => ?_) (Ev.step (fun k => ?_) (first_l2 hH1 hH2 hL1 hL2 hT1 hT2 h3 h4 hq l (h := h) (by have := ho (by omega); omega) (by omega) (by omega) (first_l1 h3 h4 hq l h0 hz hz1 ho hzH m (h - 1) (by omega) (by omega)) (max (T + 1) (max 1 L) - max 1 L).toNat (max 1 L) (by omega) (Int.le_refl _)))
    · rw [pianolalaw03_PunchFewest.l1, if_pos (by omega), if_pos (by omega), hz, decide_eq_true (by omega)]
    · rw [pianolalaw03_PunchFewest.j4, if_pos rfl, mx_max]
theorem few_l0 {a b c d e : Int} {n : Int} (hLT : T = 0 ∨ 1 ≤ L) (hle : L ≤ T) (h3 : 1 ≤ n) (h4 : n ≤ 26) (hh : DB H (max 1 L) T (jJ H T n) n = true → holdsR a b c d e 3 (3 + n) (cutF H L T (3 + n) (jJ H T n) 3) = 0) :
  ∀ (m i : Nat), i + m = 14 → (∀ j : Nat, j < i → DB H (max 1 L) T j n = false) → Ev (fun k => pianolalaw03_PunchFewest.l0 k n (bridgeD H L T 3 (3 + n)).1 (bridgeD H L T 3 (3 + n)).2 ((i + 1 : Nat) : Int) a b c d e 1 H L T 3 (3 + n)) true
 | m, i, hm, hi => by
  by_cases c1 : i < 14
  ·
   obtain ⟨m, rfl⟩ : ∃ m', m = m' + 1 := ⟨m - 1, by omega⟩
   have hf := div_f hH1 hH2 hL1 hL2 hT1 hT2 i n (by omega) h3 (by omega)
   refine Ev.step (fun k => by rw [pianolalaw03_PunchFewest.l0, if_pos (by omega)]) (Ev.bind hf ?_)
   cases hd : DB H (max 1 L) T i n with
   | false =>
    simp only [Bool.false_eq_true, if_false]
    rw [show wrap64 (((i + 1 : Nat) : Int) + 1) = ((i + 1 + 1 : Nat) : Int) by unfold wrap64; omega]
    exact few_l0 hLT hle h3 h4 hh m (i + 1) (by omega) (fun j hj => by
     rcases Nat.lt_or_ge j i with h5 | h5
     ·
      exact hi j h5
     ·
      obtain rfl : j = i := by omega
      exact hd)
   | true =>
    have hJ := DB_min hH1 (by omega) hT1 h3 hd
    have eJ : jJ H T n = i := by
     rcases Nat.lt_trichotomy i (jJ H T n) with h5 | h5 | h5
     ·
      rw [DB_low hH1 hT1 h3 h5] at hd; cases hd
     ·
      exact h5.symm
     ·
      rw [hi _ h5] at hJ; cases hJ
    obtain ⟨b1, b2, b3, b4⟩ := bridge_yes (x := 3) hH1 hT1 hL1 h3 h4 hJ
    have hho := hh hJ
    rw [b3]
    dsimp only
    rw [eJ] at hho b1 b2 b4 ⊢
    simp only [if_true]
    rw [cut_len]
    simp only [if_true]
    have hH := Holds_f a b c d e 3 (3 + n) (cutF H L T (3 + n) i 3) (by rw [cut_len]; omega)
    rw [hho] at hH
    refine Ev.bind hH ?_
    rw [show ((0 : Int) != 0) = false by decide]
    refine Ev.step (fun k => by rw [pianolalaw03_PunchFewest.j2, if_neg (by decide)]) ?_
    match i, b2, b4, b1, hi, hd, eJ with
    | 0, b2, b4, b1, hi, hd, eJ =>
     refine Ev.step (f := fun k => pianolalaw03_PunchFewest.j4 k n (cutF H L T (3 + n) 0 3) ((0 + 1 : Nat) : Int) H false 1 H L T) (fun k => ?_) (Ev.step (f := fun _ => some true) (fun k => ?_) (Ev.now _))
     ·
      rw [pianolalaw03_PunchFewest.l1, if_neg (by omega)]
     ·
      rw [pianolalaw03_PunchFewest.j4, if_neg (by decide)]
      rfl
    | q + 1, b2, b4, b1, hi, hd, eJ =>
     have hLL : max 1 L = L := by omega
     have hq := mul_s q L
     rw [hLL, hq] at b4
     have qb : 0 ≤ (q : Int) * L := Int.mul_nonneg (by omega) hL1
     have ehF : hF H L (3 + n) (q + 1) 3 = min H (n - (((q + 1 : Nat) : Int) + ((q : Int) * L + L))) := by
      unfold hF
      rw [hq]
      omega
     obtain ⟨z, hz⟩ : ∃ z, z = hF H L (3 + n) (q + 1) 3 := ⟨_, rfl⟩
     rw [← hz] at ehF
     refine first_l1 hH1 hH2 hL1 hL2 hT1 hT2 h3 h4 (q := q) (by omega) _ (by rw [cut_len]; omega) (z := z) ?_ (by omega) (fun hlt => by rw [hLL]; omega) (by omega) (H - z).toNat H (by omega) (Int.le_refl _)
     rw [cutF, ← hz]
     show wrap64 (3 + z - 3) = z
     rw [show 3 + z - 3 = z by omega, w_id (by omega) (by omega)]
  ·
   have hJ : DB H (max 1 L) T (jJ H T n) n = false := by
    rw [← Bool.not_eq_true]
    intro hJ
    have := (bridge_yes (x := 3) hH1 hT1 hL1 h3 h4 hJ).1
    rw [hi _ (by omega)] at hJ
    cases hJ
   have hb := bridge_no (x := 3) hH1 hT1 hLT hle h3 hJ
   rw [hb]
   refine Ev.step (f := fun _ => some true) (fun k => ?_) (Ev.now _)
   rw [pianolalaw03_PunchFewest.l0, if_neg (by omega), if_pos rfl, if_pos (show ((([], 20) : List S47 × Int).1.length : Int) = 0 from rfl)]
   rfl
end
theorem fewestLaw_ev (x0 x1 x2 x3 x4 y : Int) (h0 : 0 ≤ x0 ∧ x0 ≤ 255) (h1 : 0 ≤ x1 ∧ x1 ≤ 255) (h2 : 0 ≤ x2 ∧ x2 ≤ 255) (h3 : 0 ≤ x3 ∧ x3 ≤ 255) (h4 : 0 ≤ x4 ∧ x4 ≤ 255) (hy : 0 ≤ y ∧ y ≤ 255) : Ev (fun k => pianolalaw03_PunchFewest.f k x0 x1 x2 x3 x4 y) true := by
 unfold pianolalaw03_PunchFewest.f
 have em : pianolalaw03_Sheet_made.f x0 x1 x2 x3 x4 = some (900 + x0 % 150, 900 + x0 % 150 + x1 % 50, 1 + x2 % 12, 1 + x3 % 6, 1 + x4 % 14) := by
  unfold pianolalaw03_Sheet_made.f
  rw [w_id (x := x0) (by omega) (by omega), w_id (x := x1) (by omega) (by omega), w_id (x := x2) (by omega) (by omega), w_id (x := x3) (by omega) (by omega), w_id (x := x4) (by omega) (by omega),
   Int.tmod_eq_emod_of_nonneg h0.1, Int.tmod_eq_emod_of_nonneg h1.1, Int.tmod_eq_emod_of_nonneg h2.1, Int.tmod_eq_emod_of_nonneg h3.1, Int.tmod_eq_emod_of_nonneg h4.1,
   w_id (x := 900 + x0 % 150) (by omega) (by omega), w_id (x := 900 + x0 % 150 + x1 % 50) (by omega) (by omega), w_id (x := 1 + x2 % 12) (by omega) (by omega), w_id (x := 1 + x3 % 6) (by omega) (by omega), w_id (x := 1 + x4 % 14) (by omega) (by omega)]
 rw [em]
 simp only [Option.bind_some, Bars_f]
 obtain ⟨a, ha⟩ : ∃ a, a = 900 + x0 % 150 := ⟨_, rfl⟩
 obtain ⟨b, hb⟩ : ∃ b, b = a + x1 % 50 := ⟨_, rfl⟩
 obtain ⟨c, hc⟩ : ∃ c, c = 1 + x2 % 12 := ⟨_, rfl⟩
 obtain ⟨d, hd⟩ : ∃ d, d = 1 + x3 % 6 := ⟨_, rfl⟩
 obtain ⟨e, he⟩ : ∃ e, e = 1 + x4 % 14 := ⟨_, rfl⟩
 rw [← ha, ← hb, ← hc, ← hd, ← he]
 have hp : paperOk a b c d e = true := paperOk_iff.2 (by omega)
 have hq := bar_bounds hp
 have hH20 : barHi b c ≤ 20 := by
  unfold barHi
  have : 1000 * c / b < 21 := Int.ediv_lt_of_lt_mul (by omega) (by omega)
  omega
 have hT20 : barTo b e ≤ 20 := by
  unfold barTo
  have : (1000 * e - 1) / b < 21 := Int.ediv_lt_of_lt_mul (by omega) (by omega)
  omega
 by_cases c1 : barHi b c < 1
 ·
  have er : barsR a b c d e = (0, 0, 0, 0, 20) := by unfold barsR; rw [if_pos hp, if_pos c1]
  rw [er]
  simp only [if_neg (show ¬ (20 : Int) = 0 by decide), if_true]
  exact Ev.now _
 ·
  have en : wrap64 (1 + Int.tmod (wrap64 y) 26) = 1 + y % 26 := by
   rw [w_id (x := y) (by omega) (by omega), Int.tmod_eq_emod_of_nonneg hy.1, w_id (by omega) (by omega)]
  obtain ⟨n, hn⟩ : ∃ n, n = 1 + y % 26 := ⟨_, rfl⟩
  rw [← hn] at en
  have main : ∀ L T : Int, barsR a b c d e = (1, barHi b c, L, T, 0) → 0 ≤ L → L ≤ T → T ≤ 20 → (T = 0 ∨ 1 ≤ L) → (T = 0 ∨ (L = barLo a d ∧ T = barTo b e)) → Ev (fun k => pianolalaw03_PunchFewest.j0 k y false a b c d e 1 (barHi b c) L T) true := fun L T er hL hle hT hLT hor => by
   have hg : good ⟨3, 3 + n⟩ = true := good_iff.2 (by omega)
   have hB := Bridge_f a b c d e 3 (3 + n) (by decide) (by
    have : IntKind.i64.min ≤ 3 + n ∧ 3 + n ≤ IntKind.i64.max := ⟨show (-9223372036854775808 : Int) ≤ _ by omega, show _ ≤ (9223372036854775807 : Int) by omega⟩
    simpa [Lit.wf] using this)
   have eB : bridgeR a b c d e 3 (3 + n) = bridgeD (barHi b c) L T 3 (3 + n) := by
    unfold bridgeR
    rw [er, if_pos rfl, if_pos ⟨hg, by omega⟩]
   rw [eB] at hB
   refine Ev.step (fun k => by rw [pianolalaw03_PunchFewest.j0, if_neg (by decide), en, w_id (x := 3 + n) (by omega) (by omega)]) (Ev.bind hB ?_)
   refine few_l0 (a := a) (b := b) (c := c) (d := d) (e := e) (by omega) (by omega) hL (by omega) (by omega) (by omega) hLT hle (n := n) (by omega) (by omega) (fun hJ => ?_) 14 0 rfl (fun j hj => by omega)
   obtain ⟨b1, b2, _, b4⟩ := bridge_yes (x := 3) (by omega) (by omega) hL (by omega) (by omega) hJ
   have hbd : Bd (barHi b c) L T (3 + n) := ⟨by omega, by omega, hL, hle, by omega, by omega⟩
   have m2 : (jJ (barHi b c) T n : Int) * L ≤ jJ (barHi b c) T n * (max 1 L) := mul_m (by omega)
   refine cut_holds hp hg (n := jJ (barHi b c) T n) (by omega) (cut_cut hbd _ _ ⟨by omega, ?_, by omega, by omega⟩) ?_
   ·
    have := jJ_up (H := barHi b c) (T := T) (len := n) (by omega) (by omega) (by omega)
    omega
   ·
    rcases b2 with b2 | b2
    ·
     exact .inl b2
    ·
     rcases hor with hor | hor
     ·
      omega
     ·
      exact .inr hor
  by_cases c2 : barLo a d > barTo b e
  ·
   have er : barsR a b c d e = (1, barHi b c, 0, 0, 0) := by unfold barsR; rw [if_pos hp, if_neg c1, if_pos c2]
   rw [er]
   simp only [if_true, if_neg (show ¬ barHi b c > 20 by omega), if_neg (show ¬ (0 : Int) > 20 by decide)]
   exact main 0 0 er (by omega) (by omega) (by omega) (.inl rfl) (.inl rfl)
  ·
   have er : barsR a b c d e = (1, barHi b c, barLo a d, barTo b e, 0) := by unfold barsR; rw [if_pos hp, if_neg c1, if_neg c2]
   rw [er]
   simp only [if_true, if_neg (show ¬ barHi b c > 20 by omega), if_neg (show ¬ barTo b e > 20 by omega), decide_eq_false (show ¬ barLo a d < 0 by omega)]
   exact main _ _ er (by omega) (by omega) (by omega) (.inr (by omega)) (.inr ⟨rfl, rfl⟩)
end Go.Proofs.Ytegffliopblajaa.P
namespace Go.Proofs.Ytegffliopblajaa.Pure
open P Go.Proofs.YtegffliopblajaaW.PrintWords
theorem u8_of3 {a : Int} (w : (Lit.int .u8 a).wf = true) : 0 ≤ a ∧ a ≤ 255 := by
  have h : IntKind.u8.min ≤ a ∧ a ≤ IntKind.u8.max := by simpa [Lit.wf] using w
  exact ⟨h.1, h.2⟩
theorem PunchFewest (a b c e f y : Int) (wa : (Lit.int .u8 a).wf = true) (wb : (Lit.int .u8 b).wf = true) (wc : (Lit.int .u8 c).wf = true) (we : (Lit.int .u8 e).wf = true) (wf : (Lit.int .u8 f).wf = true) (wy : (Lit.int .u8 y).wf = true) : ∃ k, pianolalaw03_PunchFewest.f k a b c e f y = some true :=
  (fewestLaw_ev a b c e f y (u8_of3 wa) (u8_of3 wb) (u8_of3 wc) (u8_of3 we) (u8_of3 wf) (u8_of3 wy)).rounds
end Go.Proofs.Ytegffliopblajaa.Pure
end
