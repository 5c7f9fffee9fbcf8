/- Words and contracts for a claim. -/
import Derived.Test.YthoeindopljmkaaPumpRows7
import Derived.StillTailTactics
section
namespace Go.Proofs.Ythoeindopljmkaa.P
open Go.RowKit Go.Proofs.YthoeindopljmkaaW.PrintWords Go.Proofs.YthoeindopljmkaaW.PrintLast Go.Proofs.YthoeindopljmkaaW.PrintMore
set_option linter.unusedVariables false
set_option linter.unusedSimpArgs false
def isB (a b c : Int) : Bool := decide (b ≤ a) && decide (a ≤ c)
end Go.Proofs.Ythoeindopljmkaa.P
end
section
namespace Go.Proofs.Ythoeindopljmkaa.P
open Go.RowKit Go.Proofs.YthoeindopljmkaaW.PrintWords Go.Proofs.YthoeindopljmkaaW.PrintLast Go.Proofs.YthoeindopljmkaaW.PrintMore
open Pm
def c90 (x : S71) : S90 := ⟨x.f0, x.f1⟩
def g90 (l : List S71) : List S90 := l.map c90
theorem g90_len (l : List S71) : (g90 l).length = l.length := by simp [g90]
theorem g90_get (l : List S71) (i : Nat) : rd_T90 (g90 l) i = ⟨(rd_T71 l i).f0, (rd_T71 l i).f1⟩ := by
  unfold rd_T90 rd_T71 g90
  rw [List.getD_eq_getElem?_getD, List.getD_eq_getElem?_getD, List.getElem?_map, Int.toNat_natCast]
  cases h : l[i]? with
  | none => rfl
  | some x => rfl
theorem given_l0 (l : List S71) (hl : l.length ≤ 1000000) : ∀ (m i : Nat), i + m = l.length → Ev (fun k => pianolalaw04_given.l0 k l (g90 (l.take i)) i) (g90 l)
  | 0, i, h => by
    refine Ev.step (f := fun _ => some (g90 l)) (fun k => ?_) (Ev.now _)
    rw [pianolalaw04_given.l0, if_neg (by omega), List.take_of_length_le (by omega)]
  | m + 1, i, h => by
    refine Ev.step (fun k => ?_) (given_l0 l hl m (i + 1) (by omega))
    rw [pianolalaw04_given.l0, if_pos (by omega), if_pos (by omega), if_pos (by rw [g90_len, List.length_take]; omega), show wrap64 ((i : Int) + 1) = ((i + 1 : Nat) : Int) by unfold wrap64; omega]
    congr 1
    have hi : i < l.length := by omega
    rw [List.take_succ_eq_append_getElem hi]
    unfold g90
    rw [List.map_append]
    congr 1
    show _ = [c90 l[i]]
    have : rd_T71 l i = l[i] := by unfold rd_T71; rw [List.getD_eq_getElem?_getD, Int.toNat_natCast, List.getElem?_eq_getElem hi]; rfl
    rw [this]; rfl
theorem given_f (l : List S71) (hl : l.length ≤ 1000000) : Ev (fun k => pianolalaw04_given.f k l) (g90 l) := by
  have := given_l0 l hl l.length 0 (by omega)
  simpa [pianolalaw04_given.f, g90] using this
theorem isf (a b c : Int) : pianolaref04_is.f a b c = some (isB a b c) := by
  unfold pianolaref04_is.f isB
  by_cases h : a ≥ b
  · rw [if_pos h, decide_eq_true (show b ≤ a from h)]; rfl
  · rw [if_neg h, decide_eq_false (show ¬ b ≤ a from h)]; rfl
theorem good_is (x : S71) : good x = (isB x.f0 1 100 && isB x.f1 0 1000000) := by
  rw [Bool.eq_iff_iff, good_iff]
  unfold isB
  simp only [Bool.and_eq_true, decide_eq_true_eq]
theorem check_l0 (l : List S71) (hl : l.length ≤ 5) : ∀ (m i : Nat), i + m = l.length → Ev (fun k => pianolaref04_CheckBounds.l0 k (g90 l) i) (if ((l.drop i).any fun x => !good x) = true then 3 else 0)
  | 0, i, h => by
    refine Ev.step (f := fun _ => some 0) (fun k => ?_) (by rw [List.drop_eq_nil_of_le (by omega)]; exact Ev.now _)
    rw [pianolaref04_CheckBounds.l0, if_neg (by rw [g90_len]; omega)]
  | m + 1, i, h => by
    have hi : i < l.length := by omega
    have e : l.drop i = rd_T71 l i :: l.drop (i + 1) := by
      rw [List.drop_eq_getElem_cons hi]; congr 1
      unfold rd_T71; rw [List.getD_eq_getElem?_getD, Int.toNat_natCast, List.getElem?_eq_getElem hi]; rfl
    rw [e, List.any_cons, good_is]
    by_cases c1 : isB (rd_T71 l i).f0 1 100 = true
    · by_cases c2 : isB (rd_T71 l i).f1 0 1000000 = true
      · rw [c1, c2]
        refine Ev.step (fun k => ?_) (check_l0 l hl m (i + 1) (by omega))
        rw [pianolaref04_CheckBounds.l0, if_pos (by rw [g90_len]; omega), if_pos (by omega), isf, Option.bind_some, g90_get, if_pos c1, isf, Option.bind_some, if_pos c2, show wrap64 ((i : Int) + 1) = ((i + 1 : Nat) : Int) by unfold wrap64; omega]
      · have c2' := Bool.eq_false_iff.mpr c2
        rw [c1, c2']
        refine Ev.step (f := fun _ => some 3) (fun k => ?_) (Ev.now _)
        rw [pianolaref04_CheckBounds.l0, if_pos (by rw [g90_len]; omega), if_pos (by omega), isf, Option.bind_some, g90_get, if_pos c1, isf, Option.bind_some, if_neg c2]
    · have c1' := Bool.eq_false_iff.mpr c1
      rw [c1']
      refine Ev.step (f := fun _ => some 3) (fun k => ?_) (Ev.now _)
      rw [pianolaref04_CheckBounds.l0, if_pos (by rw [g90_len]; omega), if_pos (by omega), isf, Option.bind_some, g90_get, if_neg c1]
theorem refcheck_f (l : List S71) : Ev (fun k => pianolaref04_CheckBounds.f k (g90 l)) (cb l) := by
  unfold pianolaref04_CheckBounds.f cb
  rw [g90_len]
  by_cases c : l.length = 0
  · rw [if_pos c]; simp only [if_pos (show (l.length : Int) = 0 by omega)]; exact Ev.now _
  · rw [if_neg c]; simp only [if_neg (show ¬ (l.length : Int) = 0 by omega)]
    by_cases c5 : 5 < l.length
    · rw [if_pos c5]; simp only [if_pos (show (l.length : Int) > 5 by omega)]; exact Ev.now _
    · rw [if_neg c5]; simp only [if_neg (show ¬ (l.length : Int) > 5 by omega)]
      exact check_l0 l (by omega) l.length 0 (by omega)
theorem btw_is (a : Int) : btw 0 a 200 = isB a 0 200 := by
  rw [Bool.eq_iff_iff]; unfold btw isB
  simp only [Bool.and_eq_true, decide_eq_true_eq]
theorem mosts_l1 {l : List S71} (hb : Bds (bs l)) (hl : l.length ≤ 1000) (a : Int) (s : List Int) (hs : Small s) (hn : 0 < s.length) (hn2 : s.length ≤ 1000) (r : List Int) : ∀ (m i : Nat), i + m = l.length → ∀ (best kk : Int), (i = 0 → best = -1) → (0 < i → 0 ≤ best) →
  Ev (fun k => pianolaref04_mosts.l0 k (g90 l) a (s ++ [(minFrom (fun b => s.getD (max 0 ((s.length : Int) - b.1)).toNat 0 + b.2) ((bs l).drop i) i best kk).1]) ((s.length + 1 : Nat) : Int)) r →
  Ev (fun k => pianolaref04_mosts.l1 k (g90 l) a s s.length best i) r
 | 0, i, h, best, kk, h0, h1, hr => by
  refine Ev.step (fun k => ?_) hr
  rw [pianolaref04_mosts.l1, if_neg (by rw [g90_len]; omega), if_pos (by omega), List.drop_eq_nil_of_le (by simp [bs]; omega), show wrap64 ((s.length : Int) + 1) = ((s.length + 1 : Nat) : Int) by unfold wrap64; omega]
  rfl
 | m + 1, i, h, best, kk, h0, h1, hr => by
  have c : i < l.length := by omega
  have hm : ((rd_T71 l i).f0, (rd_T71 l i).f1) ∈ bs l := List.mem_of_mem_drop (i := i) (by rw [bs_drop l c]; exact List.mem_cons_self)
  have ht := hb.t _ hm
  have ha := hb.a _ hm
  dsimp only at ht ha
  have e1 : wrap64 ((s.length : Int) - (rd_T71 l i).f0) = (s.length : Int) - (rd_T71 l i).f0 := by unfold wrap64; omega
  have e2 : wrap64 ((i : Int) + 1) = ((i + 1 : Nat) : Int) := by unfold wrap64; omega
  have hj := hs (max 0 ((s.length : Int) - (rd_T71 l i).f0)).toNat
  have e3 : wrap64 (rd s (mx 0 (wrap64 ((s.length : Int) - (rd_T71 l i).f0))) + (rd_T71 l i).f1) = s.getD (max 0 ((s.length : Int) - (rd_T71 l i).f0)).toNat 0 + (rd_T71 l i).f1 := by
   rw [e1, mx_max]
   show wrap64 (s.getD _ 0 + _) = _
   unfold wrap64; omega
  rw [bs_drop l c] at hr
  unfold minFrom at hr
  dsimp only at hr
  have ih := fun best kk h0 h1 hr => mosts_l1 hb hl a s hs hn hn2 r m (i + 1) (by omega) best kk h0 h1 hr
  have open_ : ∀ k, pianolaref04_mosts.l1 (k + 1) (g90 l) a s s.length best i = if best < 0 then pianolaref04_mosts.l1 k (g90 l) a s s.length (s.getD (max 0 ((s.length : Int) - (rd_T71 l i).f0)).toNat 0 + (rd_T71 l i).f1) ((i + 1 : Nat) : Int)
    else if s.getD (max 0 ((s.length : Int) - (rd_T71 l i).f0)).toNat 0 + (rd_T71 l i).f1 < best then pianolaref04_mosts.l1 k (g90 l) a s s.length (s.getD (max 0 ((s.length : Int) - (rd_T71 l i).f0)).toNat 0 + (rd_T71 l i).f1) ((i + 1 : Nat) : Int)
    else pianolaref04_mosts.l1 k (g90 l) a s s.length best ((i + 1 : Nat) : Int) := fun k => by
   rw [pianolaref04_mosts.l1, g90_get, if_pos (by rw [g90_len]; omega), if_pos (by omega), if_pos (by rw [e1, mx_max]; omega), if_pos (by rw [e1, mx_max]; omega), e3, e2]
  by_cases c0 : i = 0
  ·
   have hb0 := h0 c0
   rw [if_pos (.inl (by omega))] at hr
   refine Ev.step (fun k => ?_) (ih _ i (by omega) (fun _ => by omega) hr)
   rw [open_, if_pos (by omega)]
  ·
   have hb1 := h1 (by omega)
   by_cases c4 : s.getD (max 0 ((s.length : Int) - (rd_T71 l i).f0)).toNat 0 + (rd_T71 l i).f1 < best
   ·
    rw [if_pos (.inr c4)] at hr
    refine Ev.step (fun k => ?_) (ih _ i (by omega) (fun _ => by omega) hr)
    rw [open_, if_neg (by omega), if_pos c4]
   ·
    rw [if_neg (by rintro (hh | hh); omega; exact c4 hh)] at hr
    refine Ev.step (fun k => ?_) (ih _ kk (by omega) (fun _ => by omega) hr)
    rw [open_, if_neg (by omega), if_neg c4]
theorem minFrom_start (f : B2 → Int) {L : List B2} (h : L ≠ []) (s k : Int) : minFrom f L 0 s k = minFrom f L 0 0 0 := by
  cases L with
  | nil => exact absurd rfl h
  | cons b r => simp only [minFrom, true_or, if_true]
theorem mosts_l0 {l : List S71} (hb : Bds (bs l)) (hl : l.length ≤ 1000) (a : Nat) (ha : a ≤ 500) : ∀ (m n : Nat), n + m = a → Ev (fun k => pianolaref04_mosts.l0 k (g90 l) a (tabF (stepM (bs l)) n).1 ((n + 1 : Nat) : Int)) (tabF (stepM (bs l)) a).1
  | 0, n, h => by
    obtain rfl : n = a := by omega
    refine Ev.step (f := fun _ => some (tabF (stepM (bs l)) n).1) (fun k => ?_) (Ev.now _)
    rw [pianolaref04_mosts.l0, if_neg (by omega)]
  | m + 1, n, h => by
    have l1 := (tabF_len (stepM (bs l)) n).1
    have ih := mosts_l0 hb hl a ha m (n + 1) (by omega)
    refine Ev.step (fun k => ?_) (mosts_l1 hb hl a (tabF (stepM (bs l)) n).1 (small_most hb (by omega)) (by omega) (by omega) _ l.length 0 (by omega) (-1) 0 (fun _ => rfl) (fun h => by omega) ?_)
    · rw [pianolaref04_mosts.l0, if_pos (by omega), l1]; rfl
    · rw [List.drop_zero]
      simp only [Int.natCast_zero]
      rw [minFrom_start _ hb.ne]
      have e : (tabF (stepM (bs l)) (n + 1)).1 = (tabF (stepM (bs l)) n).1 ++ [(minFrom (fun b => (tabF (stepM (bs l)) n).1.getD (max 0 (((tabF (stepM (bs l)) n).1.length : Int) - b.1)).toNat 0 + b.2) (bs l) 0 0 0).1] := rfl
      rw [e, show n + 1 + 1 = (tabF (stepM (bs l)) n).1.length + 1 by omega] at ih
      exact ih
theorem mosts_f {l : List S71} (hb : Bds (bs l)) (hl : l.length ≤ 1000) (a : Nat) (ha : a ≤ 500) : Ev (fun k => pianolaref04_mosts.f k (g90 l) a) (tabF (stepM (bs l)) a).1 :=
  mosts_l0 hb hl a ha a 0 (by omega)
theorem leasts_l1 {l : List S71} (hb : Bds (bs l)) (hl : l.length ≤ 1000) (a : Int) (s : List Int) (hs : Small s) (hn : 0 < s.length) (hn2 : s.length ≤ 1000) (r : List Int) : ∀ (m i : Nat), i + m = l.length → ∀ (best kk : Int),
    Ev (fun k => pianolaref04_leasts.l0 k (g90 l) a (s ++ [(maxFrom (s.length : Int) (fun b => s.getD ((s.length : Int) - b.1).toNat 0 + b.2) ((bs l).drop i) i best kk).1]) ((s.length + 1 : Nat) : Int)) r →
    Ev (fun k => pianolaref04_leasts.l1 k (g90 l) a s s.length best i) r
  | 0, i, h, best, kk, hr => by
    refine Ev.step (fun k => ?_) hr
    rw [pianolaref04_leasts.l1, if_neg (by rw [g90_len]; omega), if_pos (by omega), List.drop_eq_nil_of_le (by simp [bs]; omega), show wrap64 ((s.length : Int) + 1) = ((s.length + 1 : Nat) : Int) by unfold wrap64; omega]
    rfl
  | m + 1, i, h, best, kk, hr => by
    have c : i < l.length := by omega
    have hm : ((rd_T71 l i).f0, (rd_T71 l i).f1) ∈ bs l := List.mem_of_mem_drop (i := i) (by rw [bs_drop l c]; exact List.mem_cons_self)
    have ht := hb.t _ hm
    have ha := hb.a _ hm
    dsimp only at ht ha
    have e2 : wrap64 ((i : Int) + 1) = ((i + 1 : Nat) : Int) := by unfold wrap64; omega
    rw [bs_drop l c] at hr
    unfold maxFrom at hr
    dsimp only at hr
    have ih := fun best kk hr => leasts_l1 hb hl a s hs hn hn2 r m (i + 1) (by omega) best kk hr
    by_cases c0 : (rd_T71 l i).f0 ≤ (s.length : Int)
    · have e1 : wrap64 ((s.length : Int) - (rd_T71 l i).f0) = (s.length : Int) - (rd_T71 l i).f0 := by unfold wrap64; omega
      have hj := hs ((s.length : Int) - (rd_T71 l i).f0).toNat
      have e3 : wrap64 (rd s (wrap64 ((s.length : Int) - (rd_T71 l i).f0)) + (rd_T71 l i).f1) = s.getD ((s.length : Int) - (rd_T71 l i).f0).toNat 0 + (rd_T71 l i).f1 := by
        rw [e1]
        show wrap64 (s.getD _ 0 + _) = _
        unfold wrap64; omega
      have open_ : ∀ k, pianolaref04_leasts.l1 (k + 1) (g90 l) a s s.length best i = pianolaref04_leasts.l1 k (g90 l) a s s.length (max best (s.getD ((s.length : Int) - (rd_T71 l i).f0).toNat 0 + (rd_T71 l i).f1)) ((i + 1 : Nat) : Int) := fun k => by
        rw [pianolaref04_leasts.l1, g90_get, if_pos (by rw [g90_len]; omega), if_pos (by omega), if_pos c0, if_pos (by rw [e1]; omega), if_pos (by rw [e1]; omega), e3, e2, mx_max]
      by_cases c4 : s.getD ((s.length : Int) - (rd_T71 l i).f0).toNat 0 + (rd_T71 l i).f1 > best
      · rw [if_pos ⟨c0, c4⟩] at hr
        refine Ev.step (fun k => ?_) (ih _ i hr)
        rw [open_, Int.max_eq_right (by omega)]
      · rw [if_neg (fun hh => c4 hh.2)] at hr
        refine Ev.step (fun k => ?_) (ih _ kk hr)
        rw [open_, Int.max_eq_left (by omega)]
    · rw [if_neg (fun hh => c0 hh.1)] at hr
      refine Ev.step (fun k => ?_) (ih _ kk hr)
      rw [pianolaref04_leasts.l1, g90_get, if_pos (by rw [g90_len]; omega), if_pos (by omega), if_neg c0, e2]
theorem leasts_l0 {l : List S71} (hb : Bds (bs l)) (hl : l.length ≤ 1000) (a : Nat) (ha : a ≤ 500) : ∀ (m n : Nat), n + m = a → Ev (fun k => pianolaref04_leasts.l0 k (g90 l) a (tabF (stepL (bs l)) n).1 ((n + 1 : Nat) : Int)) (tabF (stepL (bs l)) a).1
  | 0, n, h => by
    obtain rfl : n = a := by omega
    refine Ev.step (f := fun _ => some (tabF (stepL (bs l)) n).1) (fun k => ?_) (Ev.now _)
    rw [pianolaref04_leasts.l0, if_neg (by omega)]
  | m + 1, n, h => by
    have l1 := (tabF_len (stepL (bs l)) n).1
    have ih := leasts_l0 hb hl a ha m (n + 1) (by omega)
    have w1 : wrap64 (((n + 1 : Nat) : Int) - 1) = (n : Int) := by unfold wrap64; omega
    refine Ev.step (fun k => ?_) (leasts_l1 hb hl a (tabF (stepL (bs l)) n).1 (small_least hb (by omega)) (by omega) (by omega) _ l.length 0 (by omega) ((tabF (stepL (bs l)) n).1.getD n 0) (-1) ?_)
    · rw [pianolaref04_leasts.l0, if_pos (by omega), w1, if_pos (by omega), if_pos (by omega), l1]; rfl
    · rw [List.drop_zero]
      have e : (tabF (stepL (bs l)) (n + 1)).1 = (tabF (stepL (bs l)) n).1 ++ [(maxFrom ((tabF (stepL (bs l)) n).1.length : Int) (fun b => (tabF (stepL (bs l)) n).1.getD (((tabF (stepL (bs l)) n).1.length : Int) - b.1).toNat 0 + b.2) (bs l) 0 ((tabF (stepL (bs l)) n).1.getD ((tabF (stepL (bs l)) n).1.length - 1) 0) (-1)).1] := rfl
      rw [e, show n + 1 + 1 = (tabF (stepL (bs l)) n).1.length + 1 by omega, show (tabF (stepL (bs l)) n).1.length - 1 = n by omega] at ih
      exact ih
theorem leasts_f {l : List S71} (hb : Bds (bs l)) (hl : l.length ≤ 1000) (a : Nat) (ha : a ≤ 500) : Ev (fun k => pianolaref04_leasts.f k (g90 l) a) (tabF (stepL (bs l)) a).1 :=
  leasts_l0 hb hl a ha a 0 (by omega)
end Go.Proofs.Ythoeindopljmkaa.P
end
section
namespace Pm
def convTo (f g : Nat → Int) (n : Nat) : Nat → Int
  | 0 => f n + g 0
  | m + 1 => min (convTo f g n m) (f (n - (m + 1)) + g (m + 1))
def conv (f g : Nat → Int) (n : Nat) : Int := convTo f g n n
theorem convTo_le (f g : Nat → Int) (n : Nat) : ∀ (m k : Nat), k ≤ m → convTo f g n m ≤ f (n - k) + g k
  | 0, k, h => by
    have : k = 0 := by omega
    subst this; exact Int.le_refl _
  | m + 1, k, h => by
    unfold convTo
    by_cases c : k = m + 1
    · subst c; omega
    · have := convTo_le f g n m k (by omega); omega
theorem convTo_at (f g : Nat → Int) (n : Nat) : ∀ m : Nat, ∃ k, k ≤ m ∧ convTo f g n m = f (n - k) + g k
  | 0 => ⟨0, Nat.le_refl _, rfl⟩
  | m + 1 => by
    obtain ⟨k, hk, e⟩ := convTo_at f g n m
    unfold convTo
    by_cases c : convTo f g n m ≤ f (n - (m + 1)) + g (m + 1)
    · exact ⟨k, by omega, by omega⟩
    · exact ⟨m + 1, Nat.le_refl _, by omega⟩
theorem conv_le (f g : Nat → Int) {n k : Nat} (h : k ≤ n) : conv f g n ≤ f (n - k) + g k := convTo_le f g n n k h
theorem conv_at (f g : Nat → Int) (n : Nat) : ∃ k, k ≤ n ∧ conv f g n = f (n - k) + g k := convTo_at f g n n
theorem conv_is {f g : Nat → Int} {n : Nat} {x : Int} (h1 : ∀ k, k ≤ n → x ≤ f (n - k) + g k) (h2 : ∃ k, k ≤ n ∧ x = f (n - k) + g k) : conv f g n = x := by
  obtain ⟨k, hk, e⟩ := conv_at f g n
  obtain ⟨j, hj, e2⟩ := h2
  have := h1 k hk
  have := conv_le f g hj
  omega
structure Line (f : Nat → Int) : Prop where
  zero : f 0 = 0
  step : ∀ n, f n ≤ f (n + 1)
theorem Line.mono {f : Nat → Int} (h : Line f) {m n : Nat} (hmn : m ≤ n) : f m ≤ f n := by
  induction n with
  | zero =>
    have : m = 0 := by omega
    subst this; exact Int.le_refl _
  | succ n ih =>
    by_cases c : m = n + 1
    · subst c; exact Int.le_refl _
    · exact Int.le_trans (ih (by omega)) (h.step n)
theorem Line.nonneg {f : Nat → Int} (h : Line f) (n : Nat) : 0 ≤ f n := by
  have := h.mono (Nat.zero_le n)
  have := h.zero
  omega
theorem conv_line {f g : Nat → Int} (hf : Line f) (hg : Line g) : Line (conv f g) := by
  constructor
  · show f 0 + g 0 = 0
    have := hf.zero
    have := hg.zero
    omega
  · intro n
    obtain ⟨k, hk, e⟩ := conv_at f g (n + 1)
    by_cases c : k ≤ n
    · have h1 := conv_le f g c
      have h2 := hf.step (n - k)
      rw [show n - k + 1 = n + 1 - k by omega] at h2
      omega
    · have hk' : k = n + 1 := by omega
      subst hk'
      have h1 := conv_le f g (Nat.le_refl n)
      have h2 := hg.step n
      rw [show n - n = 0 by omega] at h1
      rw [show n + 1 - (n + 1) = 0 by omega] at e
      omega
theorem conv_le_left {f g : Nat → Int} (hg : Line g) (n : Nat) : conv f g n ≤ f n := by
  have := conv_le f g (Nat.zero_le n)
  have := hg.zero
  simp at *
  omega
def rowF (f : Nat → Int) : List (Nat → Int) → Nat → Int
  | [] => f
  | g :: l => rowF (conv f g) l
theorem rowF_line : ∀ (l : List (Nat → Int)) (f : Nat → Int), Line f → (∀ g ∈ l, Line g) → Line (rowF f l)
  | [], _, hf, _ => hf
  | g :: l, f, hf, h => rowF_line l (conv f g) (conv_line hf (h g (List.mem_cons_self ..))) (fun x hx => h x (List.mem_cons_of_mem _ hx))
theorem rowF_le (n : Nat) : ∀ (l : List (Nat → Int)) (f : Nat → Int), (∀ g ∈ l, Line g) → rowF f l n ≤ f n
  | [], _, _ => Int.le_refl _
  | g :: l, f, h => Int.le_trans (rowF_le n l (conv f g) (fun x hx => h x (List.mem_cons_of_mem _ hx))) (conv_le_left (h g (List.mem_cons_self ..)) n)
def dropF (d s : Nat → Int) : Nat → Int × Int
  | 0 => (0, 0)
  | n + 1 => if d n - s n > (dropF d s n).1 then (d n - s n, n) else dropF d s n
def okD (d s : Nat → Int) (n k : Nat) : Prop := ∀ m, m < n → d m ≤ s (m + k)
instance (d s : Nat → Int) (n k : Nat) : Decidable (okD d s n k) := by unfold okD; infer_instance
theorem okD_mono {d s : Nat → Int} (hs : Line s) {n k j : Nat} (h : okD d s n k) (hkj : k ≤ j) : okD d s n j := fun m hm => Int.le_trans (h m hm) (hs.mono (by omega))
def delayF (d s : Nat → Int) (n : Nat) : Nat → Nat → Option Nat
  | 0, _ => none
  | f + 1, k => if okD d s n k then some k else delayF d s n f (k + 1)
theorem delayF_some {d s : Nat → Int} {n : Nat} : ∀ (f k j : Nat), delayF d s n f k = some j → k ≤ j ∧ j < k + f ∧ okD d s n j ∧ ∀ i, k ≤ i → i < j → ¬ okD d s n i
  | 0, _, _, h => by simp [delayF] at h
  | f + 1, k, j, h => by
    unfold delayF at h
    by_cases c : okD d s n k
    · rw [if_pos c] at h
      injection h with h
      subst h
      exact ⟨Nat.le_refl _, by omega, c, fun i h1 h2 => by omega⟩
    · rw [if_neg c] at h
      obtain ⟨h1, h2, h3, h4⟩ := delayF_some f (k + 1) j h
      refine ⟨by omega, by omega, h3, fun i i1 i2 => ?_⟩
      by_cases e : i = k
      · subst e; exact c
      · exact h4 i (by omega) i2
theorem delayF_none {d s : Nat → Int} {n : Nat} : ∀ (f k : Nat), delayF d s n f k = none → ∀ i, k ≤ i → i < k + f → ¬ okD d s n i
  | 0, _, _ => fun i h1 h2 => by omega
  | f + 1, k, h => by
    unfold delayF at h
    by_cases c : okD d s n k
    · rw [if_pos c] at h; cases h
    · rw [if_neg c] at h
      intro i i1 i2
      by_cases e : i = k
      · subst e; exact c
      · exact delayF_none f (k + 1) h i (by omega) (by omega)
theorem delayF_is {d s : Nat → Int} {n f j : Nat} (h1 : j < f) (h2 : okD d s n j) (h3 : ∀ i, i < j → ¬ okD d s n i) : delayF d s n f 0 = some j := by
  cases h : delayF d s n f 0 with
  | none => exact absurd h2 (delayF_none f 0 h j (by omega) (by omega))
  | some i =>
    obtain ⟨_, _, g3, g4⟩ := delayF_some f 0 i h
    rcases Nat.lt_trichotomy i j with c | c | c
    · exact absurd g3 (h3 i c)
    · rw [c]
    · exact absurd h2 (g4 j (by omega) c)
theorem delayF_not {d s : Nat → Int} {n f : Nat} (h : ∀ i, i < f → ¬ okD d s n i) : delayF d s n f 0 = none := by
  cases e : delayF d s n f 0 with
  | none => rfl
  | some i =>
    obtain ⟨_, g2, g3, _⟩ := delayF_some f 0 i e
    exact absurd g3 (h i (by omega))
end Pm
end
section
namespace Pm
theorem mst_line {L : List B2} (h : Bds L) : Line (mst L) := ⟨rfl, mst_step h⟩
theorem lst_line {L : List B2} (h : Bds L) : Line (lst L) := ⟨rfl, fun n => (lst_spec h n).1⟩
end Pm
end
section
namespace Go.Proofs.Ythoeindopljmkaa.P
open Go.RowKit Go.Proofs.YthoeindopljmkaaW.PrintWords Go.Proofs.YthoeindopljmkaaW.PrintLast Go.Proofs.YthoeindopljmkaaW.PrintMore
open Pm
def firstE : List (List S71) → Int
  | [] => 0
  | l :: r => if cb l = 0 then firstE r else cb l
def chk (ps rs : List (List S71)) : Int := if ps.length = 0 ∨ rs.length = 0 then 4 else if 3 < ps.length ∨ 3 < rs.length then 5 else firstE (ps ++ rs)
def pln (ps rs : List (List S71)) (a : Int) : Int := if chk ps rs = 0 then (if btw 0 a 200 = true then 0 else 3) else chk ps rs
theorem wrapN {n : Nat} (h : n ≤ 1000000000) : wrap64 ((n : Int) + 1) = ((n + 1 : Nat) : Int) := by unfold wrap64; omega
theorem rd_L4_nat {l : List (List S71)} {i : Nat} (h : i < l.length) : rd_L4 l i = l[i] := by
  unfold rd_L4; rw [List.getD_eq_getElem?_getD, Int.toNat_natCast, List.getElem?_eq_getElem h]; rfl
theorem concat_two (ps rs : List (List S71)) (h : ps.length ≤ 3) (h' : rs.length ≤ 3) (k : Nat) : pump_concatB.f (k + 6) [ps, rs] = some (ps ++ rs) := by
  have e0 : rd_L7 [ps, rs] 0 = ps := rfl
  have e1 : rd_L7 [ps, rs] 1 = rs := rfl
  have w0 : wrap64 (0 + 1) = 1 := by unfold wrap64; omega
  have w1 : wrap64 (1 + 1) = 2 := by unfold wrap64; omega
  have wa : wrap64 (0 + (ps.length : Int)) = ps.length := by unfold wrap64; omega
  have wb : wrap64 ((ps.length : Int) + rs.length) = ((ps.length + rs.length : Nat) : Int) := by unfold wrap64; omega
  unfold pump_concatB.f
  have le : ([ps, rs].length : Int) = 2 := rfl
  rw [le]
  rw [pump_concatB.l0, if_pos (by decide), if_pos (by decide), if_pos (by rw [le]; decide), e0, wa, if_neg (by omega), w0]
  rw [pump_concatB.l0, if_pos (by decide), if_pos (by decide), if_pos (by rw [le]; decide), e1, wb, if_neg (by omega), w1]
  rw [pump_concatB.l0, if_neg (by decide), if_pos (by omega), if_pos (by omega), show ([ps, rs].length : Int) = 2 from rfl]
  rw [pump_concatB.l1, if_pos (by decide), if_pos (by decide), if_pos (by rw [le]; decide), e0, if_pos (by simp; omega), w0]
  rw [pump_concatB.l1, if_pos (by decide), if_pos (by decide), if_pos (by rw [le]; decide), e1, if_pos (by simp; omega), w1]
  rw [pump_concatB.l1, if_neg (by decide), List.nil_append]
theorem checkV_l0 (l : List (List S71)) (hl : l.length ≤ 10) : ∀ (m i k : Nat), i + m = l.length → m < k → pump_CheckV.l0 k l l.length i = some (firstE (l.drop i))
  | 0, i, 0, h, hk => by omega
  | 0, i, k + 1, h, hk => by
    rw [pump_CheckV.l0, if_neg (by omega), List.drop_eq_nil_of_le (by omega)]; rfl
  | m + 1, i, 0, h, hk => by omega
  | m + 1, i, k + 1, h, hk => by
    rw [pump_CheckV.l0, if_pos (by omega), if_pos (by omega), if_pos (by omega), cb_f, Option.bind_some, wrapN (by omega), rd_L4_nat (by omega), List.drop_eq_getElem_cons (by omega)]
    unfold firstE
    by_cases c : cb l[i] = 0
    · rw [if_pos c, if_pos c]; exact checkV_l0 l hl m (i + 1) k (by omega) (by omega)
    · rw [if_neg c, if_neg c]
theorem Check_f (ps rs : List (List S71)) : pump_Check.f ps rs = some (chk ps rs) := by
  unfold pump_Check.f pump_CheckV.f chk
  by_cases c1 : ps.length = 0
  · rw [if_pos (by omega), if_pos (.inl c1)]; rfl
  · rw [if_neg (by omega)]
    by_cases c2 : rs.length = 0
    · rw [show ((rs.length : Int) == 0) = true by simp [c2], if_pos (.inr c2)]; rfl
    · rw [show ((rs.length : Int) == 0) = false by simp only [beq_eq_false_iff_ne]; omega, if_neg (by omega)]
      rw [show (40 : Nat) = 39 + 1 from rfl, pump_CheckV.j0, if_neg (by simp)]
      by_cases c3 : 3 < ps.length
      · rw [if_pos (by omega), if_pos (.inl c3)]
      · rw [if_neg (by omega)]
        by_cases c4 : 3 < rs.length
        · rw [if_pos (by omega), if_pos (.inr c4)]
        · rw [if_neg (by omega), if_neg (by omega), concat_two ps rs (by omega) (by omega) 33, Option.bind_some]
          have := checkV_l0 (ps ++ rs) (by simp; omega) (ps ++ rs).length 0 39 (by omega) (by simp; omega)
          rw [List.drop_zero] at this
          exact this
theorem planned_f (ps rs : List (List S71)) (a : Int) : pump_planned.f ps rs a = some (pln ps rs a) := by
  unfold pump_planned.f pln
  rw [Check_f, Option.bind_some, btw_f, Option.bind_some]
  by_cases c : chk ps rs = 0
  · rw [if_pos c, if_pos c]
    split
    · rw [c]
    · rfl
  · rw [if_neg c, if_neg c]
theorem firstE_zero : ∀ {l : List (List S71)}, firstE l = 0 ↔ ∀ x ∈ l, cb x = 0
  | [] => by simp [firstE]
  | x :: r => by
    unfold firstE
    rw [List.forall_mem_cons]
    by_cases c : cb x = 0
    · rw [if_pos c, firstE_zero (l := r)]; exact ⟨fun h => ⟨c, h⟩, And.right⟩
    · rw [if_neg c]; exact ⟨fun h => absurd h c, fun h => absurd h.1 c⟩
structure Plant (ps rs : List (List S71)) : Prop where
  p0 : 0 < ps.length
  p3 : ps.length ≤ 3
  r0 : 0 < rs.length
  r3 : rs.length ≤ 3
  p : ∀ x ∈ ps, cb x = 0
  r : ∀ x ∈ rs, cb x = 0
theorem chk_zero {ps rs : List (List S71)} : chk ps rs = 0 ↔ Plant ps rs := by
  unfold chk
  by_cases c1 : ps.length = 0 ∨ rs.length = 0
  · rw [if_pos c1]; exact ⟨fun h => by omega, fun h => by have := h.p0; have := h.r0; omega⟩
  · rw [if_neg c1]
    by_cases c2 : 3 < ps.length ∨ 3 < rs.length
    · rw [if_pos c2]; exact ⟨fun h => by omega, fun h => by have := h.p3; have := h.r3; omega⟩
    · rw [if_neg c2, firstE_zero, List.forall_mem_append]
      exact ⟨fun h => ⟨by omega, by omega, by omega, by omega, h.1, h.2⟩, fun h => ⟨h.p, h.r⟩⟩
theorem pln_zero {ps rs : List (List S71)} {a : Int} : pln ps rs a = 0 ↔ Plant ps rs ∧ 0 ≤ a ∧ a ≤ 200 := by
  unfold pln
  by_cases c : chk ps rs = 0
  · rw [if_pos c]
    have := chk_zero.1 c
    by_cases b : btw 0 a 200 = true
    · rw [if_pos b]; exact ⟨fun _ => ⟨this, btw_iff.1 b⟩, fun _ => rfl⟩
    · rw [if_neg b]; exact ⟨fun h => by omega, fun h => absurd (btw_iff.2 h.2) b⟩
  · rw [if_neg c]
    exact ⟨fun h => absurd h c, fun h => absurd (chk_zero.2 h.1) c⟩
def tabL (f : Nat → Int) (n : Nat) : List Int := (List.range (n + 1)).map f
theorem tabL_len (f : Nat → Int) (n : Nat) : (tabL f n).length = n + 1 := by simp [tabL]
theorem tabL_rd (f : Nat → Int) {n i : Nat} (h : i ≤ n) : rd (tabL f n) (i : Int) = f i := by
  unfold rd tabL
  rw [List.getD_eq_getElem?_getD, Int.toNat_natCast, List.getElem?_eq_getElem (by simp; omega)]
  simp
theorem tabL_congr {f g : Nat → Int} {n : Nat} (h : ∀ i, i ≤ n → f i = g i) : tabL f n = tabL g n := by
  unfold tabL
  exact List.map_congr_left fun i hi => h i (by have := List.mem_range.1 hi; omega)
theorem tabL_set (f : Nat → Int) (n q : Nat) (v : Int) : (tabL f n).set q v = tabL (fun i => if i = q then v else f i) n := by
  apply List.ext_getElem
  · simp [tabL]
  · intro i h1 h2
    rw [List.getElem_set]
    simp only [tabL, List.getElem_map, List.getElem_range]
    by_cases c : q = i
    · rw [if_pos c, if_pos c.symm]
    · rw [if_neg c, if_neg (fun h => c h.symm)]
theorem tab_tabL (R : List Int → Int × Int) (n : Nat) : (tabF R n).1 = tabL (valF R) n := by
  apply List.ext_getElem
  · rw [(tabF_len R n).1, tabL_len]
  · intro i h1 h2
    rw [tabL_len] at h2
    have := (tabF_get R n i (by omega)).1
    rw [List.getD_eq_getElem?_getD, List.getElem?_eq_getElem h1] at this
    rw [show (tabF R n).1[i] = valF R i from this]
    simp [tabL]
def rowFs : List (List S71) → Nat → Int
  | [] => fun _ => 0
  | r :: l => rowF (lst (bs r)) (l.map fun x => lst (bs x))
def demFs (ps : List (List S71)) (n : Nat) : Int := (ps.map fun l => mst (bs l) n).sum
theorem rowF_snoc : ∀ (l : List (Nat → Int)) (f g : Nat → Int), rowF f (l ++ [g]) = conv (rowF f l) g
  | [], _, _ => rfl
  | x :: l, f, g => rowF_snoc l (conv f x) g
theorem rowFs_snoc {rs : List (List S71)} (h : rs ≠ []) (x : List S71) : rowFs (rs ++ [x]) = conv (rowFs rs) (lst (bs x)) := by
  cases rs with
  | nil => exact absurd rfl h
  | cons r l =>
    show rowF _ ((l ++ [x]).map fun x => lst (bs x)) = _
    rw [List.map_append]
    exact rowF_snoc _ _ _
theorem rowFs_line {rs : List (List S71)} (h : ∀ x ∈ rs, cb x = 0) : Line (rowFs rs) := by
  cases rs with
  | nil => exact ⟨rfl, fun _ => Int.le_refl _⟩
  | cons r l =>
    refine rowF_line _ _ (lst_line (bds_of (h r List.mem_cons_self)).1) fun g hg => ?_
    obtain ⟨x, hx, rfl⟩ := List.mem_map.1 hg
    exact lst_line (bds_of (h x (List.mem_cons_of_mem _ hx))).1
theorem rowFs_bd {rs : List (List S71)} (h : ∀ x ∈ rs, cb x = 0) (n : Nat) : 0 ≤ rowFs rs n ∧ rowFs rs n ≤ 1000000 * n := by
  refine ⟨(rowFs_line h).nonneg n, ?_⟩
  cases rs with
  | nil => show (0 : Int) ≤ _; omega
  | cons r l =>
    refine Int.le_trans (rowF_le n _ _ fun g hg => ?_) (lst_bd (bds_of (h r List.mem_cons_self)).1 n)
    obtain ⟨x, hx, rfl⟩ := List.mem_map.1 hg
    exact lst_line (bds_of (h x (List.mem_cons_of_mem _ hx))).1
theorem demFs_line {ps : List (List S71)} (h : ∀ x ∈ ps, cb x = 0) : Line (demFs ps) := by
  induction ps with
  | nil => exact ⟨rfl, fun _ => Int.le_refl _⟩
  | cons r l ih =>
    have i1 := ih fun x hx => h x (List.mem_cons_of_mem _ hx)
    have i2 := mst_line (bds_of (h r List.mem_cons_self)).1
    have e : ∀ n, demFs (r :: l) n = mst (bs r) n + demFs l n := fun n => by simp [demFs]
    refine ⟨by rw [e, i1.1, i2.1]; rfl, fun n => ?_⟩
    rw [e, e]
    have := i1.2 n
    have := i2.2 n
    omega
theorem demFs_bd {ps : List (List S71)} (h : ∀ x ∈ ps, cb x = 0) (n : Nat) : 0 ≤ demFs ps n ∧ demFs ps n ≤ 1000000 * n * ps.length := by
  refine ⟨(demFs_line h).nonneg n, ?_⟩
  induction ps with
  | nil => simp [demFs]
  | cons r l ih =>
    have i1 := ih fun x hx => h x (List.mem_cons_of_mem _ hx)
    have i2 := mst_bd (bds_of (h r List.mem_cons_self)).1 n
    have e : demFs (r :: l) n = mst (bs r) n + demFs l n := by simp [demFs]
    rw [e, List.length_cons, Int.natCast_add, Int.mul_add]
    omega
theorem mixN_conv {f g : Nat → Int} {a : Nat} (hf : ∀ i, 0 ≤ f i ∧ f i ≤ 1000000 * i) (hg : ∀ i, 0 ≤ g i ∧ g i ≤ 1000000 * i) (ha : a ≤ 1000) {n : Nat} (hn : n ≤ a) : ∀ k, k ≤ n → mixN (tabL f a) (tabL g a) n (k + 1) = convTo f g n k
  | 0, hk => by
    have h0 := hf n
    have h1 := hg 0
    unfold mixN mixN convTo
    rw [show (n : Int) - ((0 : Nat) : Int) = ((n : Nat) : Int) by omega, tabL_rd f hn, tabL_rd g (Nat.zero_le _), show wrap64 (f n + g 0) = f n + g 0 by unfold wrap64; omega]
    split <;> omega
  | k + 1, hk => by
    have h0 := hf (n - (k + 1))
    have h1 := hg (k + 1)
    have ih := mixN_conv hf hg ha hn k (by omega)
    unfold mixN convTo
    rw [ih, show (n : Int) - ((k + 1 : Nat) : Int) = ((n - (k + 1) : Nat) : Int) by omega, tabL_rd f (by omega), tabL_rd g (by omega), show wrap64 (f (n - (k + 1)) + g (k + 1)) = f (n - (k + 1)) + g (k + 1) by unfold wrap64; omega]
    split <;> omega
theorem mixF_conv {f g : Nat → Int} {a : Nat} (hf : ∀ i, 0 ≤ f i ∧ f i ≤ 1000000 * i) (hg : ∀ i, 0 ≤ g i ∧ g i ≤ 1000000 * i) (ha : a ≤ 1000) : mixF (tabL f a) (tabL g a) a = tabL (conv f g) a := by
  unfold mixF
  rw [show ((a : Int) + 1).toNat = a + 1 by omega]
  exact List.map_congr_left fun n hn => mixN_conv hf hg ha (by have := List.mem_range.1 hn; omega) n (Nat.le_refl _)
def regF (rs : List (List S71)) (a : Nat) : List S115 := (List.range rs.length).map fun i => ⟨rs.getD i [], tabL (lst (bs (rs.getD i []))) a, tabL (rowFs (rs.take (i + 1))) a⟩
theorem regF_len (rs : List (List S71)) (a : Nat) : (regF rs a).length = rs.length := by simp [regF]
theorem regF_get {rs : List (List S71)} {a i : Nat} (h : i < rs.length) : rd_T115 (regF rs a) (i : Int) = ⟨rs.getD i [], tabL (lst (bs (rs.getD i []))) a, tabL (rowFs (rs.take (i + 1))) a⟩ := by
  unfold rd_T115 regF
  rw [List.getD_eq_getElem?_getD, Int.toNat_natCast, List.getElem?_eq_getElem (by simpa using h)]
  simp
theorem regF_snoc (rs : List (List S71)) (x : List S71) (a : Nat) : regF (rs ++ [x]) a = regF rs a ++ [⟨x, tabL (lst (bs x)) a, tabL (rowFs (rs ++ [x])) a⟩] := by
  unfold regF
  rw [List.length_append, List.length_singleton, List.range_succ, List.map_append]
  congr 1
  · refine List.map_congr_left fun i hi => ?_
    have hi := List.mem_range.1 hi
    rw [List.getD_eq_getElem?_getD, List.getElem?_append_left hi, List.take_append_of_le_length (by omega), ← List.getD_eq_getElem?_getD]
  · simp [List.getD_eq_getElem?_getD]
    rw [List.take_of_length_le (by simp)]
theorem regStep_f {rs : List (List S71)} {x : List S71} (h : ∀ y ∈ rs, cb y = 0) (hx : cb x = 0) {a : Nat} (ha : a ≤ 400) : regStep a (regF rs a) x = some (regF (rs ++ [x]) a) := by
  obtain ⟨hb, h5⟩ := bds_of hx
  unfold regStep
  rw [tabled_least_f hb (by omega) ha, Option.bind_some, if_pos (by rw [(tabF_len _ a).1]; omega), tab_tabL, regF_snoc]
  show some _ = some _
  congr 3
  show S115.mk x _ _ = _
  by_cases c : rs = []
  · subst c
    rfl
  · have hl : 0 < rs.length := List.length_pos_iff.2 c
    rw [if_neg (by intro e; have := congrArg List.length e; rw [regF_len] at this; simp at this; exact c this)]
    rw [regF_len, show (rs.length : Int) - 1 = ((rs.length - 1 : Nat) : Int) by omega, regF_get (by omega), rowFs_snoc c, show rs.length - 1 + 1 = rs.length by omega, List.take_length]
    show S115.mk x _ (mixF (tabL (rowFs rs) a) (tabL (lst (bs x)) a) a) = _
    rw [mixF_conv (rowFs_bd h) (fun i => ⟨lst_nonneg hb i, lst_bd hb i⟩) (by omega)]
    rfl
theorem regs_fold {a : Nat} (ha : a ≤ 400) : ∀ (l rs : List (List S71)), (∀ y ∈ rs, cb y = 0) → (∀ y ∈ l, cb y = 0) → l.foldlM (regStep a) (regF rs a) = some (regF (rs ++ l) a)
  | [], rs, _, _ => by rw [List.append_nil]; rfl
  | x :: l, rs, h1, h2 => by
    have hx := h2 x List.mem_cons_self
    rw [List.foldlM_cons, regStep_f h1 hx ha]
    have := regs_fold ha l (rs ++ [x]) (by
      intro y hy
      rcases List.mem_append.1 hy with hy | hy
      · exact h1 y hy
      · rw [List.mem_singleton.1 hy]; exact hx) (fun y hy => h2 y (List.mem_cons_of_mem _ hy))
    rw [List.append_assoc] at this
    exact this
theorem regs_f {rs : List (List S71)} (h : ∀ y ∈ rs, cb y = 0) (hr : rs.length ≤ 3) {a : Nat} (ha : a ≤ 400) : regs.f rs a = some (regF rs a) := by
  unfold regs.f
  rw [if_pos ⟨by omega, by omega, by omega⟩]
  exact regs_fold ha rs [] (fun _ h => by cases h) h
theorem Plant_row_f {ps rs : List (List S71)} (h : Plant ps rs) {a : Nat} (ha : a ≤ 400) : pump_Plant_row.f ps rs a = some (tabL (rowFs rs) a) := by
  have h0 := h.r0
  unfold pump_Plant_row.f
  rw [regs_f h.r h.r3 ha, Option.bind_some, regF_len, if_neg (by omega), show (rs.length : Int) - 1 = ((rs.length - 1 : Nat) : Int) by omega, regF_get (by omega), show rs.length - 1 + 1 = rs.length by omega, List.take_length]
theorem Row_f (ps rs : List (List S71)) (a : Int) : pump_Row.f ps rs a = some (if pln ps rs a = 0 then rowFs rs a.toNat else 0, pln ps rs a) := by
  unfold pump_Row.f
  rw [planned_f, Option.bind_some]
  by_cases c : pln ps rs a = 0
  · obtain ⟨h, h0, h1⟩ := pln_zero.1 c
    obtain ⟨n, rfl⟩ := Int.eq_ofNat_of_zero_le h0
    rw [if_pos c, if_pos c, Plant_row_f h (by omega), Option.bind_some, if_pos h0, tabL_len, if_pos (by omega), tabL_rd _ (Nat.le_refl _), c]
    rfl
  · rw [if_neg c, if_neg c]
theorem dem_l1 {x x15 : Int} {ps : List (List S71)} {f g : Nat → Int} {a : Nat} (hf : ∀ i, i ≤ a → 0 ≤ f i ∧ f i ≤ 1000000000000) (hg : ∀ i, i ≤ a → 0 ≤ g i ∧ g i ≤ 1000000000000) (ha : a ≤ 1000) (r : List Int) : ∀ (m i : Nat), i + m = a + 1 →
    Ev (fun k => pump_Plant_demands.l0 k a (tabL (fun j => f j + g j) a) ps x15 (wrap64 (x + 1))) r →
    Ev (fun k => pump_Plant_demands.l1 k a (tabL (fun j => if j < i then f j + g j else f j) a) ps x15 x (tabL g a) ((a + 1 : Nat) : Int) i) r
  | 0, i, h, hr => by
    refine Ev.step (fun k => ?_) hr
    rw [pump_Plant_demands.l1, if_neg (by omega)]
    congr 1
    exact tabL_congr fun j hj => by rw [if_pos (by omega)]
  | m + 1, i, h, hr => by
    have ih := dem_l1 (x := x) (x15 := x15) (ps := ps) hf hg ha r m (i + 1) (by omega) hr
    refine Ev.step (fun k => ?_) ih
    have hfi := hf i (by omega)
    have hgi := hg i (by omega)
    rw [pump_Plant_demands.l1, if_pos (by omega), if_pos (by omega), if_pos (by rw [tabL_len]; omega), if_pos (by rw [tabL_len]; omega), tabL_rd _ (by omega), tabL_rd _ (by omega), if_neg (by omega), wrapN (by omega), Int.toNat_natCast, tabL_set,
      show wrap64 (f i + g i) = f i + g i by unfold wrap64; omega]
    congr 1
    refine tabL_congr fun j hj => ?_
    by_cases c : j = i
    · subst c; rw [if_pos rfl, if_pos (by omega)]
    · rw [if_neg c]
      by_cases c2 : j < i
      · rw [if_pos c2, if_pos (by omega)]
      · rw [if_neg c2, if_neg (by omega)]
theorem demFs_snoc (ps : List (List S71)) (x : List S71) (n : Nat) : demFs (ps ++ [x]) n = demFs ps n + mst (bs x) n := by simp [demFs]
theorem dem_l0 {ps : List (List S71)} (h : ∀ x ∈ ps, cb x = 0) (h3 : ps.length ≤ 3) {a : Nat} (ha : a ≤ 400) : ∀ (m i : Nat), i + m = ps.length →
    Ev (fun k => pump_Plant_demands.l0 k a (tabL (demFs (ps.take i)) a) ps ps.length i) (tabL (demFs ps) a)
  | 0, i, hi => by
    refine Ev.step (f := fun _ => some (tabL (demFs ps) a)) (fun k => ?_) (Ev.now _)
    rw [pump_Plant_demands.l0, if_neg (by omega), List.take_of_length_le (by omega)]
  | m + 1, i, hi => by
    have hx := h ps[i] (List.getElem_mem _)
    obtain ⟨hb, h5⟩ := bds_of hx
    have ht : ∀ x ∈ ps.take i, cb x = 0 := fun x hx => h x (List.mem_of_mem_take hx)
    have ih := dem_l0 h h3 ha m (i + 1) (by omega)
    refine Ev.step (fun k => ?_) (dem_l1 (x := i) (x15 := ps.length) (ps := ps) (f := demFs (ps.take i)) (g := mst (bs ps[i])) (a := a) (fun j hj => ?_) (fun j hj => ?_) (by omega) _ (a + 1) 0 (by omega) ?_)
    · rw [pump_Plant_demands.l0, if_pos (by omega), if_pos (by omega), if_pos (by omega), rd_L4_nat (by omega), tabled_most_f hb (by omega) ha, Option.bind_some, tab_tabL, tabL_len]
      congr 1
    · have := demFs_bd ht j
      have : (List.take i ps).length ≤ 3 := by rw [List.length_take]; omega
      refine ⟨by omega, ?_⟩
      have e : 1000000 * (j : Int) * ((ps.take i).length : Int) ≤ 1000000 * (j : Int) * 3 := Int.mul_le_mul_of_nonneg_left (by omega) (by omega)
      omega
    · have := mst_nonneg hb j
      have := mst_bd hb j
      omega
    · rw [wrapN (by omega)]
      have e : tabL (fun j => demFs (ps.take i) j + mst (bs ps[i]) j) a = tabL (demFs (ps.take (i + 1))) a := tabL_congr fun j _ => by
        rw [List.take_succ_eq_append_getElem (by omega), demFs_snoc]
      rw [e]
      exact ih
theorem Plant_demands_f {ps rs : List (List S71)} (h : Plant ps rs) {a : Nat} (ha : a ≤ 400) : Ev (fun k => pump_Plant_demands.f k ps rs a) (tabL (demFs ps) a) := by
  unfold pump_Plant_demands.f
  simp only [wrapN (show a ≤ 1000000000 by omega)]
  simp only [if_pos (show (0 : Int) ≤ ((a + 1 : Nat) : Int) by omega), Int.toNat_natCast, if_pos (show a + 1 ≤ 35184372088832 by omega)]
  have := dem_l0 h.p h.p3 ha ps.length 0 (by omega)
  have e : tabL (demFs (ps.take 0)) a = List.replicate (a + 1) 0 := by
    unfold tabL
    rw [show demFs (List.take 0 ps) = fun _ => (0 : Int) from rfl, List.map_const']
    simp
  rw [e] at this
  exact this
theorem drop_l0 {d s : Nat → Int} {a : Nat} (ha : a ≤ 400) (hd : ∀ i, i ≤ a → 0 ≤ d i ∧ d i ≤ 1000000000000) (hs : ∀ i, i ≤ a → 0 ≤ s i ∧ s i ≤ 1000000000000) : ∀ (m i : Nat), i + m = a + 1 →
    Ev (fun k => pump_Drop.l0 k (dropF d s i).1 (dropF d s i).2 (tabL d a) (tabL s a) ((a + 1 : Nat) : Int) i) ((dropF d s (a + 1)).1, (dropF d s (a + 1)).2, 0)
  | 0, i, h => by
    obtain rfl : i = a + 1 := by omega
    refine Ev.step (f := fun _ => some ((dropF d s (a + 1)).1, (dropF d s (a + 1)).2, 0)) (fun k => ?_) (Ev.now _)
    rw [pump_Drop.l0, if_neg (by omega)]
  | m + 1, i, h => by
    have ih := drop_l0 ha hd hs m (i + 1) (by omega)
    have h1 := hd i (by omega)
    have h2 := hs i (by omega)
    refine Ev.step (fun k => ?_) ih
    rw [pump_Drop.l0, if_pos (by omega), if_pos (by omega), if_pos (by rw [tabL_len]; omega), if_pos (by rw [tabL_len]; omega), tabL_rd _ (by omega), tabL_rd _ (by omega), wrapN (by omega), show wrap64 (d i - s i) = d i - s i by unfold wrap64; omega]
    have e : dropF d s (i + 1) = if d i - s i > (dropF d s i).1 then (d i - s i, (i : Int)) else dropF d s i := rfl
    rw [e]
    split <;> rfl
theorem pl_bd {ps rs : List (List S71)} (h : Plant ps rs) (n : Nat) (hn : n ≤ 1000) : (0 ≤ demFs ps n ∧ demFs ps n ≤ 1000000000000) ∧ 0 ≤ rowFs rs n ∧ rowFs rs n ≤ 1000000000000 := by
  have h1 := demFs_bd h.p n
  have h2 := rowFs_bd h.r n
  have h3 := h.p3
  have e : 1000000 * (n : Int) * (ps.length : Int) ≤ 1000000 * (n : Int) * 3 := Int.mul_le_mul_of_nonneg_left (by omega) (by omega)
  omega
theorem Drop_f (ps rs : List (List S71)) (a : Int) : Ev (fun k => pump_Drop.f k ps rs a) (if pln ps rs a = 0 then ((dropF (demFs ps) (rowFs rs) (a.toNat + 1)).1, (dropF (demFs ps) (rowFs rs) (a.toNat + 1)).2, 0) else (0, 0, pln ps rs a)) := by
  unfold pump_Drop.f
  rw [planned_f]
  simp only [Option.bind_some]
  by_cases c : pln ps rs a = 0
  · obtain ⟨h, h0, h1⟩ := pln_zero.1 c
    obtain ⟨n, rfl⟩ := Int.eq_ofNat_of_zero_le h0
    simp only [if_pos c]
    refine Ev.bind (Plant_demands_f h (by omega)) ?_
    simp only [Plant_row_f h (show n ≤ 400 by omega), Option.bind_some, tabL_len]
    exact drop_l0 (by omega) (fun i hi => (pl_bd h i (by omega)).1) (fun i hi => (pl_bd h i (by omega)).2) (n + 1) 0 (by omega)
  · simp only [if_neg c]
    exact Ev.now _
def dlyR (o : Option Nat) : Int × Int := match o with | some j => ((j : Int), 0) | none => (0, 11)
section
variable {d s : Nat → Int} {a : Nat} (ha : a ≤ 200) (hs : Line s)
include ha hs
theorem delay_l {F : Nat} (hF : F = 201) : ∀ (m : Nat), ∀ (i j : Nat), (a + 1 - i) + (201 - j) < m → i ≤ a + 1 → j ≤ 200 → okD d s i j → (∀ q, q < j → ¬ okD d s (a + 1) q) →
    Ev (fun k => pump_Delay.l0 k (tabL s (a + 200)) j (tabL d a) ((a + 1 : Nat) : Int) i) (dlyR (delayF d s (a + 1) F 0)) ∧
    (i < a + 1 → Ev (fun k => pump_Delay.l1 k (tabL s (a + 200)) j i (d i) (tabL d a) ((a + 1 : Nat) : Int) i) (dlyR (delayF d s (a + 1) F 0)))
  | 0, i, j, hm, hi, hj, h1, h2 => by omega
  | m + 1, i, j, hm, hi, hj, h1, h2 => by
    have in_ : i < a + 1 → Ev (fun k => pump_Delay.l1 k (tabL s (a + 200)) j i (d i) (tabL d a) ((a + 1 : Nat) : Int) i) (dlyR (delayF d s (a + 1) F 0)) := fun c => by
      have ew : wrap64 ((i : Int) + (j : Int)) = ((i + j : Nat) : Int) := by unfold wrap64; omega
      have open_ : ∀ k, pump_Delay.l1 (k + 1) (tabL s (a + 200)) j i (d i) (tabL d a) ((a + 1 : Nat) : Int) i = if s (i + j) < d i then (if ((j + 1 : Nat) : Int) > 200 then some (0, 11) else pump_Delay.l1 k (tabL s (a + 200)) ((j + 1 : Nat) : Int) i (d i) (tabL d a) ((a + 1 : Nat) : Int) i)
          else pump_Delay.l0 k (tabL s (a + 200)) j (tabL d a) ((a + 1 : Nat) : Int) ((i + 1 : Nat) : Int) := fun k => by
        rw [pump_Delay.l1, ew, if_pos (by omega), if_pos (by rw [tabL_len]; omega), tabL_rd _ (by omega), wrapN (by omega), wrapN (by omega)]
      by_cases cc : s (i + j) < d i
      · have hno : ∀ q, q ≤ j → ¬ okD d s (a + 1) q := fun q hq => by
          by_cases e : q = j
          · subst e
            intro hk
            have := hk i (by omega)
            omega
          · exact h2 q (by omega)
        by_cases c2 : j = 200
        · rw [delayF_not (fun q hq => hno q (by omega))]
          refine Ev.step (f := fun _ => some (0, 11)) (fun k => ?_) (Ev.now _)
          rw [open_, if_pos cc, if_pos (by omega)]
        · refine Ev.step (fun k => ?_) ((delay_l hF m i (j + 1) (by omega) hi (by omega) (okD_mono hs h1 (by omega)) (fun q hq => hno q (by omega))).2 c)
          rw [open_, if_pos cc, if_neg (by omega)]
      · refine Ev.step (fun k => ?_) ((delay_l hF m (i + 1) j (by omega) (by omega) hj (fun q hq => ?_) h2).1)
        · rw [open_, if_neg cc]
        · by_cases e : q = i
          · subst e; omega
          · exact h1 q (by omega)
    refine ⟨?_, in_⟩
    by_cases c : i = a + 1
    · subst c
      rw [delayF_is (show j < F by omega) h1 h2]
      refine Ev.step (f := fun _ => some ((j : Int), 0)) (fun k => ?_) (Ev.now _)
      rw [pump_Delay.l0, if_neg (by omega)]
    · refine Ev.step (fun k => ?_) (in_ (by omega))
      rw [pump_Delay.l0, if_pos (by omega), if_pos (by omega), if_pos (by rw [tabL_len]; omega), tabL_rd _ (by omega)]
end
def lateN : Nat := 201
theorem lateN_eq : lateN = 201 := rfl
def dly (ps rs : List (List S71)) (a : Int) : Int × Int := if pln ps rs a = 0 then dlyR (delayF (demFs ps) (rowFs rs) (a.toNat + 1) lateN 0) else (0, pln ps rs a)
theorem Plant_row_f200 {ps rs : List (List S71)} (h : Plant ps rs) {n : Nat} (hn : n ≤ 200) : pump_Plant_row.f ps rs (wrap64 ((n : Int) + 200)) = some (tabL (rowFs rs) (n + 200)) := by
  have ew : wrap64 ((n : Int) + 200) = ((n + 200 : Nat) : Int) := by unfold wrap64; omega
  rw [ew]
  exact Plant_row_f h (by omega)
theorem dly_pos {ps rs : List (List S71)} {a : Int} (c : pln ps rs a = 0) : dly ps rs a = dlyR (delayF (demFs ps) (rowFs rs) (a.toNat + 1) lateN 0) := if_pos c
theorem dly_neg {ps rs : List (List S71)} {a : Int} (c : ¬ pln ps rs a = 0) : dly ps rs a = (0, pln ps rs a) := if_neg c
theorem Delay_pos {ps rs : List (List S71)} (h : Plant ps rs) {n : Nat} (hn : n ≤ 200) (r : Int × Int) (hr : dlyR (delayF (demFs ps) (rowFs rs) (n + 1) lateN 0) = r) : Ev (fun k => pump_Delay.f k ps rs n) r := by
  have c : pln ps rs n = 0 := pln_zero.2 ⟨h, by omega, by omega⟩
  refine Ev.congr (f := fun k => (pump_Plant_demands.f k ps rs n).bind fun t => pump_Delay.l0 k (tabL (rowFs rs) (n + 200)) 0 t (t.length : Int) 0) (fun k => ?_) ?_
  · unfold pump_Delay.f
    rw [planned_f, Option.bind_some, if_pos c, Plant_row_f200 h hn, Option.bind_some]
  · refine Ev.bind (Plant_demands_f h (by omega)) ?_
    rw [← hr]
    simp only [tabL_len]
    exact (delay_l hn (rowFs_line h.r) lateN_eq (n + 300) 0 0 (by omega) (by omega) (by omega) (fun q hq => by omega) (fun q hq => by omega)).1
theorem Delay_f (ps rs : List (List S71)) (a : Int) : Ev (fun k => pump_Delay.f k ps rs a) (dly ps rs a) := by
  by_cases c : pln ps rs a = 0
  · obtain ⟨h, h0, h1⟩ := pln_zero.1 c
    obtain ⟨n, rfl⟩ := Int.eq_ofNat_of_zero_le h0
    exact Delay_pos h (by omega) _ (dly_pos c).symm
  · rw [dly_neg c]
    refine Ev.congr (f := fun _ => some (0, pln ps rs a)) (fun k => ?_) (Ev.now _)
    unfold pump_Delay.f
    rw [planned_f, Option.bind_some, if_neg c]
end Go.Proofs.Ythoeindopljmkaa.P
end
section
namespace Go.Proofs.Ythoeindopljmkaa.P
open Go.RowKit Go.Proofs.YthoeindopljmkaaW.PrintWords Go.Proofs.YthoeindopljmkaaW.PrintLast Go.Proofs.YthoeindopljmkaaW.PrintMore
open Pm
def h90 (l : List (List S71)) : List (List S90) := l.map g90
theorem h90_len (l : List (List S71)) : (h90 l).length = l.length := by simp [h90]
theorem h90_get {l : List (List S71)} {i : Nat} (h : i < l.length) : rd_L5 (h90 l) (i : Int) = g90 l[i] := by
  unfold rd_L5 h90; rw [List.getD_eq_getElem?_getD, Int.toNat_natCast, List.getElem?_eq_getElem (by simpa using h)]; simp
def Brief (l : List (List S71)) : Prop := l.length ≤ 10 ∧ ∀ x ∈ l, x.length ≤ 20
instance (l : List (List S71)) : Decidable (Brief l) := by unfold Brief; infer_instance
theorem long_l0 (l : List (List S71)) (hl : l.length ≤ 9223372036854775807) : ∀ (m i : Nat), i + m = l.length → ∀ b, Ev (fun k => pianolalaw04_long.l0 k l b i) (b || (l.drop i).any fun x => decide (20 < x.length))
  | 0, i, h, b => by
    refine Ev.step (f := fun _ => some b) (fun k => ?_) (by rw [List.drop_eq_nil_of_le (by omega)]; simp only [List.any_nil, Bool.or_false]; exact Ev.now _)
    rw [pianolalaw04_long.l0, if_neg (by omega)]
  | m + 1, i, h, b => by
    rw [List.drop_eq_getElem_cons (by omega), List.any_cons]
    have e : ∀ k, pianolalaw04_long.l0 (k + 1) l b i = pianolalaw04_long.l0 k l (b || decide (20 < (l[i]'(by omega)).length)) ((i + 1 : Nat) : Int) := fun k => by
      rw [pianolalaw04_long.l0, if_pos (by omega), show wrap64 ((i : Int) + 1) = ((i + 1 : Nat) : Int) by unfold wrap64; omega]
      cases b
      · rw [if_neg (by simp), if_pos (by omega), rd_L4_nat (by omega)]
        have : decide (((l[i]'(by omega)).length : Int) > 20) = decide (20 < (l[i]'(by omega)).length) := by
          rw [decide_eq_decide]; omega
        rw [this]; rfl
      · rfl
    have := long_l0 l hl m (i + 1) (by omega) (b || decide (20 < (l[i]'(by omega)).length))
    rw [Bool.or_assoc] at this
    exact Ev.step e this
def longB (l : List (List S71)) : Bool := decide (10 < l.length) || l.any fun x => decide (20 < x.length)
theorem long_f (l : List (List S71)) (hl : l.length ≤ 9223372036854775807) : Ev (fun k => pianolalaw04_long.f k l) (longB l) := by
  unfold pianolalaw04_long.f longB
  have := long_l0 l hl l.length 0 (by omega) (decide ((l.length : Int) > 10))
  rw [List.drop_zero] at this
  rw [show decide (10 < l.length) = decide ((l.length : Int) > 10) by rw [decide_eq_decide]; omega]
  exact this
theorem longB_false {l : List (List S71)} (h : longB l = false) : Brief l := by
  unfold longB at h
  simp only [Bool.or_eq_false_iff, decide_eq_false_iff_not, List.any_eq_false, decide_eq_true_eq] at h
  exact ⟨by omega, fun x hx => by have := h.2 x hx; omega⟩
theorem row_l0 {l : List (List S71)} (h : Brief l) : ∀ (m i : Nat), i + m = l.length → Ev (fun k => pianolalaw04_row.l0 k l (h90 (l.take i)) i) (h90 l)
  | 0, i, hi => by
    refine Ev.step (f := fun _ => some (h90 l)) (fun k => ?_) (Ev.now _)
    rw [pianolalaw04_row.l0, if_neg (by omega), List.take_of_length_le (by omega)]
  | m + 1, i, hi => by
    have h1 := h.1
    have h2 := h.2 l[i] (List.getElem_mem _)
    refine Ev.step (f := fun k => (pianolalaw04_given.f k l[i]).bind fun t => pianolalaw04_row.l0 k l (h90 (l.take i) ++ [t]) ((i + 1 : Nat) : Int)) (fun k => ?_) ?_
    · rw [pianolalaw04_row.l0, if_pos (by omega), if_pos (by omega), rd_L4_nat (by omega)]
      congr 1
      funext t
      rw [if_pos (by rw [h90_len, List.length_take]; omega), wrapN (by omega)]
    · refine Ev.bind (given_f _ (by omega)) ?_
      have e : h90 (l.take i) ++ [g90 l[i]] = h90 (l.take (i + 1)) := by
        unfold h90; rw [List.take_succ_eq_append_getElem (by omega), List.map_append]; rfl
      rw [e]
      exact row_l0 h m (i + 1) (by omega)
theorem row_f {l : List (List S71)} (h : Brief l) : Ev (fun k => pianolalaw04_row.f k l) (h90 l) := by
  have := row_l0 h l.length 0 (by omega)
  exact this
theorem plant_f {ps rs : List (List S71)} (h : Brief ps) (h' : Brief rs) : Ev (fun k => pianolalaw04_plant.f k ps rs) (h90 ps, h90 rs) := by
  unfold pianolalaw04_plant.f
  refine Ev.bind (row_f h) ?_
  refine Ev.bind (row_f h') ?_
  exact Ev.now _
theorem firstE_cons (x : List S71) (r : List (List S71)) : firstE (x :: r) = if cb x = 0 then firstE r else cb x := rfl
theorem firstE_app (a b : List (List S71)) : firstE (a ++ b) = if firstE a = 0 then firstE b else firstE a := by
  induction a with
  | nil => simp [firstE]
  | cons x r ih =>
    rw [List.cons_append, firstE_cons, firstE_cons]
    by_cases c : cb x = 0
    · rw [if_pos c, if_pos c, ih]
    · rw [if_neg c, if_neg c, if_neg c]
theorem rcheck_l1 (ps rs : List (List S71)) (hl : rs.length ≤ 10) : ∀ (m i : Nat), i + m = rs.length → Ev (fun k => pianolaref04_Check.l1 k i (h90 ps) (h90 rs)) (firstE (rs.drop i))
  | 0, i, h => by
    refine Ev.step (f := fun _ => some 0) (fun k => ?_) (by rw [List.drop_eq_nil_of_le (by omega)]; exact Ev.now _)
    rw [pianolaref04_Check.l1, if_neg (by rw [h90_len]; omega)]
  | m + 1, i, h => by
    refine Ev.step (f := fun k => (pianolaref04_CheckBounds.f k (g90 (rs[i]'(by omega)))).bind fun t => if t = 0 then pianolaref04_Check.l1 k ((i + 1 : Nat) : Int) (h90 ps) (h90 rs) else some t) (fun k => ?_) ?_
    · rw [pianolaref04_Check.l1, if_pos (by rw [h90_len]; omega), if_pos (by omega), h90_get (by omega), wrapN (by omega)]
    · refine Ev.bind (refcheck_f _) ?_
      rw [List.drop_eq_getElem_cons (by omega), firstE_cons]
      by_cases c : cb (rs[i]'(by omega)) = 0
      · simp only [if_pos c]; exact rcheck_l1 ps rs hl m (i + 1) (by omega)
      · simp only [if_neg c]; exact Ev.now _
theorem rcheck_l0 (ps rs : List (List S71)) (hp : ps.length ≤ 10) (hl : rs.length ≤ 10) : ∀ (m i : Nat), i + m = ps.length → Ev (fun k => pianolaref04_Check.l0 k i (h90 ps) (h90 rs)) (if firstE (ps.drop i) = 0 then firstE rs else firstE (ps.drop i))
  | 0, i, h => by
    have := rcheck_l1 ps rs hl rs.length 0 (by omega)
    rw [List.drop_eq_nil_of_le (show ps.length ≤ i by omega), if_pos (show firstE [] = 0 from rfl)]
    refine Ev.step (fun k => ?_) this
    rw [pianolaref04_Check.l0, if_neg (by rw [h90_len]; omega)]
    rfl
  | m + 1, i, h => by
    refine Ev.step (f := fun k => (pianolaref04_CheckBounds.f k (g90 (ps[i]'(by omega)))).bind fun t => if t = 0 then pianolaref04_Check.l0 k ((i + 1 : Nat) : Int) (h90 ps) (h90 rs) else some t) (fun k => ?_) ?_
    · rw [pianolaref04_Check.l0, if_pos (by rw [h90_len]; omega), if_pos (by omega), h90_get (by omega), wrapN (by omega)]
    · refine Ev.bind (refcheck_f _) ?_
      rw [List.drop_eq_getElem_cons (by omega), firstE_cons]
      by_cases c : cb (ps[i]'(by omega)) = 0
      · simp only [if_pos c]; exact rcheck_l0 ps rs hp hl m (i + 1) (by omega)
      · simp only [if_neg c]; exact Ev.now _
theorem rCheck_f (ps rs : List (List S71)) : Ev (fun k => pianolaref04_Check.f k (h90 ps) (h90 rs)) (chk ps rs) := by
  unfold pianolaref04_Check.f chk
  rw [h90_len, h90_len]
  by_cases c1 : ps.length = 0
  · simp only [if_pos (show (ps.length : Int) = 0 by omega)]
    rw [if_pos (.inl c1)]
    refine Ev.step (f := fun _ => some 4) (fun k => ?_) (Ev.now _)
    rw [pianolaref04_Check.j0, if_pos rfl]
  · simp only [if_neg (show ¬ (ps.length : Int) = 0 by omega)]
    by_cases c2 : rs.length = 0
    · rw [show ((rs.length : Int) == 0) = true by simp [c2], if_pos (.inr c2)]
      refine Ev.step (f := fun _ => some 4) (fun k => ?_) (Ev.now _)
      rw [pianolaref04_Check.j0, if_pos rfl]
    · rw [show ((rs.length : Int) == 0) = false by simp only [beq_eq_false_iff_ne]; omega, if_neg (by omega)]
      by_cases c3 : 3 < ps.length
      · rw [if_pos (.inl c3)]
        refine Ev.step (f := fun k => pianolaref04_Check.j1 k true (h90 ps) (h90 rs)) (fun k => ?_) (Ev.step (f := fun _ => some 5) (fun k => ?_) (Ev.now _))
        · rw [pianolaref04_Check.j0, if_neg (by simp), h90_len, if_pos (by omega)]
        · rw [pianolaref04_Check.j1, if_pos rfl]
      · by_cases c4 : 3 < rs.length
        · rw [if_pos (.inr c4)]
          refine Ev.step (f := fun k => pianolaref04_Check.j1 k true (h90 ps) (h90 rs)) (fun k => ?_) (Ev.step (f := fun _ => some 5) (fun k => ?_) (Ev.now _))
          · rw [pianolaref04_Check.j0, if_neg (by simp), h90_len, if_neg (by omega), h90_len, decide_eq_true (show (rs.length : Int) > 3 by omega)]
          · rw [pianolaref04_Check.j1, if_pos rfl]
        · rw [if_neg (by omega), firstE_app]
          have := rcheck_l0 ps rs (by omega) (by omega) ps.length 0 (by omega)
          rw [List.drop_zero] at this
          refine Ev.step (f := fun k => pianolaref04_Check.j1 k false (h90 ps) (h90 rs)) (fun k => ?_) (Ev.step (fun k => ?_) this)
          · rw [pianolaref04_Check.j0, if_neg (by simp), h90_len, if_neg (by omega), h90_len, decide_eq_false (show ¬ (rs.length : Int) > 3 by omega)]
          · rw [pianolaref04_Check.j1, if_neg (by simp)]; rfl
theorem rplanned_f (ps rs : List (List S71)) (a : Int) : Ev (fun k => pianolaref04_planned.f k (h90 ps) (h90 rs) a) (pln ps rs a) := by
  unfold pianolaref04_planned.f pln
  refine Ev.bind (rCheck_f ps rs) ?_
  rw [btw_is]
  by_cases c : chk ps rs = 0
  · simp only [if_pos c, isf, Option.bind_some]
    by_cases c2 : isB a 0 200 = true
    · simp only [if_pos c2]; rw [c]; exact Ev.now _
    · simp only [if_neg c2]; exact Ev.now _
  · simp only [if_neg c]; exact Ev.now _
def rmin (f g : Nat → Int) (n : Nat) : Nat → Int
  | 0 => f 0 + g n
  | m + 1 => min (rmin f g n m) (f m + g (n - m))
theorem rmin_le (f g : Nat → Int) (n : Nat) : ∀ m j, j < m → rmin f g n m ≤ f j + g (n - j)
  | 0, j, h => by omega
  | m + 1, j, h => by
    unfold rmin
    by_cases c : j = m
    · subst c; omega
    · have := rmin_le f g n m j (by omega); omega
theorem rmin_at (f g : Nat → Int) (n : Nat) : ∀ m, m ≤ n + 1 → ∃ j, j ≤ n ∧ rmin f g n m = f j + g (n - j)
  | 0, _ => ⟨0, Nat.zero_le _, rfl⟩
  | m + 1, h => by
    obtain ⟨j, hj, e⟩ := rmin_at f g n m (by omega)
    unfold rmin
    by_cases c : rmin f g n m ≤ f m + g (n - m)
    · exact ⟨j, hj, by omega⟩
    · exact ⟨m, by omega, by omega⟩
theorem rmin_conv (f g : Nat → Int) (n : Nat) : rmin f g n (n + 1) = conv f g n := by
  refine (conv_is (fun k hk => ?_) ?_).symm
  · have := rmin_le f g n (n + 1) (n - k) (by omega)
    rw [show n - (n - k) = k by omega] at this
    exact this
  · obtain ⟨j, hj, e⟩ := rmin_at f g n (n + 1) (Nat.le_refl _)
    exact ⟨n - j, by omega, by rw [e, show n - (n - j) = j by omega]⟩
theorem mn_min (a b : Int) : mn a b = min a b := by unfold mn; omega
section
variable {f g : Nat → Int} {a : Nat} (hf : ∀ i, 0 ≤ f i ∧ f i ≤ 1000000 * i) (hg : ∀ i, 0 ≤ g i ∧ g i ≤ 1000000 * i) (ha : a ≤ 400) {X Y : List (List S90)} {y : Nat} (r : List Int)
include hf hg ha
theorem rows_l2 (x8 : List Int) (hx : x8.length ≤ 1000) {n : Nat} (hn : n ≤ a) : ∀ (m i : Nat), i + m = n + 1 →
    Ev (fun k => pianolaref04_rows.l1 k a (tabL f a) y (tabL g a) (x8 ++ [conv f g n]) ((n + 1 : Nat) : Int) X Y) r →
    Ev (fun k => pianolaref04_rows.l2 k a (tabL f a) y (tabL g a) x8 n (rmin f g n i) i X Y) r
  | 0, i, h, hr => by
    obtain rfl : i = n + 1 := by omega
    refine Ev.step (fun k => ?_) hr
    rw [pianolaref04_rows.l2, if_neg (by omega), if_pos (by omega), rmin_conv, wrapN (by omega)]
  | m + 1, i, h, hr => by
    have h1 := hf i
    have h2 := hg (n - i)
    refine Ev.step (fun k => ?_) (rows_l2 x8 hx hn m (i + 1) (by omega) hr)
    have ew : wrap64 ((n : Int) - i) = ((n - i : Nat) : Int) := by unfold wrap64; omega
    rw [pianolaref04_rows.l2, if_pos (by omega), if_pos (by omega), if_pos (by rw [tabL_len]; omega), ew, if_pos (by omega), if_pos (by rw [tabL_len]; omega), tabL_rd _ (by omega), tabL_rd _ (by omega), mn_min, wrapN (by omega),
      show wrap64 (f i + g (n - i)) = f i + g (n - i) by unfold wrap64; omega]
    rfl
theorem rows_l1 : ∀ (m n : Nat), n + m = a + 1 → Ev (fun k => pianolaref04_rows.l0 k a (tabL (conv f g) a) (wrap64 ((y : Int) + 1)) X Y) r →
    Ev (fun k => pianolaref04_rows.l1 k a (tabL f a) y (tabL g a) ((List.range n).map (conv f g)) n X Y) r
  | 0, n, h, hr => by
    obtain rfl : n = a + 1 := by omega
    refine Ev.step (fun k => ?_) hr
    rw [pianolaref04_rows.l1, if_neg (by omega)]
    rfl
  | m + 1, n, h, hr => by
    have h1 := hf 0
    have h2 := hg n
    have ih := rows_l1 m (n + 1) (by omega) hr
    have e : (List.range (n + 1)).map (conv f g) = (List.range n).map (conv f g) ++ [conv f g n] := by rw [List.range_succ, List.map_append]; rfl
    rw [e] at ih
    refine Ev.step (fun k => ?_) (rows_l2 (y := y) (X := X) (Y := Y) hf hg ha r ((List.range n).map (conv f g)) (by simp; omega) (show n ≤ a by omega) (n + 1) 0 (by omega) ih)
    have z : rd (tabL f a) 0 = f 0 := tabL_rd f (Nat.zero_le a)
    rw [pianolaref04_rows.l1, if_pos (by omega), if_pos (by rw [tabL_len]; omega), if_pos (by omega), if_pos (by rw [tabL_len]; omega), z, tabL_rd _ (by omega), show wrap64 (f 0 + g n) = f 0 + g n by unfold wrap64; omega]
    rfl
end
theorem rows_l0 {ps rs : List (List S71)} (h : ∀ x ∈ rs, cb x = 0) (h3 : rs.length ≤ 3) {a : Nat} (ha : a ≤ 400) : ∀ (m i : Nat), 0 < i → i + m = rs.length →
    Ev (fun k => pianolaref04_rows.l0 k a (tabL (rowFs (rs.take i)) a) i (h90 ps) (h90 rs)) (tabL (rowFs rs) a)
  | 0, i, h0, hi => by
    refine Ev.step (f := fun _ => some (tabL (rowFs rs) a)) (fun k => ?_) (Ev.now _)
    rw [pianolaref04_rows.l0, if_neg (by rw [h90_len]; omega), List.take_of_length_le (by omega)]
  | m + 1, i, h0, hi => by
    have hx := h rs[i] (List.getElem_mem _)
    obtain ⟨hb, h5⟩ := bds_of hx
    have ht : ∀ x ∈ rs.take i, cb x = 0 := fun x hx => h x (List.mem_of_mem_take hx)
    have ih := rows_l0 (ps := ps) h h3 ha m (i + 1) (by omega) (by omega)
    refine Ev.step (f := fun k => (pianolaref04_leasts.f k (g90 (rs[i]'(by omega))) a).bind fun t => pianolaref04_rows.l1 k a (tabL (rowFs (rs.take i)) a) i t [] 0 (h90 ps) (h90 rs)) (fun k => ?_) ?_
    · rw [pianolaref04_rows.l0, if_pos (by rw [h90_len]; omega), if_pos (by omega), h90_get (by omega)]
    · refine Ev.bind (leasts_f hb (by omega) a (by omega)) ?_
      rw [tab_tabL]
      refine rows_l1 (y := i) (rowFs_bd ht) (fun j => ⟨lst_nonneg hb j, lst_bd hb j⟩) ha _ (a + 1) 0 (by omega) ?_
      rw [wrapN (by omega)]
      have e : conv (rowFs (rs.take i)) (lst (bs rs[i])) = rowFs (rs.take (i + 1)) := by
        rw [List.take_succ_eq_append_getElem (by omega), rowFs_snoc (by intro e; have := congrArg List.length e; rw [List.length_take, List.length_nil] at this; omega)]
      rw [e]
      exact ih
theorem rows_f {ps rs : List (List S71)} (h : Plant ps rs) {a : Nat} (ha : a ≤ 400) : Ev (fun k => pianolaref04_rows.f k (h90 ps) (h90 rs) a) (tabL (rowFs rs) a) := by
  have h0 := h.r0
  obtain ⟨hb, h5⟩ := bds_of (h.r rs[0] (List.getElem_mem _))
  unfold pianolaref04_rows.f
  simp only [h90_len, if_pos (show 0 < (rs.length : Int) by omega)]
  have e0 : rd_L5 (h90 rs) 0 = g90 rs[0] := h90_get h0
  rw [e0]
  refine Ev.bind (leasts_f hb (by omega) a (by omega)) ?_
  rw [tab_tabL]
  have := rows_l0 (ps := ps) h.r h.r3 ha (rs.length - 1) 1 (by omega) (by omega)
  have e : rowFs (rs.take 1) = valF (stepL (bs rs[0])) := by
    rw [List.take_succ_eq_append_getElem h0]; rfl
  rw [e] at this
  exact this
theorem rRow_f (ps rs : List (List S71)) (a : Int) : Ev (fun k => pianolaref04_Row.f k (h90 ps) (h90 rs) a) (if pln ps rs a = 0 then rowFs rs a.toNat else 0, pln ps rs a) := by
  unfold pianolaref04_Row.f
  refine Ev.bind (rplanned_f ps rs a) ?_
  by_cases c : pln ps rs a = 0
  · obtain ⟨h, h0, h1⟩ := pln_zero.1 c
    obtain ⟨n, rfl⟩ := Int.eq_ofNat_of_zero_le h0
    simp only [if_pos c]
    refine Ev.bind (rows_f h (by omega)) ?_
    simp only [tabL_len, if_pos h0, if_pos (show (n : Int) < ((n + 1 : Nat) : Int) by omega), tabL_rd _ (Nat.le_refl n)]
    rw [c]
    exact Ev.now _
  · simp only [if_neg c]
    exact Ev.now _
theorem rdem_l1 {X Y : List (List S90)} {x : Nat} {f g : Nat → Int} {a : Nat} (hf : ∀ i, i ≤ a → 0 ≤ f i ∧ f i ≤ 1000000000000) (hg : ∀ i, i ≤ a → 0 ≤ g i ∧ g i ≤ 1000000000000) (ha : a ≤ 1000) (r : List Int) : ∀ (m i : Nat), i + m = a + 1 →
    Ev (fun k => pianolaref04_demands.l0 k a (tabL (fun j => f j + g j) a) (wrap64 ((x : Int) + 1)) X Y) r →
    Ev (fun k => pianolaref04_demands.l1 k a (tabL (fun j => if j < i then f j + g j else f j) a) x (tabL g a) i X Y) r
  | 0, i, h, hr => by
    refine Ev.step (fun k => ?_) hr
    rw [pianolaref04_demands.l1, if_neg (by omega)]
    congr 1
    exact tabL_congr fun j hj => by rw [if_pos (by omega)]
  | m + 1, i, h, hr => by
    have ih := rdem_l1 (X := X) (Y := Y) (x := x) hf hg ha r m (i + 1) (by omega) hr
    refine Ev.step (fun k => ?_) ih
    have hfi := hf i (by omega)
    have hgi := hg i (by omega)
    rw [pianolaref04_demands.l1, if_pos (by omega), if_pos (by omega), if_pos (by rw [tabL_len]; omega), if_pos (by rw [tabL_len]; omega), tabL_rd _ (by omega), tabL_rd _ (by omega), if_neg (by omega), wrapN (by omega), Int.toNat_natCast, tabL_set,
      show wrap64 (f i + g i) = f i + g i by unfold wrap64; omega]
    congr 1
    refine tabL_congr fun j hj => ?_
    by_cases c : j = i
    · subst c; rw [if_pos rfl, if_pos (by omega)]
    · rw [if_neg c]
      by_cases c2 : j < i
      · rw [if_pos c2, if_pos (by omega)]
      · rw [if_neg c2, if_neg (by omega)]
theorem rdem_l0 {ps rs : List (List S71)} (h : ∀ x ∈ ps, cb x = 0) (h3 : ps.length ≤ 3) {a : Nat} (ha : a ≤ 400) : ∀ (m i : Nat), i + m = ps.length →
    Ev (fun k => pianolaref04_demands.l0 k a (tabL (demFs (ps.take i)) a) i (h90 ps) (h90 rs)) (tabL (demFs ps) a)
  | 0, i, hi => by
    refine Ev.step (f := fun _ => some (tabL (demFs ps) a)) (fun k => ?_) (Ev.now _)
    rw [pianolaref04_demands.l0, if_neg (by rw [h90_len]; omega), List.take_of_length_le (by omega)]
  | m + 1, i, hi => by
    have hx := h ps[i] (List.getElem_mem _)
    obtain ⟨hb, h5⟩ := bds_of hx
    have ht : ∀ x ∈ ps.take i, cb x = 0 := fun x hx => h x (List.mem_of_mem_take hx)
    have ih := rdem_l0 (rs := rs) h h3 ha m (i + 1) (by omega)
    refine Ev.step (f := fun k => (pianolaref04_mosts.f k (g90 (ps[i]'(by omega))) a).bind fun t => pianolaref04_demands.l1 k a (tabL (demFs (ps.take i)) a) i t 0 (h90 ps) (h90 rs)) (fun k => ?_) ?_
    · rw [pianolaref04_demands.l0, if_pos (by rw [h90_len]; omega), if_pos (by omega), h90_get (by omega)]
    · refine Ev.bind (mosts_f hb (by omega) a (by omega)) ?_
      rw [tab_tabL]
      refine rdem_l1 (x := i) (f := demFs (ps.take i)) (g := mst (bs ps[i])) (a := a) (fun j hj => ?_) (fun j hj => ?_) (by omega) _ (a + 1) 0 (by omega) ?_
      · have := demFs_bd ht j
        have : (List.take i ps).length ≤ 3 := by rw [List.length_take]; omega
        refine ⟨by omega, ?_⟩
        have e : 1000000 * (j : Int) * ((ps.take i).length : Int) ≤ 1000000 * (j : Int) * 3 := Int.mul_le_mul_of_nonneg_left (by omega) (by omega)
        omega
      · have := mst_nonneg hb j
        have := mst_bd hb j
        omega
      · rw [wrapN (by omega)]
        have e : tabL (fun j => demFs (ps.take i) j + mst (bs ps[i]) j) a = tabL (demFs (ps.take (i + 1))) a := tabL_congr fun j _ => by
          rw [List.take_succ_eq_append_getElem (by omega), demFs_snoc]
        rw [e]
        exact ih
theorem rdemands_f {ps rs : List (List S71)} (h : Plant ps rs) {a : Nat} (ha : a ≤ 400) : Ev (fun k => pianolaref04_demands.f k (h90 ps) (h90 rs) a) (tabL (demFs ps) a) := by
  unfold pianolaref04_demands.f
  simp only [wrapN (show a ≤ 1000000000 by omega)]
  simp only [if_pos (show (0 : Int) ≤ ((a + 1 : Nat) : Int) by omega), Int.toNat_natCast, if_pos (show a + 1 ≤ 35184372088832 by omega)]
  have := rdem_l0 (rs := rs) h.p h.p3 ha ps.length 0 (by omega)
  have e : tabL (demFs (ps.take 0)) a = List.replicate (a + 1) 0 := by
    unfold tabL
    rw [show demFs (List.take 0 ps) = fun _ => (0 : Int) from rfl, List.map_const']
    simp
  rw [e] at this
  exact this
theorem rdrop_l0 {d s : Nat → Int} {a : Nat} (ha : a ≤ 400) (hd : ∀ i, i ≤ a → 0 ≤ d i ∧ d i ≤ 1000000000000) (hs : ∀ i, i ≤ a → 0 ≤ s i ∧ s i ≤ 1000000000000) : ∀ (m i : Nat), i + m = a + 1 →
    Ev (fun k => pianolaref04_Drop.l0 k a (tabL d a) (tabL s a) (dropF d s i).1 (dropF d s i).2 i) ((dropF d s (a + 1)).1, (dropF d s (a + 1)).2, 0)
  | 0, i, h => by
    obtain rfl : i = a + 1 := by omega
    refine Ev.step (f := fun _ => some ((dropF d s (a + 1)).1, (dropF d s (a + 1)).2, 0)) (fun k => ?_) (Ev.now _)
    rw [pianolaref04_Drop.l0, if_neg (by omega)]
  | m + 1, i, h => by
    have ih := rdrop_l0 ha hd hs m (i + 1) (by omega)
    have h1 := hd i (by omega)
    have h2 := hs i (by omega)
    refine Ev.step (fun k => ?_) ih
    rw [pianolaref04_Drop.l0, if_pos (by omega), if_pos (by omega), if_pos (by rw [tabL_len]; omega), if_pos (by rw [tabL_len]; omega), tabL_rd _ (by omega), tabL_rd _ (by omega), wrapN (by omega), show wrap64 (d i - s i) = d i - s i by unfold wrap64; omega]
    have e : dropF d s (i + 1) = if d i - s i > (dropF d s i).1 then (d i - s i, (i : Int)) else dropF d s i := rfl
    rw [e]
    split <;> rfl
theorem rDrop_f (ps rs : List (List S71)) (a : Int) : Ev (fun k => pianolaref04_Drop.f k (h90 ps) (h90 rs) a) (if pln ps rs a = 0 then ((dropF (demFs ps) (rowFs rs) (a.toNat + 1)).1, (dropF (demFs ps) (rowFs rs) (a.toNat + 1)).2, 0) else (0, 0, pln ps rs a)) := by
  unfold pianolaref04_Drop.f
  refine Ev.bind (rplanned_f ps rs a) ?_
  by_cases c : pln ps rs a = 0
  · obtain ⟨h, h0, h1⟩ := pln_zero.1 c
    obtain ⟨n, rfl⟩ := Int.eq_ofNat_of_zero_le h0
    simp only [if_pos c]
    refine Ev.bind (rdemands_f h (by omega)) ?_
    refine Ev.bind (rows_f h (by omega)) ?_
    exact rdrop_l0 (by omega) (fun i hi => (pl_bd h i (by omega)).1) (fun i hi => (pl_bd h i (by omega)).2) (n + 1) 0 (by omega)
  · simp only [if_neg c]
    exact Ev.now _
section
variable {d s : Nat → Int} {a : Nat} (ha : a ≤ 200)
include ha
theorem rdelay_l1 (r : Int × Int) {j : Nat} (hj : j ≤ 200) : ∀ (m i : Nat), i + m = a + 1 → ∀ b : Bool,
    (∀ b' : Bool, (b' = true ↔ b = true ∧ ∀ q, i ≤ q → q < a + 1 → d q ≤ s (q + j)) → Ev (fun k => if b' = true then some ((j : Int), 0) else pianolaref04_Delay.l0 k a (tabL d a) (tabL s (a + 200)) ((j + 1 : Nat) : Int)) r) →
    Ev (fun k => pianolaref04_Delay.l1 k a (tabL d a) (tabL s (a + 200)) j b i) r
  | 0, i, h, b, hr => by
    refine Ev.step (fun k => ?_) (hr b ⟨fun e => ⟨e, fun q _ _ => by omega⟩, And.left⟩)
    rw [pianolaref04_Delay.l1, if_neg (by omega), wrapN (by omega)]
  | m + 1, i, h, b, hr => by
    have ih := rdelay_l1 r hj m (i + 1) (by omega) (b && decide (d i ≤ s (i + j))) (fun b' hb' => hr b' (by
      rw [hb', Bool.and_eq_true, decide_eq_true_eq]
      constructor
      · rintro ⟨⟨h1, h2⟩, h3⟩
        refine ⟨h1, fun q hq hq2 => ?_⟩
        by_cases e : q = i
        · subst e; exact h2
        · exact h3 q (by omega) hq2
      · rintro ⟨h1, h2⟩
        exact ⟨⟨h1, h2 i (Nat.le_refl _) (by omega)⟩, fun q hq => h2 q (by omega)⟩))
    refine Ev.step (fun k => ?_) ih
    have ew : wrap64 ((i : Int) + (j : Int)) = ((i + j : Nat) : Int) := by unfold wrap64; omega
    rw [pianolaref04_Delay.l1, if_pos (by omega), wrapN (by omega)]
    cases b
    · rw [if_neg (by simp)]; rfl
    · rw [if_pos rfl, ew, if_pos (by omega), if_pos (by rw [tabL_len]; omega), if_pos (by omega), if_pos (by rw [tabL_len]; omega), tabL_rd _ (by omega), tabL_rd _ (by omega)]
      rfl
theorem rdelay_l0 {F : Nat} (hF : F = 201) : ∀ (m j : Nat), j + m = F → Ev (fun k => pianolaref04_Delay.l0 k a (tabL d a) (tabL s (a + 200)) j) (dlyR (delayF d s (a + 1) m j))
  | 0, j, h => by
    refine Ev.step (f := fun _ => some (0, 11)) (fun k => ?_) (Ev.now _)
    rw [pianolaref04_Delay.l0, if_neg (by omega)]
  | m + 1, j, h => by
    have ih := rdelay_l0 hF m (j + 1) (by omega)
    refine Ev.step (f := fun k => pianolaref04_Delay.l1 k a (tabL d a) (tabL s (a + 200)) j true 0) (fun k => ?_) ?_
    · rw [pianolaref04_Delay.l0, if_pos (by omega)]
    · refine rdelay_l1 ha _ (show j ≤ 200 by omega) (a + 1) 0 (by omega) true (fun b' hb' => ?_)
      have e : b' = true ↔ okD d s (a + 1) j := by
        rw [hb']
        exact ⟨fun h q hq => h.2 q (Nat.zero_le _) hq, fun h => ⟨rfl, fun q _ hq => h q hq⟩⟩
      have e2 : delayF d s (a + 1) (m + 1) j = if okD d s (a + 1) j then some j else delayF d s (a + 1) m (j + 1) := rfl
      by_cases c : b' = true
      · rw [e2, if_pos (e.1 c)]
        simp only [if_pos c]
        exact Ev.now _
      · rw [e2, if_neg (fun h => c (e.2 h))]
        simp only [if_neg c]
        exact ih
end
theorem rDelay_pos {ps rs : List (List S71)} (h : Plant ps rs) {n : Nat} (hn : n ≤ 200) (r : Int × Int) (hr : dlyR (delayF (demFs ps) (rowFs rs) (n + 1) lateN 0) = r) : Ev (fun k => pianolaref04_Delay.f k (h90 ps) (h90 rs) n) r := by
  have c : pln ps rs n = 0 := pln_zero.2 ⟨h, by omega, by omega⟩
  have ew : wrap64 ((n : Int) + 200) = ((n + 200 : Nat) : Int) := by unfold wrap64; omega
  unfold pianolaref04_Delay.f
  refine Ev.bind (rplanned_f ps rs n) ?_
  refine Ev.congr (f := fun k => (pianolaref04_demands.f k (h90 ps) (h90 rs) n).bind fun t => (pianolaref04_rows.f k (h90 ps) (h90 rs) ((n + 200 : Nat) : Int)).bind fun u => pianolaref04_Delay.l0 k n t u 0) (fun k => ?_) ?_
  · rw [if_pos c, ew]
  · refine Ev.bind (rdemands_f h (by omega)) ?_
    refine Ev.bind (rows_f h (by omega)) ?_
    rw [← hr]
    exact rdelay_l0 hn lateN_eq lateN 0 (by omega)
theorem rDelay_f (ps rs : List (List S71)) (a : Int) : Ev (fun k => pianolaref04_Delay.f k (h90 ps) (h90 rs) a) (dly ps rs a) := by
  by_cases c : pln ps rs a = 0
  · obtain ⟨h, h0, h1⟩ := pln_zero.1 c
    obtain ⟨n, rfl⟩ := Int.eq_ofNat_of_zero_le h0
    exact rDelay_pos h (by omega) _ (dly_pos c).symm
  · rw [dly_neg c]
    unfold pianolaref04_Delay.f
    refine Ev.bind (rplanned_f ps rs a) ?_
    simp only [if_neg c]
    exact Ev.now _
end Go.Proofs.Ythoeindopljmkaa.P
end
section
namespace Go.Proofs.Ythoeindopljmkaa.P
open Go.RowKit Go.Proofs.YthoeindopljmkaaW.PrintWords Go.Proofs.YthoeindopljmkaaW.PrintLast Go.Proofs.YthoeindopljmkaaW.PrintMore
set_option linter.unusedSimpArgs false
theorem rowsLaw_ev (ps rs : List (List S71)) (a : Int) (hp : ps.length ≤ 9223372036854775807) (hr : rs.length ≤ 9223372036854775807) : Ev (fun k => pianolalaw04_PumpRows.f k ps rs a) true := by
  unfold pianolalaw04_PumpRows.f
  refine Ev.bind (long_f ps hp) ?_
  have works : ∀ k, pianolalaw04_PumpRows.j0 (k + 1) a true ps rs = some true := fun k => by rw [pianolalaw04_PumpRows.j0, if_pos rfl]; rfl
  cases c1 : longB ps
  · simp only [Bool.false_eq_true, if_false]
    refine Ev.bind (long_f rs hr) ?_
    cases c2 : longB rs
    · have b1 := longB_false c1
      have b2 := longB_false c2
      refine Ev.step (fun k => by rw [pianolalaw04_PumpRows.j0, if_neg (by simp)]) ?_
      simp only [Row_f, Option.bind_some, Check_f]
      refine Ev.bind (plant_f b1 b2) ?_
      refine Ev.bind (rRow_f ps rs a) ?_
      refine Ev.bind (Drop_f ps rs a) ?_
      refine Ev.bind (rDrop_f ps rs a) ?_
      refine Ev.bind (Delay_f ps rs a) ?_
      refine Ev.bind (rDelay_f ps rs a) ?_
      simp only [if_true, Option.bind_some]
      refine Ev.bind (rCheck_f ps rs) ?_
      simp only [if_true]
      exact Ev.now _
    · exact Ev.step works (Ev.now _)
  · simp only [if_true]
    exact Ev.step works (Ev.now _)
end Go.Proofs.Ythoeindopljmkaa.P
namespace Go.Proofs.Ythoeindopljmkaa.Pure
open P Go.Proofs.YthoeindopljmkaaW.PrintWords
theorem PumpRows (l0 l1 : List (List S71)) (a : Int) (h0 : l0.length ≤ 9223372036854775807) (h1 : l1.length ≤ 9223372036854775807) (_ : (Lit.int .i64 a).wf = true) : ∃ k, pianolalaw04_PumpRows.f k l0 l1 a = some true := (rowsLaw_ev l0 l1 a h0 h1).rounds
end Go.Proofs.Ythoeindopljmkaa.Pure
end
