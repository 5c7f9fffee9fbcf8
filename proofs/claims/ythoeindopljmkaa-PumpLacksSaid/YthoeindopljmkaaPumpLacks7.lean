/- Words and contracts for a claim. -/
import Derived.Test.YthoeindopljmkaaPumpLacks6
import Derived.StillTailTactics
section
namespace Go.Proofs.Ythoeindopljmkaa.P
open Go.RowKit Go.Proofs.YthoeindopljmkaaW.PrintWords Go.Proofs.YthoeindopljmkaaW.PrintLast Go.Proofs.YthoeindopljmkaaW.PrintMore
set_option linter.unusedVariables false
set_option linter.unusedSimpArgs false
def isB (a b c : Int) : Bool := decide (b ≤ a) && decide (a ≤ c)
end Go.Proofs.Ythoeindopljmkaa.P
end
section
namespace Go.Proofs.Ythoeindopljmkaa.P
open Go.RowKit Go.Proofs.YthoeindopljmkaaW.PrintWords Go.Proofs.YthoeindopljmkaaW.PrintLast Go.Proofs.YthoeindopljmkaaW.PrintMore
open Pm
def c90 (x : S71) : S90 := ⟨x.f0, x.f1⟩
def g90 (l : List S71) : List S90 := l.map c90
theorem g90_len (l : List S71) : (g90 l).length = l.length := by simp [g90]
theorem g90_get (l : List S71) (i : Nat) : rd_T90 (g90 l) i = ⟨(rd_T71 l i).f0, (rd_T71 l i).f1⟩ := by
  unfold rd_T90 rd_T71 g90
  rw [List.getD_eq_getElem?_getD, List.getD_eq_getElem?_getD, List.getElem?_map, Int.toNat_natCast]
  cases h : l[i]? with
  | none => rfl
  | some x => rfl
theorem given_l0 (l : List S71) (hl : l.length ≤ 1000000) : ∀ (m i : Nat), i + m = l.length → Ev (fun k => pianolalaw04_given.l0 k l (g90 (l.take i)) i) (g90 l)
  | 0, i, h => by
    refine Ev.step (f := fun _ => some (g90 l)) (fun k => ?_) (Ev.now _)
    rw [pianolalaw04_given.l0, if_neg (by omega), List.take_of_length_le (by omega)]
  | m + 1, i, h => by
    refine Ev.step (fun k => ?_) (given_l0 l hl m (i + 1) (by omega))
    rw [pianolalaw04_given.l0, if_pos (by omega), if_pos (by omega), if_pos (by rw [g90_len, List.length_take]; omega), show wrap64 ((i : Int) + 1) = ((i + 1 : Nat) : Int) by unfold wrap64; omega]
    congr 1
    have hi : i < l.length := by omega
    rw [List.take_succ_eq_append_getElem hi]
    unfold g90
    rw [List.map_append]
    congr 1
    show _ = [c90 l[i]]
    have : rd_T71 l i = l[i] := by unfold rd_T71; rw [List.getD_eq_getElem?_getD, Int.toNat_natCast, List.getElem?_eq_getElem hi]; rfl
    rw [this]; rfl
theorem given_f (l : List S71) (hl : l.length ≤ 1000000) : Ev (fun k => pianolalaw04_given.f k l) (g90 l) := by
  have := given_l0 l hl l.length 0 (by omega)
  simpa [pianolalaw04_given.f, g90] using this
theorem isf (a b c : Int) : pianolaref04_is.f a b c = some (isB a b c) := by
  unfold pianolaref04_is.f isB
  by_cases h : a ≥ b
  · rw [if_pos h, decide_eq_true (show b ≤ a from h)]; rfl
  · rw [if_neg h, decide_eq_false (show ¬ b ≤ a from h)]; rfl
theorem good_is (x : S71) : good x = (isB x.f0 1 100 && isB x.f1 0 1000000) := by
  rw [Bool.eq_iff_iff, good_iff]
  unfold isB
  simp only [Bool.and_eq_true, decide_eq_true_eq]
theorem check_l0 (l : List S71) (hl : l.length ≤ 5) : ∀ (m i : Nat), i + m = l.length → Ev (fun k => pianolaref04_CheckBounds.l0 k (g90 l) i) (if ((l.drop i).any fun x => !good x) = true then 3 else 0)
  | 0, i, h => by
    refine Ev.step (f := fun _ => some 0) (fun k => ?_) (by rw [List.drop_eq_nil_of_le (by omega)]; exact Ev.now _)
    rw [pianolaref04_CheckBounds.l0, if_neg (by rw [g90_len]; omega)]
  | m + 1, i, h => by
    have hi : i < l.length := by omega
    have e : l.drop i = rd_T71 l i :: l.drop (i + 1) := by
      rw [List.drop_eq_getElem_cons hi]; congr 1
      unfold rd_T71; rw [List.getD_eq_getElem?_getD, Int.toNat_natCast, List.getElem?_eq_getElem hi]; rfl
    rw [e, List.any_cons, good_is]
    by_cases c1 : isB (rd_T71 l i).f0 1 100 = true
    · by_cases c2 : isB (rd_T71 l i).f1 0 1000000 = true
      · rw [c1, c2]
        refine Ev.step (fun k => ?_) (check_l0 l hl m (i + 1) (by omega))
        rw [pianolaref04_CheckBounds.l0, if_pos (by rw [g90_len]; omega), if_pos (by omega), isf, Option.bind_some, g90_get, if_pos c1, isf, Option.bind_some, if_pos c2, show wrap64 ((i : Int) + 1) = ((i + 1 : Nat) : Int) by unfold wrap64; omega]
      · have c2' := Bool.eq_false_iff.mpr c2
        rw [c1, c2']
        refine Ev.step (f := fun _ => some 3) (fun k => ?_) (Ev.now _)
        rw [pianolaref04_CheckBounds.l0, if_pos (by rw [g90_len]; omega), if_pos (by omega), isf, Option.bind_some, g90_get, if_pos c1, isf, Option.bind_some, if_neg c2]
    · have c1' := Bool.eq_false_iff.mpr c1
      rw [c1']
      refine Ev.step (f := fun _ => some 3) (fun k => ?_) (Ev.now _)
      rw [pianolaref04_CheckBounds.l0, if_pos (by rw [g90_len]; omega), if_pos (by omega), isf, Option.bind_some, g90_get, if_neg c1]
theorem refcheck_f (l : List S71) : Ev (fun k => pianolaref04_CheckBounds.f k (g90 l)) (cb l) := by
  unfold pianolaref04_CheckBounds.f cb
  rw [g90_len]
  by_cases c : l.length = 0
  · rw [if_pos c]; simp only [if_pos (show (l.length : Int) = 0 by omega)]; exact Ev.now _
  · rw [if_neg c]; simp only [if_neg (show ¬ (l.length : Int) = 0 by omega)]
    by_cases c5 : 5 < l.length
    · rw [if_pos c5]; simp only [if_pos (show (l.length : Int) > 5 by omega)]; exact Ev.now _
    · rw [if_neg c5]; simp only [if_neg (show ¬ (l.length : Int) > 5 by omega)]
      exact check_l0 l (by omega) l.length 0 (by omega)
end Go.Proofs.Ythoeindopljmkaa.P
end
section
namespace Pm
structure Line (f : Nat → Int) : Prop where
  zero : f 0 = 0
  step : ∀ n, f n ≤ f (n + 1)
theorem Line.mono {f : Nat → Int} (h : Line f) {m n : Nat} (hmn : m ≤ n) : f m ≤ f n := by
  induction n with
  | zero =>
    have : m = 0 := by omega
    subst this; exact Int.le_refl _
  | succ n ih =>
    by_cases c : m = n + 1
    · subst c; exact Int.le_refl _
    · exact Int.le_trans (ih (by omega)) (h.step n)
theorem Line.nonneg {f : Nat → Int} (h : Line f) (n : Nat) : 0 ≤ f n := by
  have := h.mono (Nat.zero_le n)
  have := h.zero
  omega
end Pm
end
section
namespace Pm
def preS (l : List Int) : Nat → Int
  | 0 => 0
  | n + 1 => preS l n + l.getD n 0
def served (A : Nat → Int) (c : List Int) : Nat → Int
  | 0 => 0
  | n + 1 => min (A (n + 1)) (served A c n + c.getD n 0)
theorem served_le {A : Nat → Int} (h0 : A 0 = 0) (c : List Int) : ∀ n s, s ≤ n → served A c n ≤ A s + (preS c n - preS c s)
  | 0, s, h => by
    have : s = 0 := by omega
    subst this
    simp [served, h0]
  | n + 1, s, h => by
    unfold served
    by_cases q : s = n + 1
    · subst q; omega
    · have := served_le h0 c n s (by omega)
      have : preS c (n + 1) = preS c n + c.getD n 0 := rfl
      omega
theorem served_leA {A : Nat → Int} (h0 : A 0 = 0) (c : List Int) (n : Nat) : served A c n ≤ A n := by
  have := served_le h0 c n n (Nat.le_refl _)
  omega
theorem served_line {A : Nat → Int} (hA : Line A) {c : List Int} (hc : ∀ n, 0 ≤ c.getD n 0) : Line (served A c) := by
  refine ⟨rfl, fun n => ?_⟩
  have h1 := served_leA hA.zero c n
  have h2 := hA.step n
  have h3 := hc n
  show served A c n ≤ min (A (n + 1)) (served A c n + c.getD n 0)
  omega
def through (A : Nat → Int) : List (List Int) → Nat → Int
  | [] => A
  | c :: l => through (served A c) l
theorem through_zero {A : Nat → Int} (h0 : A 0 = 0) : ∀ l : List (List Int), through A l 0 = 0
  | [] => h0
  | c :: l => through_zero (A := served A c) rfl l
end Pm
end
section
namespace Go.Proofs.Ythoeindopljmkaa.P
open Go.RowKit Go.Proofs.YthoeindopljmkaaW.PrintWords Go.Proofs.YthoeindopljmkaaW.PrintLast Go.Proofs.YthoeindopljmkaaW.PrintMore
open Pm
def firstE : List (List S71) → Int
  | [] => 0
  | l :: r => if cb l = 0 then firstE r else cb l
def chk (ps rs : List (List S71)) : Int := if ps.length = 0 ∨ rs.length = 0 then 4 else if 3 < ps.length ∨ 3 < rs.length then 5 else firstE (ps ++ rs)
theorem wrapN {n : Nat} (h : n ≤ 1000000000) : wrap64 ((n : Int) + 1) = ((n + 1 : Nat) : Int) := by unfold wrap64; omega
theorem rd_L4_nat {l : List (List S71)} {i : Nat} (h : i < l.length) : rd_L4 l i = l[i] := by
  unfold rd_L4; rw [List.getD_eq_getElem?_getD, Int.toNat_natCast, List.getElem?_eq_getElem h]; rfl
theorem concat_two (ps rs : List (List S71)) (h : ps.length ≤ 3) (h' : rs.length ≤ 3) (k : Nat) : pump_concatB.f (k + 6) [ps, rs] = some (ps ++ rs) := by
  have e0 : rd_L7 [ps, rs] 0 = ps := rfl
  have e1 : rd_L7 [ps, rs] 1 = rs := rfl
  have w0 : wrap64 (0 + 1) = 1 := by unfold wrap64; omega
  have w1 : wrap64 (1 + 1) = 2 := by unfold wrap64; omega
  have wa : wrap64 (0 + (ps.length : Int)) = ps.length := by unfold wrap64; omega
  have wb : wrap64 ((ps.length : Int) + rs.length) = ((ps.length + rs.length : Nat) : Int) := by unfold wrap64; omega
  unfold pump_concatB.f
  have le : ([ps, rs].length : Int) = 2 := rfl
  rw [le]
  rw [pump_concatB.l0, if_pos (by decide), if_pos (by decide), if_pos (by rw [le]; decide), e0, wa, if_neg (by omega), w0]
  rw [pump_concatB.l0, if_pos (by decide), if_pos (by decide), if_pos (by rw [le]; decide), e1, wb, if_neg (by omega), w1]
  rw [pump_concatB.l0, if_neg (by decide), if_pos (by omega), if_pos (by omega), show ([ps, rs].length : Int) = 2 from rfl]
  rw [pump_concatB.l1, if_pos (by decide), if_pos (by decide), if_pos (by rw [le]; decide), e0, if_pos (by simp; omega), w0]
  rw [pump_concatB.l1, if_pos (by decide), if_pos (by decide), if_pos (by rw [le]; decide), e1, if_pos (by simp; omega), w1]
  rw [pump_concatB.l1, if_neg (by decide), List.nil_append]
theorem checkV_l0 (l : List (List S71)) (hl : l.length ≤ 10) : ∀ (m i k : Nat), i + m = l.length → m < k → pump_CheckV.l0 k l l.length i = some (firstE (l.drop i))
  | 0, i, 0, h, hk => by omega
  | 0, i, k + 1, h, hk => by
    rw [pump_CheckV.l0, if_neg (by omega), List.drop_eq_nil_of_le (by omega)]; rfl
  | m + 1, i, 0, h, hk => by omega
  | m + 1, i, k + 1, h, hk => by
    rw [pump_CheckV.l0, if_pos (by omega), if_pos (by omega), if_pos (by omega), cb_f, Option.bind_some, wrapN (by omega), rd_L4_nat (by omega), List.drop_eq_getElem_cons (by omega)]
    unfold firstE
    by_cases c : cb l[i] = 0
    · rw [if_pos c, if_pos c]; exact checkV_l0 l hl m (i + 1) k (by omega) (by omega)
    · rw [if_neg c, if_neg c]
theorem Check_f (ps rs : List (List S71)) : pump_Check.f ps rs = some (chk ps rs) := by
  unfold pump_Check.f pump_CheckV.f chk
  by_cases c1 : ps.length = 0
  · rw [if_pos (by omega), if_pos (.inl c1)]; rfl
  · rw [if_neg (by omega)]
    by_cases c2 : rs.length = 0
    · rw [show ((rs.length : Int) == 0) = true by simp [c2], if_pos (.inr c2)]; rfl
    · rw [show ((rs.length : Int) == 0) = false by simp only [beq_eq_false_iff_ne]; omega, if_neg (by omega)]
      rw [show (40 : Nat) = 39 + 1 from rfl, pump_CheckV.j0, if_neg (by simp)]
      by_cases c3 : 3 < ps.length
      · rw [if_pos (by omega), if_pos (.inl c3)]
      · rw [if_neg (by omega)]
        by_cases c4 : 3 < rs.length
        · rw [if_pos (by omega), if_pos (.inr c4)]
        · rw [if_neg (by omega), if_neg (by omega), concat_two ps rs (by omega) (by omega) 33, Option.bind_some]
          have := checkV_l0 (ps ++ rs) (by simp; omega) (ps ++ rs).length 0 39 (by omega) (by simp; omega)
          rw [List.drop_zero] at this
          exact this
theorem firstE_zero : ∀ {l : List (List S71)}, firstE l = 0 ↔ ∀ x ∈ l, cb x = 0
  | [] => by simp [firstE]
  | x :: r => by
    unfold firstE
    rw [List.forall_mem_cons]
    by_cases c : cb x = 0
    · rw [if_pos c, firstE_zero (l := r)]; exact ⟨fun h => ⟨c, h⟩, And.right⟩
    · rw [if_neg c]; exact ⟨fun h => absurd h c, fun h => absurd h.1 c⟩
structure Plant (ps rs : List (List S71)) : Prop where
  p0 : 0 < ps.length
  p3 : ps.length ≤ 3
  r0 : 0 < rs.length
  r3 : rs.length ≤ 3
  p : ∀ x ∈ ps, cb x = 0
  r : ∀ x ∈ rs, cb x = 0
theorem chk_zero {ps rs : List (List S71)} : chk ps rs = 0 ↔ Plant ps rs := by
  unfold chk
  by_cases c1 : ps.length = 0 ∨ rs.length = 0
  · rw [if_pos c1]; exact ⟨fun h => by omega, fun h => by have := h.p0; have := h.r0; omega⟩
  · rw [if_neg c1]
    by_cases c2 : 3 < ps.length ∨ 3 < rs.length
    · rw [if_pos c2]; exact ⟨fun h => by omega, fun h => by have := h.p3; have := h.r3; omega⟩
    · rw [if_neg c2, firstE_zero, List.forall_mem_append]
      exact ⟨fun h => ⟨by omega, by omega, by omega, by omega, h.1, h.2⟩, fun h => ⟨h.p, h.r⟩⟩
end Go.Proofs.Ythoeindopljmkaa.P
end
section
namespace Go.Proofs.Ythoeindopljmkaa.P
open Go.RowKit Go.Proofs.YthoeindopljmkaaW.PrintWords Go.Proofs.YthoeindopljmkaaW.PrintLast Go.Proofs.YthoeindopljmkaaW.PrintMore
open Pm
def h90 (l : List (List S71)) : List (List S90) := l.map g90
theorem h90_len (l : List (List S71)) : (h90 l).length = l.length := by simp [h90]
theorem h90_get {l : List (List S71)} {i : Nat} (h : i < l.length) : rd_L5 (h90 l) (i : Int) = g90 l[i] := by
  unfold rd_L5 h90; rw [List.getD_eq_getElem?_getD, Int.toNat_natCast, List.getElem?_eq_getElem (by simpa using h)]; simp
def Brief (l : List (List S71)) : Prop := l.length ≤ 10 ∧ ∀ x ∈ l, x.length ≤ 20
instance (l : List (List S71)) : Decidable (Brief l) := by unfold Brief; infer_instance
theorem long_l0 (l : List (List S71)) (hl : l.length ≤ 9223372036854775807) : ∀ (m i : Nat), i + m = l.length → ∀ b, Ev (fun k => pianolalaw04_long.l0 k l b i) (b || (l.drop i).any fun x => decide (20 < x.length))
  | 0, i, h, b => by
    refine Ev.step (f := fun _ => some b) (fun k => ?_) (by rw [List.drop_eq_nil_of_le (by omega)]; simp only [List.any_nil, Bool.or_false]; exact Ev.now _)
    rw [pianolalaw04_long.l0, if_neg (by omega)]
  | m + 1, i, h, b => by
    rw [List.drop_eq_getElem_cons (by omega), List.any_cons]
    have e : ∀ k, pianolalaw04_long.l0 (k + 1) l b i = pianolalaw04_long.l0 k l (b || decide (20 < (l[i]'(by omega)).length)) ((i + 1 : Nat) : Int) := fun k => by
      rw [pianolalaw04_long.l0, if_pos (by omega), show wrap64 ((i : Int) + 1) = ((i + 1 : Nat) : Int) by unfold wrap64; omega]
      cases b
      · rw [if_neg (by simp), if_pos (by omega), rd_L4_nat (by omega)]
        have : decide (((l[i]'(by omega)).length : Int) > 20) = decide (20 < (l[i]'(by omega)).length) := by
          rw [decide_eq_decide]; omega
        rw [this]; rfl
      · rfl
    have := long_l0 l hl m (i + 1) (by omega) (b || decide (20 < (l[i]'(by omega)).length))
    rw [Bool.or_assoc] at this
    exact Ev.step e this
def longB (l : List (List S71)) : Bool := decide (10 < l.length) || l.any fun x => decide (20 < x.length)
theorem long_f (l : List (List S71)) (hl : l.length ≤ 9223372036854775807) : Ev (fun k => pianolalaw04_long.f k l) (longB l) := by
  unfold pianolalaw04_long.f longB
  have := long_l0 l hl l.length 0 (by omega) (decide ((l.length : Int) > 10))
  rw [List.drop_zero] at this
  rw [show decide (10 < l.length) = decide ((l.length : Int) > 10) by rw [decide_eq_decide]; omega]
  exact this
theorem longB_false {l : List (List S71)} (h : longB l = false) : Brief l := by
  unfold longB at h
  simp only [Bool.or_eq_false_iff, decide_eq_false_iff_not, List.any_eq_false, decide_eq_true_eq] at h
  exact ⟨by omega, fun x hx => by have := h.2 x hx; omega⟩
theorem row_l0 {l : List (List S71)} (h : Brief l) : ∀ (m i : Nat), i + m = l.length → Ev (fun k => pianolalaw04_row.l0 k l (h90 (l.take i)) i) (h90 l)
  | 0, i, hi => by
    refine Ev.step (f := fun _ => some (h90 l)) (fun k => ?_) (Ev.now _)
    rw [pianolalaw04_row.l0, if_neg (by omega), List.take_of_length_le (by omega)]
  | m + 1, i, hi => by
    have h1 := h.1
    have h2 := h.2 l[i] (List.getElem_mem _)
    refine Ev.step (f := fun k => (pianolalaw04_given.f k l[i]).bind fun t => pianolalaw04_row.l0 k l (h90 (l.take i) ++ [t]) ((i + 1 : Nat) : Int)) (fun k => ?_) ?_
    · rw [pianolalaw04_row.l0, if_pos (by omega), if_pos (by omega), rd_L4_nat (by omega)]
      congr 1
      funext t
      rw [if_pos (by rw [h90_len, List.length_take]; omega), wrapN (by omega)]
    · refine Ev.bind (given_f _ (by omega)) ?_
      have e : h90 (l.take i) ++ [g90 l[i]] = h90 (l.take (i + 1)) := by
        unfold h90; rw [List.take_succ_eq_append_getElem (by omega), List.map_append]; rfl
      rw [e]
      exact row_l0 h m (i + 1) (by omega)
theorem row_f {l : List (List S71)} (h : Brief l) : Ev (fun k => pianolalaw04_row.f k l) (h90 l) := by
  have := row_l0 h l.length 0 (by omega)
  exact this
theorem plant_f {ps rs : List (List S71)} (h : Brief ps) (h' : Brief rs) : Ev (fun k => pianolalaw04_plant.f k ps rs) (h90 ps, h90 rs) := by
  unfold pianolalaw04_plant.f
  refine Ev.bind (row_f h) ?_
  refine Ev.bind (row_f h') ?_
  exact Ev.now _
theorem firstE_cons (x : List S71) (r : List (List S71)) : firstE (x :: r) = if cb x = 0 then firstE r else cb x := rfl
theorem firstE_app (a b : List (List S71)) : firstE (a ++ b) = if firstE a = 0 then firstE b else firstE a := by
  induction a with
  | nil => simp [firstE]
  | cons x r ih =>
    rw [List.cons_append, firstE_cons, firstE_cons]
    by_cases c : cb x = 0
    · rw [if_pos c, if_pos c, ih]
    · rw [if_neg c, if_neg c, if_neg c]
theorem rcheck_l1 (ps rs : List (List S71)) (hl : rs.length ≤ 10) : ∀ (m i : Nat), i + m = rs.length → Ev (fun k => pianolaref04_Check.l1 k i (h90 ps) (h90 rs)) (firstE (rs.drop i))
  | 0, i, h => by
    refine Ev.step (f := fun _ => some 0) (fun k => ?_) (by rw [List.drop_eq_nil_of_le (by omega)]; exact Ev.now _)
    rw [pianolaref04_Check.l1, if_neg (by rw [h90_len]; omega)]
  | m + 1, i, h => by
    refine Ev.step (f := fun k => (pianolaref04_CheckBounds.f k (g90 (rs[i]'(by omega)))).bind fun t => if t = 0 then pianolaref04_Check.l1 k ((i + 1 : Nat) : Int) (h90 ps) (h90 rs) else some t) (fun k => ?_) ?_
    · rw [pianolaref04_Check.l1, if_pos (by rw [h90_len]; omega), if_pos (by omega), h90_get (by omega), wrapN (by omega)]
    · refine Ev.bind (refcheck_f _) ?_
      rw [List.drop_eq_getElem_cons (by omega), firstE_cons]
      by_cases c : cb (rs[i]'(by omega)) = 0
      · simp only [if_pos c]; exact rcheck_l1 ps rs hl m (i + 1) (by omega)
      · simp only [if_neg c]; exact Ev.now _
theorem rcheck_l0 (ps rs : List (List S71)) (hp : ps.length ≤ 10) (hl : rs.length ≤ 10) : ∀ (m i : Nat), i + m = ps.length → Ev (fun k => pianolaref04_Check.l0 k i (h90 ps) (h90 rs)) (if firstE (ps.drop i) = 0 then firstE rs else firstE (ps.drop i))
  | 0, i, h => by
    have := rcheck_l1 ps rs hl rs.length 0 (by omega)
    rw [List.drop_eq_nil_of_le (show ps.length ≤ i by omega), if_pos (show firstE [] = 0 from rfl)]
    refine Ev.step (fun k => ?_) this
    rw [pianolaref04_Check.l0, if_neg (by rw [h90_len]; omega)]
    rfl
  | m + 1, i, h => by
    refine Ev.step (f := fun k => (pianolaref04_CheckBounds.f k (g90 (ps[i]'(by omega)))).bind fun t => if t = 0 then pianolaref04_Check.l0 k ((i + 1 : Nat) : Int) (h90 ps) (h90 rs) else some t) (fun k => ?_) ?_
    · rw [pianolaref04_Check.l0, if_pos (by rw [h90_len]; omega), if_pos (by omega), h90_get (by omega), wrapN (by omega)]
    · refine Ev.bind (refcheck_f _) ?_
      rw [List.drop_eq_getElem_cons (by omega), firstE_cons]
      by_cases c : cb (ps[i]'(by omega)) = 0
      · simp only [if_pos c]; exact rcheck_l0 ps rs hp hl m (i + 1) (by omega)
      · simp only [if_neg c]; exact Ev.now _
theorem rCheck_f (ps rs : List (List S71)) : Ev (fun k => pianolaref04_Check.f k (h90 ps) (h90 rs)) (chk ps rs) := by
  unfold pianolaref04_Check.f chk
  rw [h90_len, h90_len]
  by_cases c1 : ps.length = 0
  · simp only [if_pos (show (ps.length : Int) = 0 by omega)]
    rw [if_pos (.inl c1)]
    refine Ev.step (f := fun _ => some 4) (fun k => ?_) (Ev.now _)
    rw [pianolaref04_Check.j0, if_pos rfl]
  · simp only [if_neg (show ¬ (ps.length : Int) = 0 by omega)]
    by_cases c2 : rs.length = 0
    · rw [show ((rs.length : Int) == 0) = true by simp [c2], if_pos (.inr c2)]
      refine Ev.step (f := fun _ => some 4) (fun k => ?_) (Ev.now _)
      rw [pianolaref04_Check.j0, if_pos rfl]
    · rw [show ((rs.length : Int) == 0) = false by simp only [beq_eq_false_iff_ne]; omega, if_neg (by omega)]
      by_cases c3 : 3 < ps.length
      · rw [if_pos (.inl c3)]
        refine Ev.step (f := fun k => pianolaref04_Check.j1 k true (h90 ps) (h90 rs)) (fun k => ?_) (Ev.step (f := fun _ => some 5) (fun k => ?_) (Ev.now _))
        · rw [pianolaref04_Check.j0, if_neg (by simp), h90_len, if_pos (by omega)]
        · rw [pianolaref04_Check.j1, if_pos rfl]
      · by_cases c4 : 3 < rs.length
        · rw [if_pos (.inr c4)]
          refine Ev.step (f := fun k => pianolaref04_Check.j1 k true (h90 ps) (h90 rs)) (fun k => ?_) (Ev.step (f := fun _ => some 5) (fun k => ?_) (Ev.now _))
          · rw [pianolaref04_Check.j0, if_neg (by simp), h90_len, if_neg (by omega), h90_len, decide_eq_true (show (rs.length : Int) > 3 by omega)]
          · rw [pianolaref04_Check.j1, if_pos rfl]
        · rw [if_neg (by omega), firstE_app]
          have := rcheck_l0 ps rs (by omega) (by omega) ps.length 0 (by omega)
          rw [List.drop_zero] at this
          refine Ev.step (f := fun k => pianolaref04_Check.j1 k false (h90 ps) (h90 rs)) (fun k => ?_) (Ev.step (fun k => ?_) this)
          · rw [pianolaref04_Check.j0, if_neg (by simp), h90_len, if_neg (by omega), h90_len, decide_eq_false (show ¬ (rs.length : Int) > 3 by omega)]
          · rw [pianolaref04_Check.j1, if_neg (by simp)]; rfl
theorem mn_min (a b : Int) : mn a b = min a b := by unfold mn; omega
end Go.Proofs.Ythoeindopljmkaa.P
end
section
namespace Pm
def comeF (D : List (List Int)) : Nat → Int
  | 0 => 0
  | n + 1 => comeF D n + (D.map fun l => l.getD n 0).sum
end Pm
end
section
namespace Pm
set_option linter.unusedSectionVars false
theorem preS_over {l : List Int} : ∀ m, l.length ≤ m → preS l m = preS l l.length
  | 0, h => by
    have : l.length = 0 := by omega
    rw [this]
  | m + 1, h => by
    by_cases c : l.length = m + 1
    · rw [c]
    · show preS l m + l.getD m 0 = _
      rw [preS_over m (by omega), List.getD_eq_getElem?_getD, List.getElem?_eq_none (by omega)]
      exact Int.add_zero _
end Pm
end
section
namespace Pm
theorem preS_range (f : Nat → Int) (T : Nat) : ∀ n, n < T → ((List.range T).map f).getD n 0 = f n := by
  intro n hn
  rw [List.getD_eq_getElem?_getD, List.getElem?_map, List.getElem?_range hn]
  rfl
end Pm
end
section
namespace Pm
def rng (f : Nat → Int) (n : Nat) : List Int := (List.range n).map f
theorem rng_len (f : Nat → Int) (n : Nat) : (rng f n).length = n := by simp [rng]
theorem rng_get (f : Nat → Int) {n i : Nat} (h : i < n) : (rng f n).getD i 0 = f i := preS_range f n i h
theorem rng_snoc (f : Nat → Int) (n : Nat) : rng f n ++ [f n] = rng f (n + 1) := by simp [rng, List.range_succ]
theorem rng_congr {f g : Nat → Int} {n : Nat} (h : ∀ i, i < n → f i = g i) : rng f n = rng g n := by
  unfold rng
  exact List.map_congr_left fun i hi => h i (List.mem_range.1 hi)
theorem rng_set (f : Nat → Int) (n q : Nat) (v : Int) : (rng f n).set q v = rng (fun i => if i = q then v else f i) n := by
  apply List.ext_getElem
  · simp [rng]
  · intro i h1 h2
    rw [List.getElem_set]
    simp only [rng, List.getElem_map, List.getElem_range]
    by_cases c : q = i
    · rw [if_pos c, if_pos c.symm]
    · rw [if_neg c, if_neg (fun h => c h.symm)]
theorem rng_zero (n : Nat) : List.replicate n (0 : Int) = rng (fun _ => 0) n := by
  apply List.ext_getElem
  · simp [rng]
  · intro i h1 h2
    simp [rng]
theorem rng_drop (f : Nat → Int) (n s : Nat) : (rng f n).drop s = rng (fun i => f (s + i)) (n - s) := by
  apply List.ext_getElem
  · simp [rng]
  · intro i h1 h2
    simp [rng]
def sumTo (f : Nat → Int) : Nat → Int
  | 0 => 0
  | n + 1 => sumTo f n + f n
theorem rng_sum (f : Nat → Int) : ∀ n, (rng f n).sum = sumTo f n
  | 0 => rfl
  | n + 1 => by
    rw [← rng_snoc, List.sum_append, rng_sum f n]
    show sumTo f n + (f n + 0) = _
    rw [Int.add_zero]
    rfl
theorem rng_of {α : Type} (g : α → Int) (d : α) (l : List α) : l.map g = rng (fun i => g (l.getD i d)) l.length := by
  apply List.ext_getElem
  · simp [rng]
  · intro i h1 h2
    simp only [rng, List.getElem_map, List.getElem_range]
    rw [List.getD_eq_getElem?_getD, List.getElem?_eq_getElem (by simpa using h1)]
    rfl
theorem map_sum {α : Type} (g : α → Int) (d : α) (l : List α) : (l.map g).sum = sumTo (fun i => g (l.getD i d)) l.length := by rw [rng_of g d l, rng_sum]
theorem sumTo_tel {f g : Nat → Int} : ∀ {n : Nat}, (∀ i, i < n → f i = g i - g (i + 1)) → sumTo f n = g 0 - g n
  | 0, _ => by show (0 : Int) = _; omega
  | n + 1, h => by
    show sumTo f n + f n = _
    rw [sumTo_tel fun i hi => h i (by omega), h n (by omega)]
    omega
theorem preS_sum (l : List Int) (s : Nat) : ∀ n, preS l (s + n) - preS l s = sumTo (fun j => l.getD (s + j) 0) n
  | 0 => by show preS l s - preS l s = 0; omega
  | n + 1 => by
    have := preS_sum l s n
    show preS l (s + n) + l.getD (s + n) 0 - preS l s = sumTo _ n + l.getD (s + n) 0
    omega
def thr (A : Nat → Int) (C : List (List Int)) : Nat → Nat → Int
  | 0 => A
  | i + 1 => served (thr A C i) (C.getD i [])
theorem thr_cons (A : Nat → Int) (c : List Int) (C : List (List Int)) : ∀ i, thr A (c :: C) (i + 1) = thr (served A c) C i
  | 0 => rfl
  | i + 1 => by
    show served (thr A (c :: C) (i + 1)) ((c :: C).getD (i + 1) []) = served (thr (served A c) C i) (C.getD i [])
    rw [thr_cons A c C i]
    rfl
theorem thr_all : ∀ (C : List (List Int)) (A : Nat → Int), thr A C C.length = through A C
  | [], _ => rfl
  | c :: C, A => by
    show thr A (c :: C) (C.length + 1) = through (served A c) C
    rw [thr_cons, thr_all C]
theorem thr_zero {A : Nat → Int} (h : A 0 = 0) (C : List (List Int)) : ∀ i, thr A C i 0 = 0
  | 0 => h
  | _ + 1 => rfl
theorem thr_step (A : Nat → Int) (C : List (List Int)) (i t : Nat) : thr A C (i + 1) (t + 1) = min (thr A C i (t + 1)) (thr A C (i + 1) t + (C.getD i []).getD t 0) := rfl
def NN (C : List (List Int)) : Prop := ∀ i n, 0 ≤ (C.getD i []).getD n 0
theorem thr_line {A : Nat → Int} (hA : Line A) {C : List (List Int)} (h : NN C) : ∀ i, Line (thr A C i)
  | 0 => hA
  | i + 1 => served_line (thr_line hA h i) (h i)
theorem thr_le {A : Nat → Int} (hA : A 0 = 0) (C : List (List Int)) (i t : Nat) : thr A C (i + 1) t ≤ thr A C i t := served_leA (thr_zero hA C i) _ t
theorem thr_leA {A : Nat → Int} (hA : A 0 = 0) (C : List (List Int)) (t : Nat) : ∀ i, thr A C i t ≤ A t
  | 0 => Int.le_refl _
  | i + 1 => Int.le_trans (thr_le hA C i t) (thr_leA hA C t i)
theorem come_line {D : List (List Int)} (h : NN D) : Line (comeF D) := by
  refine ⟨rfl, fun n => ?_⟩
  show comeF D n ≤ comeF D n + _
  have : 0 ≤ (D.map fun l => l.getD n 0).sum := by
    rw [map_sum _ []]
    have : ∀ m, 0 ≤ sumTo (fun i => (D.getD i []).getD n 0) m := by
      intro m
      induction m with
      | zero => exact Int.le_refl _
      | succ m ih => have := h m n; show 0 ≤ sumTo _ m + (D.getD m []).getD n 0; omega
    exact this _
  omega
def lackL (D C : List (List Int)) (T : Nat) : List Int := rng (fun t => comeF D (t + 1) - through (comeF D) C (t + 1)) T
def comeL (D : List (List Int)) (T : Nat) : List Int := rng (fun t => comeF D (t + 1)) T
def thrL (D C : List (List Int)) (T : Nat) : List Int := rng (fun t => through (comeF D) C (t + 1)) T
def keepsB (L : List B2) (xs : List Int) : Bool := L.all fun b => (List.range xs.length).all fun s => decide (preS xs (s + b.1.toNat) - preS xs s ≤ b.2)
def hasB (L : List B2) (xs : List Int) : Bool := L.all fun b => (List.range xs.length).all fun s => decide (xs.length < s + b.1.toNat ∨ b.2 ≤ preS xs (s + b.1.toNat) - preS xs s)
end Pm
end
section
namespace Go.Proofs.Ythoeindopljmkaa.P
open Go.RowKit Go.Proofs.YthoeindopljmkaaW.PrintWords Go.Proofs.YthoeindopljmkaaW.PrintLast Go.Proofs.YthoeindopljmkaaW.PrintMore
open Pm
set_option linter.unusedSectionVars false
theorem rng_rd (f : Nat → Int) {n i : Nat} (h : i < n) : rd (rng f n) (i : Int) = f i := rng_get f h
theorem foldW (g : Nat → Int) : ∀ (n : Nat), (∀ m, m ≤ n → -1000000000000 ≤ sumTo g m ∧ sumTo g m ≤ 1000000000000) → (rng g n).foldl (fun s v => wrap64 (s + v)) 0 = sumTo g n
  | 0, _ => rfl
  | n + 1, h => by
    rw [← rng_snoc, List.foldl_append, foldW g n fun m hm => h m (by omega)]
    have h1 := h n (by omega)
    have h2 := h (n + 1) (by omega)
    have e : sumTo g (n + 1) = sumTo g n + g n := rfl
    show wrap64 (sumTo g n + g n) = _
    unfold wrap64; omega
def Fine (xs : List Int) : Prop := xs.length ≤ 400 ∧ ∀ n, 0 ≤ xs.getD n 0 ∧ xs.getD n 0 ≤ 1000000
theorem preS_top {l : List Int} (h : Fine l) (m : Nat) : 0 ≤ preS l m ∧ preS l m ≤ 400000000 := by
  have hb : ∀ m, 0 ≤ preS l m ∧ preS l m ≤ 1000000 * m := by
    intro m
    induction m with
    | zero => simp [preS]
    | succ m ih => have := h.2 m; have e : preS l (m + 1) = preS l m + l.getD m 0 := rfl; omega
  have hl := h.1
  by_cases c : m ≤ 400
  · have := hb m; omega
  · rw [preS_over (l := l) m (by omega)]
    have := hb l.length; omega
theorem sumW_part {xs : List Int} (h : Fine xs) (f k : Nat) (hf : f ≤ xs.length) : sumW (part xs f k) = preS xs (f + k) - preS xs f := by
  obtain ⟨m, hm⟩ : ∃ m, m = min (f + k) xs.length := ⟨_, rfl⟩
  have e : part xs f k = rng (fun j => xs.getD (f + j) 0) (m - f) := by
    unfold part
    rw [← hm]
    apply List.ext_getElem
    · simp [rng]; omega
    · intro i h1 h2
      simp only [List.getElem_drop, List.getElem_take, rng, List.getElem_map, List.getElem_range]
      rw [List.getD_eq_getElem?_getD, List.getElem?_eq_getElem (by simp at h1; omega)]
      rfl
  have hs : ∀ q, sumTo (fun j => xs.getD (f + j) 0) q = preS xs (f + q) - preS xs f := fun q => (preS_sum xs f q).symm
  rw [e]
  show (rng (fun j => xs.getD (f + j) 0) (m - f)).foldl (fun s v => wrap64 (s + v)) 0 = _
  rw [foldW _ _ fun q _ => by rw [hs]; have := preS_top h (f + q); have := preS_top h f; omega, hs]
  by_cases c : f + k ≤ xs.length
  · rw [show f + (m - f) = f + k by omega]
  · rw [show f + (m - f) = xs.length by omega, preS_over (l := xs) (f + k) (by omega)]
theorem wins_true (xs : List Int) (k : Nat) (P : Int → Bool) : ∀ r f, (wins xs k true r f).all P = true ↔ ∀ s, f ≤ s → s < f + r → P (sumW (part xs s k)) = true
  | 0, f => ⟨fun _ s h1 h2 => by omega, fun _ => rfl⟩
  | r + 1, f => by
    have e : wins xs k true (r + 1) f = sumW (part xs f k) :: wins xs k true r (f + 1) := by
      show (if (decide (xs.length < f + k) && !true) = true then _ else _) = _
      rw [if_neg (by simp)]
    rw [e, List.all_cons, Bool.and_eq_true, wins_true xs k P r (f + 1)]
    constructor
    · rintro ⟨h1, h2⟩ s hs hr
      by_cases c : s = f
      · subst c; exact h1
      · exact h2 s (by omega) (by omega)
    · intro h
      exact ⟨h f (Nat.le_refl _) (by omega), fun s hs hr => h s (by omega) (by omega)⟩
theorem wins_false (xs : List Int) (k : Nat) (P : Int → Bool) : ∀ r f, (wins xs k false r f).all P = true ↔ ∀ s, f ≤ s → s < f + r → s + k ≤ xs.length → P (sumW (part xs s k)) = true
  | 0, f => ⟨fun _ s h1 h2 => by omega, fun _ => rfl⟩
  | r + 1, f => by
    by_cases c : xs.length < f + k
    · have e : wins xs k false (r + 1) f = [] := by
        show (if (decide (xs.length < f + k) && !false) = true then _ else _) = _
        rw [if_pos (by simp [c])]
      rw [e]
      exact ⟨fun _ s h1 _ h3 => by omega, fun _ => rfl⟩
    · have e : wins xs k false (r + 1) f = sumW (part xs f k) :: wins xs k false r (f + 1) := by
        show (if (decide (xs.length < f + k) && !false) = true then _ else _) = _
        rw [if_neg (by simp [c])]
      rw [e, List.all_cons, Bool.and_eq_true, wins_false xs k P r (f + 1)]
      constructor
      · rintro ⟨h1, h2⟩ s hs hr hk
        by_cases q : s = f
        · subst q; exact h1
        · exact h2 s (by omega) (by omega) hk
      · intro h
        exact ⟨h f (Nat.le_refl _) (by omega) (by omega), fun s hs hr hk => h s (by omega) (by omega) hk⟩
theorem keptL_B {xs : List Int} (h : Fine xs) (l : List S71) : keptL xs l = keepsB (bs l) xs := by
  rw [Bool.eq_iff_iff]
  unfold keptL keepsB bs
  simp only [List.all_eq_true, List.mem_range, decide_eq_true_eq, List.mem_map, forall_exists_index, and_imp, forall_apply_eq_imp_iff₂]
  refine forall_congr' fun b => forall_congr' fun hb => ?_
  rw [← List.all_eq_true, wins_true]
  constructor
  · intro H s hs
    have := H s (Nat.zero_le _) (by omega)
    rw [sumW_part h s _ (by omega), Bool.not_eq_true', decide_eq_false_iff_not] at this
    omega
  · intro H s _ hs
    have := H s (by omega)
    rw [sumW_part h s _ (by omega), Bool.not_eq_true', decide_eq_false_iff_not]
    omega
theorem hadL_B {xs : List Int} (h : Fine xs) (l : List S71) : hadL xs l = hasB (bs l) xs := by
  rw [Bool.eq_iff_iff]
  unfold hadL hasB bs
  simp only [List.all_eq_true, List.mem_range, decide_eq_true_eq, List.mem_map, forall_exists_index, and_imp, forall_apply_eq_imp_iff₂]
  refine forall_congr' fun b => forall_congr' fun hb => ?_
  rw [← List.all_eq_true, wins_false]
  constructor
  · intro H s hs
    by_cases c : s + b.f0.toNat ≤ xs.length
    · have := H s (Nat.zero_le _) (by omega) c
      rw [sumW_part h s _ (by omega), Bool.not_eq_true', decide_eq_false_iff_not] at this
      omega
    · omega
  · intro H s _ hs c
    have := H s (by omega)
    rw [sumW_part h s _ (by omega), Bool.not_eq_true', decide_eq_false_iff_not]
    omega
structure Crs (D C : List (List Int)) (T : Nat) : Prop where
  d : ∀ i, i < D.length → (D.getD i []).length = T
  c : ∀ i, i < C.length → (C.getD i []).length = T
  dn : ∀ i n, 0 ≤ (D.getD i []).getD n 0 ∧ (D.getD i []).getD n 0 ≤ 1000000
  cn : ∀ i n, 0 ≤ (C.getD i []).getD n 0 ∧ (C.getD i []).getD n 0 ≤ 1000000
  t : T ≤ 400
  d3 : D.length ≤ 3
  c3 : C.length ≤ 3
  c1 : 0 < C.length
section
variable {D C : List (List Int)} {T : Nat} (h : Crs D C T)
include h
theorem come_bd : ∀ n, 0 ≤ comeF D n ∧ comeF D n ≤ 3000000 * n
  | 0 => by show (0 : Int) ≤ 0 ∧ (0 : Int) ≤ _; omega
  | n + 1 => by
    have ih := come_bd n
    have hs : ∀ m, 0 ≤ sumTo (fun i => (D.getD i []).getD n 0) m ∧ sumTo (fun i => (D.getD i []).getD n 0) m ≤ 1000000 * m := by
      intro m
      induction m with
      | zero => show (0 : Int) ≤ 0 ∧ (0 : Int) ≤ _; omega
      | succ m ih =>
        have := h.dn m n
        have e : sumTo (fun i => (D.getD i []).getD n 0) (m + 1) = sumTo (fun i => (D.getD i []).getD n 0) m + (D.getD m []).getD n 0 := rfl
        omega
    have e : comeF D (n + 1) = comeF D n + (D.map fun l => l.getD n 0).sum := rfl
    rw [map_sum _ []] at e
    have := hs D.length
    have := h.d3
    omega
theorem come_ln : Line (comeF D) := come_line fun i n => (h.dn i n).1
theorem thr_ln (i : Nat) : Line (thr (comeF D) C i) := thr_line (come_ln h) (fun i n => (h.cn i n).1) i
theorem thr_bd (i n : Nat) : 0 ≤ thr (comeF D) C i n ∧ thr (comeF D) C i n ≤ 3000000 * n := by
  have h1 := (thr_ln h i).nonneg n
  have h2 := thr_leA (A := comeF D) rfl C n i
  have := come_bd h n
  omega
theorem come_sum (t : Nat) : comeF D (t + 1) = comeF D t + sumTo (fun i => (D.getD i []).getD t 0) D.length := by
  rw [← map_sum (fun l => l.getD t 0) []]; rfl
theorem pl_l1 {t : Nat} (ht : t < T) (X4 X9 X10 X11 : List Int) (x13 : Int) (r : List Int × List Int × Int) : ∀ (m j : Nat), j + m = D.length →
    Ev (fun k => pump_Lacks.l2 k X4 X9 X10 X11 (comeF D (t + 1)) x13 t (comeF D (t + 1) - comeF D t) T t C C.length 0 D C) r →
    Ev (fun k => pump_Lacks.l1 k X4 X9 X10 X11 (comeF D t) x13 t (sumTo (fun i => (D.getD i []).getD t 0) j) T t D D.length j D C) r
  | 0, j, hj, hr => by
    obtain rfl : j = D.length := by omega
    have e := come_sum h t
    have b := come_bd h (t + 1)
    have := h.t
    refine Ev.step (fun k => ?_) hr
    rw [pump_Lacks.l1, if_neg (by omega), show wrap64 (comeF D t + sumTo (fun i => (D.getD i []).getD t 0) D.length) = comeF D (t + 1) by unfold wrap64; omega, show sumTo (fun i => (D.getD i []).getD t 0) D.length = comeF D (t + 1) - comeF D t by omega]
  | m + 1, j, hj, hr => by
    have hs : ∀ m, 0 ≤ sumTo (fun i => (D.getD i []).getD t 0) m ∧ sumTo (fun i => (D.getD i []).getD t 0) m ≤ 1000000 * m := by
      intro m
      induction m with
      | zero => show (0 : Int) ≤ 0 ∧ (0 : Int) ≤ _; omega
      | succ m ih =>
        have := h.dn m t
        have e : sumTo (fun i => (D.getD i []).getD t 0) (m + 1) = sumTo (fun i => (D.getD i []).getD t 0) m + (D.getD m []).getD t 0 := rfl
        omega
    have h3 := h.d3
    have hl : (rd_L6 D (j : Int)).length = T := h.d j (by omega)
    have er : rd (rd_L6 D (j : Int)) (t : Int) = (D.getD j []).getD t 0 := rfl
    have b1 := hs (j + 1)
    refine Ev.step (fun k => ?_) (pl_l1 ht X4 X9 X10 X11 x13 r m (j + 1) (by omega) hr)
    rw [pump_Lacks.l1, if_pos (by omega), if_pos (by omega), if_pos (by omega), if_pos (by omega), if_pos (by omega), er, wrapN (by omega)]
    rw [show wrap64 (sumTo (fun i => (D.getD i []).getD t 0) j + (D.getD j []).getD t 0) = sumTo (fun i => (D.getD i []).getD t 0) (j + 1) by
      have e : sumTo (fun i => (D.getD i []).getD t 0) (j + 1) = sumTo (fun i => (D.getD i []).getD t 0) j + (D.getD j []).getD t 0 := rfl
      rw [e] at b1 ⊢
      unfold wrap64; omega]
omit h in
theorem total_ev (xs : List Int) (hx : xs.length ≤ 1000000) : Ev (fun k => pump_total.f k xs) (sumW xs) :=
  ⟨xs.length + 1, fun k hk => total_l0 k 0 xs 0 (Int.le_refl _) (by omega) (by omega) hx⟩
def mid (D C : List (List Int)) (t i : Nat) : List Int := rng (fun j => if j < i then thr (comeF D) C j (t + 1) - thr (comeF D) C (j + 1) (t + 1) else thr (comeF D) C j t - thr (comeF D) C (j + 1) t) C.length
theorem pl_l2 {t : Nat} (ht : t < T) (X4 X10 X11 : List Int) (h4 : X4.length ≤ 1000) (h10 : X10.length = T) (h11 : X11.length = T) (r : List Int × List Int × Int) : ∀ (m i : Nat), i + m = C.length →
  Ev (fun k => pump_Lacks.l0 k (X4 ++ [comeF D (t + 1) - through (comeF D) C (t + 1)]) (mid D C (t + 1) 0) (X10.set t (comeF D (t + 1))) (X11.set t (through (comeF D) C (t + 1))) (comeF D (t + 1)) (through (comeF D) C (t + 1)) T ((t + 1 : Nat) : Int) D C) r →
  Ev (fun k => pump_Lacks.l2 k X4 (mid D C t i) X10 X11 (comeF D (t + 1)) (through (comeF D) C t) t (thr (comeF D) C i (t + 1) - thr (comeF D) C i t) T t C C.length i D C) r
 | 0, i, hi, hr => by
  obtain rfl : i = C.length := by omega
  have hT := h.t
  have c3 := h.c3
  have b1 := thr_bd h C.length (t + 1)
  have b2 := thr_bd h C.length t
  rw [thr_all] at b1 b2
  have emid : mid D C t C.length = mid D C (t + 1) 0 := rng_congr fun j hj => by rw [if_pos hj, if_neg (by omega)]
  have hsum : sumW (mid D C (t + 1) 0) = comeF D (t + 1) - through (comeF D) C (t + 1) := by
   have hs : ∀ q, sumTo (fun j => if j < 0 then thr (comeF D) C j (t + 1 + 1) - thr (comeF D) C (j + 1) (t + 1 + 1) else thr (comeF D) C j (t + 1) - thr (comeF D) C (j + 1) (t + 1)) q = thr (comeF D) C 0 (t + 1) - thr (comeF D) C q (t + 1) := fun q => sumTo_tel (g := fun q => thr (comeF D) C q (t + 1)) fun i _ => if_neg (by omega)
   show (rng _ _).foldl _ 0 = _
   rw [foldW _ _ fun q _ => by rw [hs]; have := thr_bd h 0 (t + 1); have := thr_bd h q (t + 1); omega, hs, thr_all]
   rfl
  refine Ev.step (f := fun k => (pump_total.f k (mid D C (t + 1) 0)).bind fun s => pump_Lacks.l0 k (X4 ++ [s]) (mid D C (t + 1) 0) (X10.set t (comeF D (t + 1))) (X11.set t (through (comeF D) C (t + 1))) (comeF D (t + 1)) (through (comeF D) C (t + 1)) T ((t + 1 : Nat) : Int) D C) (fun k => ?_) (Ev.bind (total_ev _ (by rw [mid, rng_len]; omega)) ?_)
  ·
   rw [pump_Lacks.l2, if_neg (by omega), if_pos (by omega), if_pos (by omega), if_pos (by omega), thr_all, show wrap64 (through (comeF D) C t + (through (comeF D) C (t + 1) - through (comeF D) C t)) = through (comeF D) C (t + 1) by unfold wrap64; omega, Int.toNat_natCast, wrapN (by omega), emid]
   congr 1
   funext s
   rw [if_pos (by omega)]
  ·
   rw [hsum]
   exact hr
 | m + 1, i, hi, hr => by
  have hT := h.t
  have c3 := h.c3
  have hl : (rd_L6 C (i : Int)).length = T := h.c i (by omega)
  have er : rd (rd_L6 C (i : Int)) (t : Int) = (C.getD i []).getD t 0 := rfl
  have hlen : (mid D C t i).length = C.length := rng_len _ _
  have hrd : rd (mid D C t i) (i : Int) = thr (comeF D) C i t - thr (comeF D) C (i + 1) t := by
   rw [mid, rng_rd _ (by omega), if_neg (by omega)]
  have b0 := thr_bd h i t
  have b1 := thr_bd h (i + 1) t
  have b2 := thr_bd h i (t + 1)
  have b3 := thr_bd h (i + 1) (t + 1)
  have e0 := thr_step (comeF D) C i t
  have hc := h.cn i t
  have ew : wrap64 (thr (comeF D) C i t - thr (comeF D) C (i + 1) t + (thr (comeF D) C i (t + 1) - thr (comeF D) C i t)) = thr (comeF D) C i (t + 1) - thr (comeF D) C (i + 1) t := by unfold wrap64; omega
  have er2 : rd ((mid D C t i).set i (thr (comeF D) C i (t + 1) - thr (comeF D) C (i + 1) t)) (i : Int) = thr (comeF D) C i (t + 1) - thr (comeF D) C (i + 1) t := by
   rw [mid, rng_set, rng_rd _ (by omega), if_pos rfl]
  have em : mn (thr (comeF D) C i (t + 1) - thr (comeF D) C (i + 1) t) ((C.getD i []).getD t 0) = thr (comeF D) C (i + 1) (t + 1) - thr (comeF D) C (i + 1) t := by
   rw [mn_min]; omega
  have es : ((mid D C t i).set i (thr (comeF D) C i (t + 1) - thr (comeF D) C (i + 1) t)).set i (thr (comeF D) C i (t + 1) - thr (comeF D) C (i + 1) (t + 1)) = mid D C t (i + 1) := by
   rw [mid, rng_set, rng_set]
   refine rng_congr fun j hj => ?_
   by_cases q : j = i
   ·
    subst q
    rw [if_pos rfl, if_pos (by omega)]
   ·
    rw [if_neg q, if_neg q]
    by_cases q2 : j < i
    ·
     rw [if_pos q2, if_pos (by omega)]
    ·
     rw [if_neg q2, if_neg (by omega)]
  refine Ev.step (fun k => ?_) (pl_l2 ht X4 X10 X11 h4 h10 h11 r m (i + 1) (by omega) hr)
  rw [pump_Lacks.l2, if_pos (by omega), if_pos (by omega), if_pos (by omega), if_pos (by omega), hrd, ew, Int.toNat_natCast]
  show (if _ then _ else _) = _
  rw [if_pos (by omega), er2, er, em, show wrap64 (thr (comeF D) C i (t + 1) - thr (comeF D) C (i + 1) t - (thr (comeF D) C (i + 1) (t + 1) - thr (comeF D) C (i + 1) t)) = thr (comeF D) C i (t + 1) - thr (comeF D) C (i + 1) (t + 1) by unfold wrap64; omega, es, wrapN (by omega)]
end
def half (f : Nat → Int) (T t : Nat) : List Int := rng (fun j => if j < t then f (j + 1) else 0) T
theorem half_set (f : Nat → Int) (T t : Nat) : (half f T t).set t (f (t + 1)) = half f T (t + 1) := by
  unfold half
  rw [rng_set]
  refine rng_congr fun j _ => ?_
  by_cases q : j = t
  · subst q
    rw [if_pos rfl, if_pos (by omega)]
  · rw [if_neg q]
    by_cases q2 : j < t
    · rw [if_pos q2, if_pos (by omega)]
    · rw [if_neg q2, if_neg (by omega)]
theorem half_all (f : Nat → Int) (T : Nat) : half f T T = rng (fun j => f (j + 1)) T := rng_congr fun _ hj => if_pos hj
theorem half_none (f : Nat → Int) (T : Nat) : half f T 0 = List.replicate T 0 := by
  rw [rng_zero]
  exact rng_congr fun _ _ => if_neg (by omega)
def waitF (D C : List (List Int)) (T t : Nat) : Int := idxF (fun s => decide (comeF D (t + 1) ≤ s)) ((thrL D C T).drop t)
def waitL (D C : List (List Int)) (T : Nat) : List Int := rng (waitF D C T) T
theorem lackL_len (D C : List (List Int)) (T : Nat) : (lackL D C T).length = T := rng_len _ _
theorem lackL_snoc (D C : List (List Int)) (t : Nat) : lackL D C t ++ [comeF D (t + 1) - through (comeF D) C (t + 1)] = lackL D C (t + 1) := rng_snoc _ _
section
variable {D C : List (List Int)} {T : Nat} (h : Crs D C T)
include h
theorem pl_l3 : ∀ (m t : Nat), t + m = T → Ev (fun k => pump_Lacks.l3 k (lackL D C T) (rng (waitF D C T) t) (thrL D C T) (comeL D T) T t) (lackL D C T, waitL D C T, 0)
  | 0, t, ht => by
    obtain rfl : t = T := by omega
    refine Ev.step (f := fun _ => some (lackL D C t, waitL D C t, 0)) (fun k => ?_) (Ev.now _)
    rw [pump_Lacks.l3, if_neg (by omega)]
    rfl
  | m + 1, t, ht => by
    have hT := h.t
    have ih := pl_l3 m (t + 1) (by omega)
    rw [← rng_snoc] at ih
    have l1 : (thrL D C T).length = T := rng_len _ _
    have l2 : (comeL D T).length = T := rng_len _ _
    have l3 : (rng (waitF D C T) t).length = t := rng_len _ _
    have er : rd (comeL D T) (t : Int) = comeF D (t + 1) := rng_rd _ (by omega)
    have ei : index_from.f ((thrL D C T).drop t) (comeF D (t + 1)) = some (waitF D C T t) := by
      unfold index_from.f
      rw [if_pos (by rw [List.length_drop]; omega)]
      rfl
    refine Ev.step (fun k => ?_) ih
    rw [pump_Lacks.l3, if_pos (by omega), if_pos (by omega), if_pos (by omega), if_pos (by omega), er, Int.toNat_natCast, ei, wrapN (by omega)]
    show (if _ then _ else _) = _
    rw [if_pos (by omega)]
theorem pl_l0 (r : List Int × List Int × Int) (hr : Ev (fun k => pump_Lacks.l3 k (lackL D C T) [] (thrL D C T) (comeL D T) T 0) r) : ∀ (m t : Nat), t + m = T →
    Ev (fun k => pump_Lacks.l0 k (lackL D C t) (mid D C t 0) (half (comeF D) T t) (half (through (comeF D) C) T t) (comeF D t) (through (comeF D) C t) T t D C) r
  | 0, t, ht => by
    obtain rfl : t = T := by omega
    refine Ev.step (fun k => ?_) hr
    rw [pump_Lacks.l0, if_neg (by omega), half_all, half_all, rng_len]
    rfl
  | m + 1, t, ht => by
    have hT := h.t
    have ih := pl_l0 r hr m (t + 1) (by omega)
    have l0 := lackL_len D C t
    have l1 : (half (comeF D) T t).length = T := rng_len _ _
    have l2 : (half (through (comeF D) C) T t).length = T := rng_len _ _
    rw [← lackL_snoc, ← half_set, ← half_set] at ih
    have i2 := pl_l2 h (t := t) (by omega) (lackL D C t) (half (comeF D) T t) (half (through (comeF D) C) T t) (by omega) l1 l2 r C.length 0 (by omega) ih
    have i1 := pl_l1 h (t := t) (by omega) (lackL D C t) (mid D C t 0) (half (comeF D) T t) (half (through (comeF D) C) T t) (through (comeF D) C t) r D.length 0 (by omega) i2
    refine Ev.step (fun k => ?_) i1
    rw [pump_Lacks.l0, if_pos (by omega)]
    rfl
end
def shpF (d c : List (List Int)) (ps rs : List (List S71)) : Int × Int :=
  if d.length ≠ ps.length then (0, 6) else if c.length ≠ rs.length then (0, 6) else
  if otherL (d ++ c) (rd_L6 (d ++ c) 0).length = true then (0, 6) else if ((rd_L6 (d ++ c) 0).length : Int) > 400 then (0, 5) else if wrongL (d ++ c) = true then (0, 3) else ((rd_L6 (d ++ c) 0).length, 0)
theorem chkF_shp (d c : List (List Int)) (ps rs : List (List S71)) : chkF d c ps rs = if (shpF d c ps rs).2 = 0 then (if keptAll ps d = false then (0, 21) else if hadAll rs c = false then (0, 21) else shpF d c ps rs) else shpF d c ps rs := by
  unfold chkF shpF
  by_cases c1 : d.length ≠ ps.length
  · rw [if_pos c1, if_pos c1, if_neg (by decide)]
  · rw [if_neg c1, if_neg c1]
    by_cases c2 : c.length ≠ rs.length
    · rw [if_pos c2, if_pos c2, if_neg (by decide)]
    · rw [if_neg c2, if_neg c2]
      by_cases c3 : otherL (d ++ c) (rd_L6 (d ++ c) 0).length = true
      · rw [if_pos c3, if_pos c3, if_neg (by decide)]
      · rw [if_neg c3, if_neg c3]
        by_cases c4 : ((rd_L6 (d ++ c) 0).length : Int) > 400
        · rw [if_pos c4, if_pos c4, if_neg (by decide)]
        · rw [if_neg c4, if_neg c4]
          by_cases c5 : wrongL (d ++ c) = true
          · rw [if_pos c5, if_pos c5, if_neg (by decide)]
          · rw [if_neg c5, if_neg c5, if_pos rfl]
theorem getD_app_l {d c : List (List Int)} {i : Nat} (h : i < d.length) : d.getD i [] ∈ d ++ c := by
  rw [List.getD_eq_getElem?_getD, List.getElem?_eq_getElem h]
  exact List.mem_append_left _ (List.getElem_mem h)
theorem getD_app_r {d c : List (List Int)} {i : Nat} (h : i < c.length) : c.getD i [] ∈ d ++ c := by
  rw [List.getD_eq_getElem?_getD, List.getElem?_eq_getElem h]
  exact List.mem_append_right _ (List.getElem_mem h)
theorem getD_out {d : List (List Int)} {i : Nat} (h : ¬ i < d.length) : d.getD i [] = [] := by
  rw [List.getD_eq_getElem?_getD, List.getElem?_eq_none (by omega)]; rfl
theorem in_range {x : List Int} (h : ∀ v ∈ x, btw 0 v 1000000 = true) (n : Nat) : 0 ≤ x.getD n 0 ∧ x.getD n 0 ≤ 1000000 := by
  by_cases c : n < x.length
  · rw [List.getD_eq_getElem?_getD, List.getElem?_eq_getElem c]
    have := h _ (List.getElem_mem c)
    unfold btw at this
    simp only [Bool.and_eq_true, decide_eq_true_eq] at this
    exact this
  · rw [List.getD_eq_getElem?_getD, List.getElem?_eq_none (by omega)]
    exact ⟨Int.le_refl _, by decide⟩
theorem shp_zero {d c : List (List Int)} {ps rs : List (List S71)} (hP : Plant ps rs) (h : (shpF d c ps rs).2 = 0) : d.length = ps.length ∧ c.length = rs.length ∧ ∃ T : Nat, shpF d c ps rs = ((T : Int), 0) ∧ Crs d c T := by
  unfold shpF at h ⊢
  by_cases c1 : d.length ≠ ps.length
  · rw [if_pos c1] at h; exact absurd h (by decide)
  · rw [if_neg c1] at h ⊢
    by_cases c2 : c.length ≠ rs.length
    · rw [if_pos c2] at h; exact absurd h (by decide)
    · rw [if_neg c2] at h ⊢
      by_cases c3 : otherL (d ++ c) (rd_L6 (d ++ c) 0).length = true
      · rw [if_pos c3] at h; exact absurd h (by decide)
      · rw [if_neg c3] at h ⊢
        by_cases c4 : ((rd_L6 (d ++ c) 0).length : Int) > 400
        · rw [if_pos c4] at h; exact absurd h (by decide)
        · rw [if_neg c4] at h ⊢
          by_cases c5 : wrongL (d ++ c) = true
          · rw [if_pos c5] at h; exact absurd h (by decide)
          · rw [if_neg c5]
            have hlen : ∀ x ∈ d ++ c, x.length = (rd_L6 (d ++ c) 0).length := by
              intro x hx
              have : ¬ ∃ x ∈ d ++ c, ((x.length : Int) != (rd_L6 (d ++ c) 0).length) = true := fun hh => c3 (List.any_eq_true.2 hh)
              by_cases q : x.length = (rd_L6 (d ++ c) 0).length
              · exact q
              · exact absurd ⟨x, hx, bne_iff_ne.2 (by omega)⟩ this
            have hval : ∀ x ∈ d ++ c, ∀ v ∈ x, btw 0 v 1000000 = true := by
              intro x hx v hv
              cases q : btw 0 v 1000000 with
              | true => rfl
              | false => exact absurd (List.any_eq_true.2 ⟨x, hx, List.any_eq_true.2 ⟨v, hv, by rw [q]; rfl⟩⟩) c5
            have hp0 := hP.p0
            have hp3 := hP.p3
            have hr0 := hP.r0
            have hr3 := hP.r3
            refine ⟨by omega, by omega, (rd_L6 (d ++ c) 0).length, rfl, ⟨fun i hi => hlen _ (getD_app_l hi), fun i hi => hlen _ (getD_app_r hi), fun i n => ?_, fun i n => ?_, by omega, by omega, by omega, by omega⟩⟩
            · by_cases q : i < d.length
              · exact in_range (hval _ (getD_app_l q)) n
              · rw [getD_out q]; exact in_range (fun v hv => by cases hv) n
            · by_cases q : i < c.length
              · exact in_range (hval _ (getD_app_r q)) n
              · rw [getD_out q]; exact in_range (fun v hv => by cases hv) n
def lacksF (ps rs : List (List S71)) (d c : List (List Int)) : List Int × List Int × Int :=
  if chk ps rs = 0 then (if (chkF d c ps rs).2 = 0 then (lackL d c (chkF d c ps rs).1.toNat, waitL d c (chkF d c ps rs).1.toNat, 0) else ([], [], (chkF d c ps rs).2)) else ([], [], chk ps rs)
theorem chk_shp {d c : List (List Int)} {ps rs : List (List S71)} (h : (chkF d c ps rs).2 = 0) : chkF d c ps rs = shpF d c ps rs ∧ (shpF d c ps rs).2 = 0 ∧ keptAll ps d = true ∧ hadAll rs c = true := by
  rw [chkF_shp] at h ⊢
  by_cases c1 : (shpF d c ps rs).2 = 0
  · rw [if_pos c1] at h ⊢
    by_cases c2 : keptAll ps d = false
    · rw [if_pos c2] at h; exact absurd h (by decide)
    · rw [if_neg c2] at h ⊢
      by_cases c3 : hadAll rs c = false
      · rw [if_pos c3] at h; exact absurd h (by decide)
      · rw [if_neg c3]
        exact ⟨rfl, c1, by simpa using c2, by simpa using c3⟩
  · rw [if_neg c1] at h
    exact absurd h c1
def Lean0 (d : List (List Int)) : Prop := d.length ≤ 1000 ∧ ∀ x ∈ d, x.length ≤ 1000000
theorem pLacks_f (ps rs : List (List S71)) {d c : List (List Int)} (hd : Lean0 d) (hc : Lean0 c) : Ev (fun k => pump_Lacks.f k ps rs d c) (lacksF ps rs d c) := by
  unfold lacksF
  by_cases c0 : chk ps rs = 0
  · rw [if_pos c0]
    have hP := chk_zero.1 c0
    have hp0 := hP.p0
    have hp3 := hP.p3
    have hr0 := hP.r0
    have hr3 := hP.r3
    have hsm : smallB d c ps rs = true := by
      unfold smallB
      simp only [Bool.and_eq_true, decide_eq_true_eq, List.all_eq_true]
      have hb : ∀ l ∈ ps ++ rs, l.length ≤ 1000000 ∧ okTB l = true := by
        intro l hl
        have hcb : cb l = 0 := by
          rcases List.mem_append.1 hl with q | q
          · exact hP.p l q
          · exact hP.r l q
        obtain ⟨hbd, h5⟩ := bds_of hcb
        refine ⟨by omega, List.all_eq_true.2 fun b hb => ?_⟩
        have := hbd.t (b.f0, b.f1) (List.mem_map.2 ⟨b, hb, rfl⟩)
        simp only [Bool.and_eq_true, decide_eq_true_eq]
        simp only at this
        omega
      exact ⟨⟨⟨⟨⟨⟨hd.1, hc.1⟩, by omega⟩, by omega⟩, by omega⟩, fun x hx => by rcases List.mem_append.1 hx with q | q; exact hd.2 x q; exact hc.2 x q⟩, hb⟩
    have hcc : pump_Course_check.f d c ps rs = some (chkF d c ps rs) := if_pos hsm
    refine Ev.congr (f := fun k => if (chkF d c ps rs).2 = 0 then (if 0 ≤ (rs.length : Int) then (if ((rs.length : Int) : Int).toNat ≤ 35184372088832 then (if 0 ≤ (chkF d c ps rs).1 then (if ((chkF d c ps rs).1 : Int).toNat ≤ 35184372088832 then (pump_Lacks.l0 k ([] : List Int) (List.replicate ((rs.length : Int) : Int).toNat 0) (List.replicate ((chkF d c ps rs).1 : Int).toNat 0) (List.replicate ((chkF d c ps rs).1 : Int).toNat 0) 0 0 (chkF d c ps rs).1 0 d c) else (none)) else (none)) else (none)) else (none)) else (some (([] : List Int), ([] : List Int), (chkF d c ps rs).2))) (fun k => ?_) ?_
    · unfold pump_Lacks.f
      rw [Check_f, hcc]
      show (if chk ps rs = 0 then _ else _) = _
      rw [if_pos c0]
      rfl
    · by_cases c1 : (chkF d c ps rs).2 = 0
      · simp only [if_pos c1]
        obtain ⟨e, c2, hk, hh⟩ := chk_shp c1
        obtain ⟨e1, e2, T, eT, hX⟩ := shp_zero hP c2
        rw [e, eT]
        have hT := hX.t
        have h0 := pl_l0 hX _ (pl_l3 hX T 0 (by omega)) T 0 (by omega)
        refine Ev.congr (fun k => ?_) h0
        rw [if_pos (by omega), if_pos (by omega), if_pos (by omega), if_pos (by omega), half_none, half_none, Int.toNat_natCast, Int.toNat_natCast]
        rw [show mid d c 0 0 = List.replicate rs.length 0 by
          rw [rng_zero, ← e2]
          exact rng_congr fun j _ => by rw [if_neg (by omega), thr_zero (A := comeF d) rfl, thr_zero (A := comeF d) rfl]; rfl, through_zero (A := comeF d) rfl]
        rfl
      · simp only [if_neg c1]
        exact Ev.now _
  · rw [if_neg c0]
    refine Ev.congr (f := fun _ => some ([], [], chk ps rs)) (fun k => ?_) (Ev.now _)
    unfold pump_Lacks.f
    rw [Check_f]
    show (if chk ps rs = 0 then _ else _) = _
    rw [if_neg c0]
def shortB (d : List (List Int)) : Bool := decide (d.length ≤ 1000) && d.all fun x => decide (x.length ≤ 1000000)
theorem shortB_iff {d : List (List Int)} : shortB d = true ↔ Lean0 d := by
  unfold shortB Lean0
  simp only [Bool.and_eq_true, decide_eq_true_eq, List.all_eq_true]
def pump_LacksG.f (ps rs : List (List S71)) (d c : List (List Int)) : Option (List Int × List Int × Int) := if shortB d = true ∧ shortB c = true then some (lacksF ps rs d c) else none
theorem pump_LacksG.calls (A0_0 : Option Addr) (c0_0 : Nat) (l0_0 : List (List (S71))) (A0_1 : Option Addr) (c0_1 : Nat) (l0_1 : List (List (S71))) (A1_0 : Option Addr) (c1_0 : Nat) (l1_0 : List (List Int)) (A1_1 : Option Addr) (c1_1 : Nat) (l1_1 : List (List Int)) (r1 : List Int) (r2 : List Int) (r3 : Int) (w : World) (hr0_0 : Kd.C (Kd.slice 71 k71) w A0_0 l0_0.length l0_0) (hc0_0 : l0_0.length ≤ c0_0) (hr0_1 : Kd.C (Kd.slice 71 k71) w A0_1 l0_1.length l0_1) (hc0_1 : l0_1.length ≤ c0_1) (hr1_0 : Kd.C (Kd.slice 3 (Kd.int .i64)) w A1_0 l1_0.length l1_0) (hc1_0 : l1_0.length ≤ c1_0) (hr1_1 : Kd.C (Kd.slice 3 (Kd.int .i64)) w A1_1 l1_1.length l1_1) (hc1_1 : l1_1.length ≤ c1_1) (h : pump_LacksG.f l0_0 l0_1 l1_0 l1_1 = some (r1, r2, r3)) :
    Calls Try.prog 38 #[.agg #[.slice A0_0 l0_0.length c0_0, .slice A0_1 l0_1.length c0_1], .agg #[.slice A1_0 l1_0.length c1_0, .slice A1_1 l1_1.length c1_1]] w fun e w' => ∃ v0_ v1_ : Value, e = .returned (.tuple #[v0_, v1_, .int .i64 r3]) ∧ Kd.R (Kd.int .i64) 3 w' w.heap.size (fun k_ => some k_ ≠ (v1_ : Value).ownBlock) v0_ r1 ∧ Kd.R (Kd.int .i64) 3 w' w.heap.size (fun k_ => some k_ ≠ (v0_ : Value).ownBlock) v1_ r2 ∧ Below w.heap.size w w' := by
  unfold pump_LacksG.f at h
  split at h
  · rename_i hq
    obtain ⟨k, hk⟩ := (pLacks_f l0_0 l0_1 (shortB_iff.1 hq.1) (shortB_iff.1 hq.2)).rounds
    exact pump_Lacks.calls k A0_0 c0_0 l0_0 A0_1 c0_1 l0_1 A1_0 c1_0 l1_0 A1_1 c1_1 l1_1 r1 r2 r3 w hr0_0 hc0_0 hr0_1 hc0_1 hr1_0 hc1_0 hr1_1 hc1_1 (hk.trans h)
  · cases h
end Go.Proofs.Ythoeindopljmkaa.P
end
