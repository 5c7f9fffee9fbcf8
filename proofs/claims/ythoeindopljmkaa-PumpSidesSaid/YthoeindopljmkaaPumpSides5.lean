/- Words and contracts for a claim. -/
import Derived.Test.YthoeindopljmkaaPumpSides4
import Derived.Lib.SliceRun
section
namespace Go.Proofs.Ythoeindopljmkaa.P
open Go.RowKit Go.Proofs.YthoeindopljmkaaW.PrintWords Go.Proofs.YthoeindopljmkaaW.PrintLast Go.Proofs.YthoeindopljmkaaW.PrintMore
set_option linter.unusedVariables false
set_option linter.unusedSimpArgs false
theorem btw_iff {a b c : Int} : btw a b c = true ↔ a ≤ b ∧ b ≤ c := by simp [btw]
end Go.Proofs.Ythoeindopljmkaa.P
end
section
namespace Pm
abbrev B2 := Int × Int
structure Bds (L : List B2) : Prop where
  ne : L ≠ []
  t : ∀ b ∈ L, 1 ≤ b.1 ∧ b.1 ≤ 100
  a : ∀ b ∈ L, 0 ≤ b.2 ∧ b.2 ≤ 1000000
def minFrom (f : B2 → Int) : List B2 → Int → Int → Int → Int × Int
  | [], _, s, k => (s, k)
  | b :: l, i, s, k => if i = 0 ∨ f b < s then minFrom f l (i + 1) (f b) i else minFrom f l (i + 1) s k
def maxFrom (n : Int) (f : B2 → Int) : List B2 → Int → Int → Int → Int × Int
  | [], _, s, k => (s, k)
  | b :: l, i, s, k => if b.1 ≤ n ∧ f b > s then maxFrom n f l (i + 1) (f b) i else maxFrom n f l (i + 1) s k
theorem minFrom_le (f : B2 → Int) : ∀ (l : List B2) (i s k : Int), 0 < i → (minFrom f l i s k).1 ≤ s ∧ ∀ b ∈ l, (minFrom f l i s k).1 ≤ f b
  | [], _, s, k, _ => ⟨Int.le_refl _, fun _ h => by cases h⟩
  | b :: l, i, s, k, hi => by
    unfold minFrom
    by_cases c : i = 0 ∨ f b < s
    · rw [if_pos c]
      obtain ⟨h1, h2⟩ := minFrom_le f l (i + 1) (f b) i (by omega)
      refine ⟨by omega, fun x hx => ?_⟩
      cases hx with
      | head => exact h1
      | tail _ hx => exact h2 x hx
    · rw [if_neg c]
      obtain ⟨h1, h2⟩ := minFrom_le f l (i + 1) s k (by omega)
      refine ⟨h1, fun x hx => ?_⟩
      cases hx with
      | head => omega
      | tail _ hx => exact h2 x hx
theorem minFrom_at (f : B2 → Int) : ∀ (l pre : List B2) (s k : Int), (k = -1 ∧ pre = [] ∨ ∃ j : Nat, k = j ∧ ∃ b, (pre ++ l)[j]? = some b ∧ j < pre.length ∧ f b = s) →
    (minFrom f l (pre.length : Int) s k = (s, k) ∧ l = [] ∧ pre = []) ∨ ∃ j : Nat, (minFrom f l (pre.length : Int) s k).2 = j ∧ ∃ b, (pre ++ l)[j]? = some b ∧ f b = (minFrom f l (pre.length : Int) s k).1
  | [], pre, s, k, h => by
    rcases h with ⟨h1, h2⟩ | ⟨j, hj, b, hb, _, hf⟩
    · exact .inl ⟨rfl, rfl, h2⟩
    · exact .inr ⟨j, hj, b, hb, hf⟩
  | b :: l, pre, s, k, h => by
    have e : pre ++ b :: l = (pre ++ [b]) ++ l := by simp
    have el : ((pre ++ [b]).length : Int) = (pre.length : Int) + 1 := by simp
    unfold minFrom
    by_cases c : (pre.length : Int) = 0 ∨ f b < s
    · rw [if_pos c, ← el, e]
      rcases minFrom_at f l (pre ++ [b]) (f b) pre.length (.inr ⟨pre.length, rfl, b, by simp, by simp, rfl⟩) with ⟨_, _, h3⟩ | h
      · simp at h3
      · exact .inr h
    · rw [if_neg c, ← el, e]
      rcases h with ⟨h1, h2⟩ | ⟨j, hj, x, hx, hlt, hf⟩
      · exact absurd (.inl (by rw [h2]; rfl)) c
      · rcases minFrom_at f l (pre ++ [b]) s k (.inr ⟨j, hj, x, by rw [← e]; exact hx, by simp; omega, hf⟩) with ⟨_, _, h3⟩ | h
        · simp at h3
        · exact .inr h
theorem maxFrom_le (n : Int) (f : B2 → Int) : ∀ (l : List B2) (i s k : Int), s ≤ (maxFrom n f l i s k).1 ∧ ∀ b ∈ l, b.1 ≤ n → f b ≤ (maxFrom n f l i s k).1
  | [], _, s, k => ⟨Int.le_refl _, fun _ h => by cases h⟩
  | b :: l, i, s, k => by
    unfold maxFrom
    by_cases c : b.1 ≤ n ∧ f b > s
    · rw [if_pos c]
      obtain ⟨h1, h2⟩ := maxFrom_le n f l (i + 1) (f b) i
      refine ⟨by omega, fun x hx hn => ?_⟩
      cases hx with
      | head => exact h1
      | tail _ hx => exact h2 x hx hn
    · rw [if_neg c]
      obtain ⟨h1, h2⟩ := maxFrom_le n f l (i + 1) s k
      refine ⟨h1, fun x hx hn => ?_⟩
      cases hx with
      | head => omega
      | tail _ hx => exact h2 x hx hn
theorem maxFrom_at (n : Int) (f : B2 → Int) : ∀ (l pre : List B2) (s0 s k : Int), (k = -1 ∧ s = s0 ∨ ∃ j : Nat, k = j ∧ ∃ b, (pre ++ l)[j]? = some b ∧ f b = s ∧ b.1 ≤ n) →
    ((maxFrom n f l (pre.length : Int) s k).2 = -1 ∧ (maxFrom n f l (pre.length : Int) s k).1 = s0) ∨ ∃ j : Nat, (maxFrom n f l (pre.length : Int) s k).2 = j ∧ ∃ b, (pre ++ l)[j]? = some b ∧ f b = (maxFrom n f l (pre.length : Int) s k).1 ∧ b.1 ≤ n
  | [], pre, s0, s, k, h => by
    rcases h with ⟨h1, h2⟩ | ⟨j, hj, b, hb, hf, hn⟩
    · exact .inl ⟨h1, h2⟩
    · exact .inr ⟨j, hj, b, hb, hf, hn⟩
  | b :: l, pre, s0, s, k, h => by
    have e : pre ++ b :: l = (pre ++ [b]) ++ l := by simp
    have el : ((pre ++ [b]).length : Int) = (pre.length : Int) + 1 := by simp
    unfold maxFrom
    by_cases c : b.1 ≤ n ∧ f b > s
    · rw [if_pos c, ← el, e]
      exact maxFrom_at n f l (pre ++ [b]) s0 (f b) pre.length (.inr ⟨pre.length, rfl, b, by simp, rfl, c.1⟩)
    · rw [if_neg c, ← el, e]
      exact maxFrom_at n f l (pre ++ [b]) s0 s k (by rw [← e]; exact h)
def stepM (L : List B2) (s : List Int) : Int × Int := minFrom (fun b => s.getD (max 0 ((s.length : Int) - b.1)).toNat 0 + b.2) L 0 0 0
def stepL (L : List B2) (s : List Int) : Int × Int := maxFrom (s.length : Int) (fun b => s.getD ((s.length : Int) - b.1).toNat 0 + b.2) L 0 (s.getD (s.length - 1) 0) (-1)
def tabF (R : List Int → Int × Int) : Nat → List Int × List Int
  | 0 => ([0], [-1])
  | n + 1 => ((tabF R n).1 ++ [(R (tabF R n).1).1], (tabF R n).2 ++ [(R (tabF R n).1).2])
theorem tabF_len (R : List Int → Int × Int) : ∀ n, (tabF R n).1.length = n + 1 ∧ (tabF R n).2.length = n + 1
  | 0 => ⟨rfl, rfl⟩
  | n + 1 => by
    obtain ⟨h1, h2⟩ := tabF_len R n
    simp [tabF, h1, h2]
def valF (R : List Int → Int × Int) (n : Nat) : Int := (tabF R n).1.getD n 0
def lastF (R : List Int → Int × Int) (n : Nat) : Int := (tabF R n).2.getD n 0
theorem tabF_get (R : List Int → Int × Int) : ∀ (n m : Nat), m ≤ n → (tabF R n).1.getD m 0 = valF R m ∧ (tabF R n).2.getD m 0 = lastF R m
  | 0, m, h => by
    have : m = 0 := by omega
    subst this
    exact ⟨rfl, rfl⟩
  | n + 1, m, h => by
    by_cases c : m = n + 1
    · subst c; exact ⟨rfl, rfl⟩
    · obtain ⟨h1, h2⟩ := tabF_get R n m (by omega)
      obtain ⟨l1, l2⟩ := tabF_len R n
      simp only [tabF]
      rw [List.getD_eq_getElem?_getD, List.getElem?_append_left (by omega), ← List.getD_eq_getElem?_getD, h1, List.getD_eq_getElem?_getD, List.getElem?_append_left (by omega), ← List.getD_eq_getElem?_getD, h2]
      exact ⟨rfl, rfl⟩
theorem valF_succ (R : List Int → Int × Int) (n : Nat) : valF R (n + 1) = (R (tabF R n).1).1 ∧ lastF R (n + 1) = (R (tabF R n).1).2 := by
  obtain ⟨l1, l2⟩ := tabF_len R n
  unfold valF lastF
  simp only [tabF]
  rw [List.getD_eq_getElem?_getD, List.getElem?_append_right (by omega), List.getD_eq_getElem?_getD, List.getElem?_append_right (by omega), l1, l2]
  simp
def mst (L : List B2) : Nat → Int := valF (stepM L)
def lst (L : List B2) : Nat → Int := valF (stepL L)
section
variable {L : List B2} (h : Bds L)
include h
theorem mst_spec (n : Nat) : (∀ b ∈ L, mst L (n + 1) ≤ mst L (n + 1 - b.1.toNat) + b.2) ∧ ∃ j : Nat, lastF (stepM L) (n + 1) = j ∧ ∃ b, L[j]? = some b ∧ mst L (n + 1) = mst L (n + 1 - b.1.toNat) + b.2 := by
  obtain ⟨l1, _⟩ := tabF_len (stepM L) n
  have hg : ∀ b ∈ L, (tabF (stepM L) n).1.getD (max 0 (((tabF (stepM L) n).1.length : Int) - b.1)).toNat 0 = mst L (n + 1 - b.1.toNat) := by
    intro b hb
    have := h.t b hb
    rw [show (max 0 (((tabF (stepM L) n).1.length : Int) - b.1)).toNat = n + 1 - b.1.toNat by omega]
    exact (tabF_get (stepM L) n _ (by omega)).1
  have hv := valF_succ (stepM L) n
  have hne := h.ne
  constructor
  · intro b hb
    show valF (stepM L) (n + 1) ≤ _
    rw [hv.1, ← hg b hb]
    unfold stepM
    cases L with
    | nil => exact absurd rfl hne
    | cons c l =>
      unfold minFrom
      rw [if_pos (.inl rfl)]
      obtain ⟨m1, m2⟩ := minFrom_le (fun b => (tabF (stepM (c :: l)) n).1.getD (max 0 (((tabF (stepM (c :: l)) n).1.length : Int) - b.1)).toNat 0 + b.2) l (0 + 1) ((tabF (stepM (c :: l)) n).1.getD (max 0 (((tabF (stepM (c :: l)) n).1.length : Int) - c.1)).toNat 0 + c.2) 0 (by omega)
      cases hb with
      | head => exact m1
      | tail _ hb => exact m2 b hb
  · rw [hv.2]
    show ∃ j : Nat, _ ∧ ∃ b, _ ∧ valF (stepM L) (n + 1) = _
    rw [hv.1]
    have := minFrom_at (fun b => (tabF (stepM L) n).1.getD (max 0 (((tabF (stepM L) n).1.length : Int) - b.1)).toNat 0 + b.2) L [] 0 0
    unfold stepM
    cases L with
    | nil => exact absurd rfl hne
    | cons c l =>
      unfold minFrom
      rw [if_pos (.inl rfl)]
      rcases minFrom_at (fun b => (tabF (stepM (c :: l)) n).1.getD (max 0 (((tabF (stepM (c :: l)) n).1.length : Int) - b.1)).toNat 0 + b.2) l [c] ((tabF (stepM (c :: l)) n).1.getD (max 0 (((tabF (stepM (c :: l)) n).1.length : Int) - c.1)).toNat 0 + c.2) 0 (.inr ⟨0, rfl, c, rfl, by simp, rfl⟩) with ⟨_, _, h3⟩ | ⟨j, hj, b, hb, hf⟩
      · simp at h3
      · refine ⟨j, hj, b, hb, ?_⟩
        rw [← hg b (List.mem_of_getElem? hb)]
        exact hf.symm
theorem lst_spec (n : Nat) : lst L n ≤ lst L (n + 1) ∧ (∀ b ∈ L, b.1 ≤ (n : Int) + 1 → lst L (n + 1 - b.1.toNat) + b.2 ≤ lst L (n + 1)) ∧
    ((lastF (stepL L) (n + 1) = -1 ∧ lst L (n + 1) = lst L n) ∨ ∃ j : Nat, lastF (stepL L) (n + 1) = j ∧ ∃ b, L[j]? = some b ∧ b.1 ≤ (n : Int) + 1 ∧ lst L (n + 1) = lst L (n + 1 - b.1.toNat) + b.2) := by
  obtain ⟨l1, _⟩ := tabF_len (stepL L) n
  have hg : ∀ b ∈ L, b.1 ≤ (n : Int) + 1 → (tabF (stepL L) n).1.getD (((tabF (stepL L) n).1.length : Int) - b.1).toNat 0 = lst L (n + 1 - b.1.toNat) := by
    intro b hb hn
    have := h.t b hb
    rw [show (((tabF (stepL L) n).1.length : Int) - b.1).toNat = n + 1 - b.1.toNat by omega]
    exact (tabF_get (stepL L) n _ (by omega)).1
  have h0 : (tabF (stepL L) n).1.getD ((tabF (stepL L) n).1.length - 1) 0 = lst L n := by
    rw [l1]
    exact (tabF_get (stepL L) n n (by omega)).1
  have hv := valF_succ (stepL L) n
  have hm := maxFrom_le ((tabF (stepL L) n).1.length : Int) (fun b => (tabF (stepL L) n).1.getD (((tabF (stepL L) n).1.length : Int) - b.1).toNat 0 + b.2) L 0 ((tabF (stepL L) n).1.getD ((tabF (stepL L) n).1.length - 1) 0) (-1)
  have ha := maxFrom_at ((tabF (stepL L) n).1.length : Int) (fun b => (tabF (stepL L) n).1.getD (((tabF (stepL L) n).1.length : Int) - b.1).toNat 0 + b.2) L [] ((tabF (stepL L) n).1.getD ((tabF (stepL L) n).1.length - 1) 0) ((tabF (stepL L) n).1.getD ((tabF (stepL L) n).1.length - 1) 0) (-1) (.inl ⟨rfl, rfl⟩)
  have ev : lst L (n + 1) = (stepL L (tabF (stepL L) n).1).1 := hv.1
  have el : lastF (stepL L) (n + 1) = (stepL L (tabF (stepL L) n).1).2 := hv.2
  have es : stepL L (tabF (stepL L) n).1 = maxFrom ((tabF (stepL L) n).1.length : Int) (fun b => (tabF (stepL L) n).1.getD (((tabF (stepL L) n).1.length : Int) - b.1).toNat 0 + b.2) L 0 ((tabF (stepL L) n).1.getD ((tabF (stepL L) n).1.length - 1) 0) (-1) := rfl
  rw [es] at ev el
  simp only [List.length_nil] at ha
  rw [show ((0 : Nat) : Int) = 0 from rfl, ← ev, ← el] at ha
  rw [← ev] at hm
  rw [h0] at hm ha
  refine ⟨hm.1, fun b hb hn => ?_, ?_⟩
  · have := hm.2 b hb (by rw [l1]; omega)
    rw [hg b hb hn] at this
    exact this
  · rcases ha with ⟨h1, h2⟩ | ⟨j, hj, b, hb, hf, hn⟩
    · exact .inl ⟨h1, h2⟩
    · have hb' : L[j]? = some b := hb
      have hn' : b.1 ≤ (n : Int) + 1 := by rw [l1] at hn; omega
      refine .inr ⟨j, hj, b, hb', hn', ?_⟩
      rw [← hf]
      rw [hg b (List.mem_of_getElem? hb') hn']
theorem mst_nonneg : ∀ n, 0 ≤ mst L n := by
  intro n
  induction n using Nat.strongRecOn with
  | _ n ih =>
    cases n with
    | zero => exact Int.le_refl _
    | succ n =>
      obtain ⟨_, j, _, b, hb, e⟩ := mst_spec h n
      have hbm := List.mem_of_getElem? hb
      have := h.t b hbm
      have := h.a b hbm
      have := ih (n + 1 - b.1.toNat) (by omega)
      omega
theorem mst_step : ∀ n, mst L n ≤ mst L (n + 1) := by
  intro n
  induction n using Nat.strongRecOn with
  | _ n ih =>
    obtain ⟨_, j, _, b, hb, e⟩ := mst_spec h n
    have hbm := List.mem_of_getElem? hb
    have ht := h.t b hbm
    have ha := h.a b hbm
    cases n with
    | zero =>
      have := mst_nonneg h 1
      exact this
    | succ n =>
      have h1 := (mst_spec h n).1 b hbm
      by_cases c : (b.1.toNat) ≤ n + 1
      · have h2 := ih (n + 1 - b.1.toNat) (by omega)
        rw [show n + 1 - b.1.toNat + 1 = n + 1 + 1 - b.1.toNat by omega] at h2
        omega
      · rw [show n + 1 - b.1.toNat = n + 1 + 1 - b.1.toNat by omega] at h1
        omega
theorem mst_mono {m n : Nat} (hmn : m ≤ n) : mst L m ≤ mst L n := by
  induction n with
  | zero =>
    have : m = 0 := by omega
    subst this; exact Int.le_refl _
  | succ n ih =>
    by_cases c : m = n + 1
    · subst c; exact Int.le_refl _
    · exact Int.le_trans (ih (by omega)) (mst_step h n)
theorem mst_bd : ∀ n : Nat, mst L n ≤ 1000000 * n := by
  intro n
  induction n with
  | zero => exact Int.le_refl _
  | succ n ih =>
    obtain ⟨c, l, e⟩ := List.exists_cons_of_ne_nil h.ne
    have hc : c ∈ L := by rw [e]; exact List.mem_cons_self ..
    have h1 := (mst_spec h n).1 c hc
    have ha := h.a c hc
    have ht := h.t c hc
    have h2 := mst_mono h (show n + 1 - c.1.toNat ≤ n by omega)
    omega
theorem lst_mono {m n : Nat} (hmn : m ≤ n) : lst L m ≤ lst L n := by
  induction n with
  | zero =>
    have : m = 0 := by omega
    subst this; exact Int.le_refl _
  | succ n ih =>
    by_cases c : m = n + 1
    · subst c; exact Int.le_refl _
    · exact Int.le_trans (ih (by omega)) (lst_spec h n).1
theorem lst_nonneg (n : Nat) : 0 ≤ lst L n := lst_mono h (Nat.zero_le n)
theorem lst_bd : ∀ n : Nat, lst L n ≤ 1000000 * n := by
  intro n
  induction n using Nat.strongRecOn with
  | _ n ih =>
    cases n with
    | zero => exact Int.le_refl _
    | succ n =>
      rcases (lst_spec h n).2.2 with ⟨_, e⟩ | ⟨j, _, b, hb, hn, e⟩
      · have := ih n (by omega)
        omega
      · have hbm := List.mem_of_getElem? hb
        have ht := h.t b hbm
        have ha := h.a b hbm
        have := ih (n + 1 - b.1.toNat) (by omega)
        omega
end
end Pm
end
section
namespace Go.Proofs.Ythoeindopljmkaa.P
open Go.RowKit Go.Proofs.YthoeindopljmkaaW.PrintWords Go.Proofs.YthoeindopljmkaaW.PrintLast Go.Proofs.YthoeindopljmkaaW.PrintMore
open Pm
def bs (l : List S71) : List B2 := l.map fun b => (b.f0, b.f1)
theorem bs_drop (l : List S71) {i : Nat} (h : i < l.length) : (bs l).drop i = ((rd_T71 l i).f0, (rd_T71 l i).f1) :: (bs l).drop (i + 1) := by
  have hl : i < (bs l).length := by simpa [bs] using h
  rw [List.drop_eq_getElem_cons hl]
  congr 1
  unfold rd_T71
  rw [List.getD_eq_getElem?_getD, Int.toNat_natCast, List.getElem?_eq_getElem h]
  simp [bs]
theorem mx_max (a b : Int) : mx a b = max a b := by unfold mx; omega
def Small (s : List Int) : Prop := ∀ n, 0 ≤ s.getD n 0 ∧ s.getD n 0 ≤ 1000000000
theorem most_l0 {l : List S71} (hb : Bds (bs l)) (hl : l.length ≤ 1000) (s t : List Int) (hs : Small s) (hn : 0 < s.length) (hn2 : s.length ≤ 1000) : ∀ (k : Nat) (i : Nat) (x4 x5 : Int), i ≤ l.length → l.length - i < k →
    pump_bounds_most.l0 k x4 x5 s.length l l.length i s t = some (minFrom (fun b => s.getD (max 0 ((s.length : Int) - b.1)).toNat 0 + b.2) ((bs l).drop i) i x4 x5)
  | 0, i, x4, x5, hi, hk => by omega
  | k + 1, i, x4, x5, hi, hk => by
    unfold pump_bounds_most.l0
    by_cases c : i < l.length
    · have hm : ((rd_T71 l i).f0, (rd_T71 l i).f1) ∈ bs l := List.mem_of_mem_drop (i := i) (by rw [bs_drop l c]; exact List.mem_cons_self)
      have ht := hb.t _ hm
      have ha := hb.a _ hm
      dsimp only at ht ha
      have e1 : wrap64 ((s.length : Int) - (rd_T71 l i).f0) = (s.length : Int) - (rd_T71 l i).f0 := by unfold wrap64; omega
      have e2 : wrap64 ((i : Int) + 1) = ((i + 1 : Nat) : Int) := by unfold wrap64; omega
      have hj := hs (max 0 ((s.length : Int) - (rd_T71 l i).f0)).toNat
      have e3 : wrap64 (rd s (mx 0 (wrap64 ((s.length : Int) - (rd_T71 l i).f0))) + (rd_T71 l i).f1) = s.getD (max 0 ((s.length : Int) - (rd_T71 l i).f0)).toNat 0 + (rd_T71 l i).f1 := by
        rw [e1, mx_max]
        show wrap64 (s.getD _ 0 + _) = _
        unfold wrap64; omega
      rw [if_pos (by omega), if_pos (by omega), if_pos (by omega), if_pos (by rw [e1, mx_max]; omega), if_pos (by rw [e1, mx_max]; omega), e3, e2, bs_drop l c]
      have ih := fun a b => most_l0 hb hl s t hs hn hn2 k (i + 1) a b (by omega) (by omega)
      unfold minFrom
      by_cases c0 : i = 0
      · rw [if_pos (by omega), ih, if_pos (.inl (by omega))]
        rfl
      · rw [if_neg (by omega)]
        by_cases c4 : s.getD (max 0 ((s.length : Int) - (rd_T71 l i).f0)).toNat 0 + (rd_T71 l i).f1 < x4
        · rw [if_pos c4, ih, if_pos (.inr c4)]; rfl
        · rw [if_neg c4, ih, if_neg (by rintro (h | h); omega; exact c4 h)]; rfl
    · rw [if_neg (by omega), List.drop_eq_nil_of_le (by simp [bs]; omega)]
      rfl
theorem tab_out (R : List Int → Int × Int) (n m : Nat) (h : n < m) : (tabF R n).1.getD m 0 = 0 := by
  rw [List.getD_eq_getElem?_getD, List.getElem?_eq_none (by rw [(tabF_len R n).1]; omega)]; rfl
theorem small_most {L : List B2} (hb : Bds L) {n : Nat} (hn : n ≤ 500) : Small (tabF (stepM L) n).1 := fun m => by
  by_cases c : m ≤ n
  · rw [(tabF_get _ n m c).1]
    have h1 := mst_nonneg hb m
    have h2 := mst_bd hb m
    unfold mst at h1 h2
    omega
  · rw [tab_out _ n m (by omega)]; omega
theorem small_least {L : List B2} (hb : Bds L) {n : Nat} (hn : n ≤ 500) : Small (tabF (stepL L) n).1 := fun m => by
  by_cases c : m ≤ n
  · rw [(tabF_get _ n m c).1]
    have h1 := lst_nonneg hb m
    have h2 := lst_bd hb m
    unfold lst at h1 h2
    omega
  · rw [tab_out _ n m (by omega)]; omega
theorem most_f {l : List S71} (hb : Bds (bs l)) (hl : l.length ≤ 1000) {n : Nat} (hn : n ≤ 500) (t : List Int) : pump_bounds_most.f (l.length + 1) l (tabF (stepM (bs l)) n).1 t = some (stepM (bs l) (tabF (stepM (bs l)) n).1) := by
  unfold pump_bounds_most.f
  have h := most_l0 hb hl (tabF (stepM (bs l)) n).1 t (small_most hb hn) (by rw [(tabF_len _ n).1]; omega) (by rw [(tabF_len _ n).1]; omega) (l.length + 1) 0 0 0 (Nat.zero_le _) (by omega)
  rw [List.drop_zero] at h
  exact h
theorem tabledm_l0 {l : List S71} (hb : Bds (bs l)) (hl : l.length ≤ 1000) {a : Nat} (ha : a ≤ 400) : ∀ (k m : Nat), m ≤ a → a - m + 1 < k → pump_tabledR.l0 pump_bounds_most.f k l a (tabF (stepM (bs l)) m).1 (tabF (stepM (bs l)) m).2 = some (tabF (stepM (bs l)) a)
  | 0, m, _, hk => by omega
  | k + 1, m, hm, hk => by
    unfold pump_tabledR.l0
    have l1 := tabF_len (stepM (bs l)) m
    by_cases c : m < a
    · have e := tabledm_l0 hb hl ha k (m + 1) (by omega) (by omega)
      rw [if_pos (by rw [l1.1]; omega), most_f hb hl (by omega), Option.bind_some, if_pos (by rw [l1.1]; omega), if_pos (by rw [l1.2]; omega)]
      exact e
    · obtain rfl : m = a := by omega
      rw [if_neg (by rw [l1.1]; omega)]
theorem tabled_most_f {l : List S71} (hb : Bds (bs l)) (hl : l.length ≤ 1000) {a : Nat} (ha : a ≤ 400) : tabled_most.f l a = some (tabF (stepM (bs l)) a) := by
  unfold tabled_most.f pump_tabledR.f
  exact tabledm_l0 hb hl ha _ 0 (Nat.zero_le _) (by rw [Int.toNat_natCast]; omega)
theorem least_l0 {l : List S71} (hb : Bds (bs l)) (hl : l.length ≤ 1000) (s t : List Int) (hs : Small s) (hn : 0 < s.length) (hn2 : s.length ≤ 1000) : ∀ (k : Nat) (i : Nat) (x4 x5 : Int), i ≤ l.length → l.length - i < k →
    pump_bounds_least.l0 k x4 x5 s.length l l.length i s t = some (maxFrom (s.length : Int) (fun b => s.getD ((s.length : Int) - b.1).toNat 0 + b.2) ((bs l).drop i) i x4 x5)
  | 0, i, x4, x5, hi, hk => by omega
  | k + 1, i, x4, x5, hi, hk => by
    unfold pump_bounds_least.l0
    by_cases c : i < l.length
    · have hm : ((rd_T71 l i).f0, (rd_T71 l i).f1) ∈ bs l := List.mem_of_mem_drop (i := i) (by rw [bs_drop l c]; exact List.mem_cons_self)
      have ht := hb.t _ hm
      have ha := hb.a _ hm
      dsimp only at ht ha
      have e1 : wrap64 ((s.length : Int) - (rd_T71 l i).f0) = (s.length : Int) - (rd_T71 l i).f0 := by unfold wrap64; omega
      have e2 : wrap64 ((i : Int) + 1) = ((i + 1 : Nat) : Int) := by unfold wrap64; omega
      have hj := hs ((s.length : Int) - (rd_T71 l i).f0).toNat
      have e3 : wrap64 (rd s (wrap64 ((s.length : Int) - (rd_T71 l i).f0)) + (rd_T71 l i).f1) = s.getD ((s.length : Int) - (rd_T71 l i).f0).toNat 0 + (rd_T71 l i).f1 := by
        rw [e1]
        show wrap64 (s.getD _ 0 + _) = _
        unfold wrap64; omega
      have ih := fun a b => least_l0 hb hl s t hs hn hn2 k (i + 1) a b (by omega) (by omega)
      rw [if_pos (by omega), if_pos (by omega), if_pos (by omega), bs_drop l c]
      unfold maxFrom
      by_cases c0 : (rd_T71 l i).f0 ≤ (s.length : Int)
      · rw [if_pos c0, if_pos (by rw [e1]; omega), if_pos (by rw [e1]; omega), e3, e2]
        by_cases c4 : s.getD ((s.length : Int) - (rd_T71 l i).f0).toNat 0 + (rd_T71 l i).f1 > x4
        · rw [if_pos c4, ih, if_pos ⟨c0, c4⟩]; rfl
        · rw [if_neg c4, ih, if_neg (fun h => c4 h.2)]; rfl
      · rw [if_neg c0, e2, ih, if_neg (fun h => c0 h.1)]; rfl
    · rw [if_neg (by omega), List.drop_eq_nil_of_le (by simp [bs]; omega)]
      rfl
theorem least_f {l : List S71} (hb : Bds (bs l)) (hl : l.length ≤ 1000) {n : Nat} (hn : n ≤ 500) (t : List Int) : pump_bounds_least.f (l.length + 1) l (tabF (stepL (bs l)) n).1 t = some (stepL (bs l) (tabF (stepL (bs l)) n).1) := by
  have l1 := (tabF_len (stepL (bs l)) n).1
  have hsm := small_least hb hn
  generalize (tabF (stepL (bs l)) n).1 = X at l1 hsm
  unfold pump_bounds_least.f
  have e1 : wrap64 ((X.length : Int) - 1) = (n : Int) := by rw [l1]; unfold wrap64; omega
  rw [e1, if_pos (by omega), if_pos (by rw [l1]; omega)]
  have h := least_l0 hb hl X t hsm (by rw [l1]; omega) (by rw [l1]; omega) (l.length + 1) 0 (rd X n) (-1) (Nat.zero_le _) (by omega)
  rw [List.drop_zero] at h
  refine h.trans ?_
  unfold stepL
  rw [show X.length - 1 = n by omega]
  rfl
theorem tabledl_l0 {l : List S71} (hb : Bds (bs l)) (hl : l.length ≤ 1000) {a : Nat} (ha : a ≤ 400) : ∀ (k m : Nat), m ≤ a → a - m + 1 < k → pump_tabledR.l0 pump_bounds_least.f k l a (tabF (stepL (bs l)) m).1 (tabF (stepL (bs l)) m).2 = some (tabF (stepL (bs l)) a)
  | 0, m, _, hk => by omega
  | k + 1, m, hm, hk => by
    unfold pump_tabledR.l0
    have l1 := tabF_len (stepL (bs l)) m
    by_cases c : m < a
    · have e := tabledl_l0 hb hl ha k (m + 1) (by omega) (by omega)
      rw [if_pos (by rw [l1.1]; omega), least_f hb hl (by omega), Option.bind_some, if_pos (by rw [l1.1]; omega), if_pos (by rw [l1.2]; omega)]
      exact e
    · obtain rfl : m = a := by omega
      rw [if_neg (by rw [l1.1]; omega)]
theorem tabled_least_f {l : List S71} (hb : Bds (bs l)) (hl : l.length ≤ 1000) {a : Nat} (ha : a ≤ 400) : tabled_least.f l a = some (tabF (stepL (bs l)) a) := by
  unfold tabled_least.f pump_tabledR.f
  exact tabledl_l0 hb hl ha _ 0 (Nat.zero_le _) (by rw [Int.toNat_natCast]; omega)
end Go.Proofs.Ythoeindopljmkaa.P
end
section
namespace Go.Proofs.Ythoeindopljmkaa.P
open Go.RowKit Go.Proofs.YthoeindopljmkaaW.PrintWords Go.Proofs.YthoeindopljmkaaW.PrintLast Go.Proofs.YthoeindopljmkaaW.PrintMore
open Pm
def ticksOf (l : List S71) (r : List Int) : Int := (r.map fun j => (rd_T71 l j).f0).sum
def amountOf (l : List S71) (r : List Int) : Int := (r.map fun j => (rd_T71 l j).f1).sum
theorem bs_get {l : List S71} {j : Nat} {b : B2} (h : (bs l)[j]? = some b) : j < l.length ∧ b = ((rd_T71 l j).f0, (rd_T71 l j).f1) := by
  unfold bs at h
  rw [List.getElem?_map] at h
  obtain ⟨x, hx, rfl⟩ := Option.map_eq_some_iff.mp h
  obtain ⟨hj, rfl⟩ := List.getElem?_eq_some_iff.1 hx
  refine ⟨hj, ?_⟩
  unfold rd_T71
  rw [List.getD_eq_getElem?_getD, Int.toNat_natCast, List.getElem?_eq_getElem hj]; rfl
theorem taken_most {l : List S71} (hb : Bds (bs l)) (hl : l.length ≤ 1000) {N : Nat} (hN : N ≤ 400) : ∀ (k n : Nat) (acc : List Int), n ≤ N → n < k → acc.length + n ≤ 1000 →
    ∃ r, takenRaw.l0 k l acc n (tabF (stepM (bs l)) N).1 (tabF (stepM (bs l)) N).2 = some (acc ++ r) ∧ r.length ≤ n ∧ (∀ j ∈ r, 0 ≤ j ∧ j < l.length) ∧ (n : Int) ≤ ticksOf l r ∧ amountOf l r = mst (bs l) n
  | 0, n, acc, _, hk, _ => by omega
  | k + 1, 0, acc, _, _, _ => by
    unfold takenRaw.l0
    refine ⟨[], ?_, Nat.le_refl _, ?_, ?_, ?_⟩
    · rw [if_neg (by simp)]; simp
    · intro j h; cases h
    · simp [ticksOf]
    · rfl
  | k + 1, n + 1, acc, hn, hk, ha => by
    obtain ⟨_, j, hj, b, hbj, hm⟩ := mst_spec hb n
    obtain ⟨hjl, rfl⟩ := bs_get hbj
    dsimp only at hm
    have hmem : ((rd_T71 l j).f0, (rd_T71 l j).f1) ∈ bs l := List.mem_of_getElem? hbj
    have ht := hb.t _ hmem
    dsimp only at ht
    have hlast : rd (tabF (stepM (bs l)) N).2 ((n + 1 : Nat) : Int) = j := by
      show (tabF (stepM (bs l)) N).2.getD _ 0 = _
      rw [Int.toNat_natCast, (tabF_get _ N (n + 1) hn).2, hj]
    have hlen := (tabF_len (stepM (bs l)) N).2
    have e1 : mx 0 (wrap64 (((n + 1 : Nat) : Int) - (rd_T71 l j).f0)) = ((n + 1 - (rd_T71 l j).f0.toNat : Nat) : Int) := by
      rw [mx_max]; unfold wrap64; omega
    obtain ⟨r, hr, h1, h2, h3, h4⟩ := taken_most hb hl hN k (n + 1 - (rd_T71 l j).f0.toNat) (acc ++ [(j : Int)]) (by omega) (by omega) (by simp; omega)
    refine ⟨(j : Int) :: r, ?_, by simp; omega, fun x hx => ?_, ?_, ?_⟩
    · unfold takenRaw.l0
      rw [hlast, if_pos (by omega), if_pos (by omega), if_pos (by rw [hlen]; omega), if_pos (by omega), if_pos (by omega), if_pos (by omega), if_pos (by omega), e1, hr]
      simp
    · rcases List.mem_cons.1 hx with rfl | hx
      · omega
      · exact h2 x hx
    · unfold ticksOf at h3 ⊢
      rw [List.map_cons, List.sum_cons]; omega
    · unfold amountOf at h4 ⊢
      rw [List.map_cons, List.sum_cons, h4, hm]; omega
theorem taken_least {l : List S71} (hb : Bds (bs l)) (hl : l.length ≤ 1000) {N : Nat} (hN : N ≤ 400) : ∀ (k n : Nat) (acc : List Int), n ≤ N → n < k → acc.length + n ≤ 1000 →
    ∃ r, takenRaw.l0 k l acc n (tabF (stepL (bs l)) N).1 (tabF (stepL (bs l)) N).2 = some (acc ++ r) ∧ r.length ≤ n ∧ (∀ j ∈ r, 0 ≤ j ∧ j < l.length) ∧ ticksOf l r ≤ n ∧ amountOf l r = lst (bs l) n
  | 0, n, acc, _, hk, _ => by omega
  | k + 1, 0, acc, _, _, _ => by
    unfold takenRaw.l0
    refine ⟨[], ?_, Nat.le_refl _, ?_, ?_, ?_⟩
    · rw [if_neg (by simp)]; simp
    · intro j h; cases h
    · simp [ticksOf]
    · rfl
  | k + 1, n + 1, acc, hn, hk, ha => by
    have hlen := (tabF_len (stepL (bs l)) N).2
    rcases (lst_spec hb n).2.2 with ⟨hj, hm⟩ | ⟨j, hj, b, hbj, htn, hm⟩
    · have hlast : rd (tabF (stepL (bs l)) N).2 ((n + 1 : Nat) : Int) = -1 := by
        show (tabF (stepL (bs l)) N).2.getD _ 0 = _
        rw [Int.toNat_natCast, (tabF_get _ N (n + 1) hn).2, hj]
      obtain ⟨r, hr, h1, h2, h3, h4⟩ := taken_least hb hl hN k n acc (by omega) (by omega) (by omega)
      refine ⟨r, ?_, by omega, h2, by omega, by rw [h4, hm]⟩
      unfold takenRaw.l0
      rw [hlast, if_pos (by omega), if_pos (by omega), if_pos (by rw [hlen]; omega), if_neg (by omega), show wrap64 (((n + 1 : Nat) : Int) - 1) = n by unfold wrap64; omega, hr]
    · obtain ⟨hjl, rfl⟩ := bs_get hbj
      dsimp only at hm htn
      have hmem : ((rd_T71 l j).f0, (rd_T71 l j).f1) ∈ bs l := List.mem_of_getElem? hbj
      have ht := hb.t _ hmem
      dsimp only at ht
      have hlast : rd (tabF (stepL (bs l)) N).2 ((n + 1 : Nat) : Int) = j := by
        show (tabF (stepL (bs l)) N).2.getD _ 0 = _
        rw [Int.toNat_natCast, (tabF_get _ N (n + 1) hn).2, hj]
      have e1 : mx 0 (wrap64 (((n + 1 : Nat) : Int) - (rd_T71 l j).f0)) = ((n + 1 - (rd_T71 l j).f0.toNat : Nat) : Int) := by
        rw [mx_max]; unfold wrap64; omega
      obtain ⟨r, hr, h1, h2, h3, h4⟩ := taken_least hb hl hN k (n + 1 - (rd_T71 l j).f0.toNat) (acc ++ [(j : Int)]) (by omega) (by omega) (by simp; omega)
      refine ⟨(j : Int) :: r, ?_, by simp; omega, fun x hx => ?_, ?_, ?_⟩
      · unfold takenRaw.l0
        rw [hlast, if_pos (by omega), if_pos (by omega), if_pos (by rw [hlen]; omega), if_pos (by omega), if_pos (by omega), if_pos (by omega), if_pos (by omega), e1, hr]
        simp
      · rcases List.mem_cons.1 hx with rfl | hx
        · omega
        · exact h2 x hx
      · unfold ticksOf at h3 ⊢
        rw [List.map_cons, List.sum_cons]; omega
      · unfold amountOf at h4 ⊢
        rw [List.map_cons, List.sum_cons, h4, hm]; omega
end Go.Proofs.Ythoeindopljmkaa.P
end
section
namespace Go.Proofs.Ythoeindopljmkaa.P
open Go.RowKit Go.Proofs.YthoeindopljmkaaW.PrintWords Go.Proofs.YthoeindopljmkaaW.PrintLast Go.Proofs.YthoeindopljmkaaW.PrintMore
open Pm
def cb (l : List S71) : Int := if l.length = 0 then 4 else if 5 < l.length then 5 else if (l.any fun x => !good x) = true then 3 else 0
theorem cb_f (l : List S71) : pump_CheckBounds.f l = some (cb l) := by
  unfold pump_CheckBounds.f cb
  by_cases c : l.length = 0
  · rw [if_pos (by omega), if_pos c]
  · rw [if_neg (by omega), if_neg c]
    by_cases c5 : 5 < l.length
    · rw [if_pos (by omega), if_pos c5]
    · rw [if_neg (by omega), if_neg c5]
      unfold any_bad.f
      rw [if_pos (by omega), Option.bind_some]
      split <;> rfl
def rgd (l : List S71) (a : Int) : Int := if cb l = 0 then (if btw 0 a 200 = true then 0 else 3) else cb l
theorem ranged_f (l : List S71) (a : Int) : pump_ranged.f l a = some (rgd l a) := by
  unfold pump_ranged.f rgd
  rw [cb_f, Option.bind_some, btw_f, Option.bind_some]
  by_cases c : cb l = 0
  · rw [if_pos c, if_pos c]
    split
    · rw [c]
    · rfl
  · rw [if_neg c, if_neg c]
theorem cb_zero {l : List S71} : cb l = 0 ↔ l.length ≠ 0 ∧ l.length ≤ 5 ∧ ∀ b ∈ l, good b = true := by
  unfold cb
  by_cases c : l.length = 0
  · rw [if_pos c]; constructor
    · intro h; cases h
    · rintro ⟨h, _⟩; exact absurd c h
  rw [if_neg c]
  by_cases c5 : 5 < l.length
  · rw [if_pos c5]; constructor
    · intro h; cases h
    · rintro ⟨_, h, _⟩; omega
  rw [if_neg c5]
  by_cases ca : (l.any fun x => !good x) = true
  · rw [if_pos ca]; constructor
    · intro h; cases h
    · rintro ⟨_, _, h⟩
      obtain ⟨x, hx, hg⟩ := List.any_eq_true.1 ca
      rw [h x hx] at hg; cases hg
  · rw [if_neg ca]
    refine ⟨fun _ => ⟨c, by omega, fun b hb => ?_⟩, fun _ => rfl⟩
    cases hg : good b
    · exact absurd (List.any_eq_true.2 ⟨b, hb, by rw [hg]; rfl⟩) ca
    · rfl
theorem good_iff {x : S71} : good x = true ↔ (1 ≤ x.f0 ∧ x.f0 ≤ 100) ∧ 0 ≤ x.f1 ∧ x.f1 ≤ 1000000 := by
  unfold good
  rw [Bool.and_eq_true, btw_iff, btw_iff]
theorem bds_of {l : List S71} (h : cb l = 0) : Bds (bs l) ∧ l.length ≤ 5 := by
  obtain ⟨h0, h5, hg⟩ := cb_zero.1 h
  refine ⟨⟨?_, ?_, ?_⟩, h5⟩
  · intro e
    have : (bs l).length = 0 := by rw [e]; rfl
    simp [bs] at this
    exact h0 (by rw [this]; rfl)
  · intro b hb
    obtain ⟨x, hx, rfl⟩ := List.mem_map.1 hb
    exact (good_iff.1 (hg x hx)).1
  · intro b hb
    obtain ⟨x, hx, rfl⟩ := List.mem_map.1 hb
    exact (good_iff.1 (hg x hx)).2
theorem rgd_zero {l : List S71} {a : Int} (h : rgd l a = 0) : cb l = 0 ∧ 0 ≤ a ∧ a ≤ 200 := by
  unfold rgd at h
  by_cases c : cb l = 0
  · rw [if_pos c] at h
    by_cases b : btw 0 a 200 = true
    · exact ⟨c, btw_iff.1 b⟩
    · rw [if_neg b] at h; cases h
  · rw [if_neg c] at h; exact absurd h c
theorem rgd_of {l : List S71} {a : Int} (h : cb l = 0) (h0 : 0 ≤ a) (h1 : a ≤ 200) : rgd l a = 0 := by
  unfold rgd
  rw [if_pos h, if_pos (btw_iff.2 ⟨h0, h1⟩)]
theorem sum_perm {x y : List Int} (h : x.Perm y) : x.sum = y.sum := by
  induction h with
  | nil => rfl
  | cons a _ ih => simp only [List.sum_cons, ih]
  | swap a b l => simp only [List.sum_cons]; omega
  | trans _ _ h1 h2 => exact h1.trans h2
theorem sortI_perm (r : List Int) : (sortI r).Perm r := List.mergeSort_perm _ _
theorem sortI_sorted (r : List Int) : (sortI r).Pairwise fun x y => x ≤ y := by
  have h := List.pairwise_mergeSort (le := fun x y : Int => decide (x ≤ y)) (fun a b c h1 h2 => by simp at *; omega) (fun a b => by simp; omega) r
  exact h.imp (fun h => by simpa using h)
theorem ticks_sort (l : List S71) (r : List Int) : ticksOf l (sortI r) = ticksOf l r := sum_perm ((sortI_perm r).map _)
theorem amount_sort (l : List S71) (r : List Int) : amountOf l (sortI r) = amountOf l r := sum_perm ((sortI_perm r).map _)
structure Ord (l : List S71) (r : List Int) : Prop where
  len : r.length ≤ 200
  at_ : ∀ j ∈ r, 0 ≤ j ∧ j < l.length
  up : r.Pairwise fun x y => x ≤ y
theorem asked_most_f (l : List S71) (a : Int) : ∃ r, asked_most.f l a l = some (if rgd l a = 0 then mst (bs l) a.toNat else 0, r, rgd l a) ∧ (rgd l a ≠ 0 → r = []) ∧ (rgd l a = 0 → Ord l r ∧ a ≤ ticksOf l r ∧ amountOf l r = mst (bs l) a.toNat) := by
  unfold asked_most.f askedR.f
  rw [ranged_f, Option.bind_some]
  by_cases c : rgd l a = 0
  · obtain ⟨h1, h2, h3⟩ := rgd_zero c
    obtain ⟨hb, h5⟩ := bds_of h1
    obtain ⟨n, rfl⟩ := Int.eq_ofNat_of_zero_le h2
    rw [if_pos c, if_pos c, tabled_most_f hb (by omega) (by omega), Option.bind_some, if_pos h2]
    have hl := (tabF_len (stepM (bs l)) n).1
    obtain ⟨r, hr, r1, r2, r3, r4⟩ := taken_most hb (by omega) (by omega) (((n : Nat) : Int).toNat + 2) n [] (Nat.le_refl _) (by omega) (by simp; omega)
    refine ⟨sortI r, ?_, fun h => absurd c h, fun _ => ⟨⟨?_, ?_, sortI_sorted r⟩, ?_, ?_⟩⟩
    · rw [if_pos (by omega)]
      unfold pump_bounds_taken.f takenRaw.f
      rw [hr, Option.bind_some, if_pos (by rw [List.nil_append]; omega), Option.bind_some, List.nil_append, c]
      congr 2
    · rw [(sortI_perm r).length_eq]; omega
    · intro j hj; exact r2 j ((sortI_perm r).mem_iff.1 hj)
    · rw [ticks_sort]; exact r3
    · rw [amount_sort]; exact r4
  · rw [if_neg c, if_neg c]
    exact ⟨[], rfl, fun _ => rfl, fun h => absurd h c⟩
theorem asked_least_f (l : List S71) (a : Int) : ∃ r, asked_least.f l a l = some (if rgd l a = 0 then lst (bs l) a.toNat else 0, r, rgd l a) ∧ (rgd l a ≠ 0 → r = []) ∧ (rgd l a = 0 → Ord l r ∧ ticksOf l r ≤ a ∧ amountOf l r = lst (bs l) a.toNat) := by
  unfold asked_least.f askedR.f
  rw [ranged_f, Option.bind_some]
  by_cases c : rgd l a = 0
  · obtain ⟨h1, h2, h3⟩ := rgd_zero c
    obtain ⟨hb, h5⟩ := bds_of h1
    obtain ⟨n, rfl⟩ := Int.eq_ofNat_of_zero_le h2
    rw [if_pos c, if_pos c, tabled_least_f hb (by omega) (by omega), Option.bind_some, if_pos h2]
    have hl := (tabF_len (stepL (bs l)) n).1
    obtain ⟨r, hr, r1, r2, r3, r4⟩ := taken_least hb (by omega) (by omega) (((n : Nat) : Int).toNat + 2) n [] (Nat.le_refl _) (by omega) (by simp; omega)
    refine ⟨sortI r, ?_, fun h => absurd c h, fun _ => ⟨⟨?_, ?_, sortI_sorted r⟩, ?_, ?_⟩⟩
    · rw [if_pos (by omega)]
      unfold pump_bounds_taken.f takenRaw.f
      rw [hr, Option.bind_some, if_pos (by rw [List.nil_append]; omega), Option.bind_some, List.nil_append, c]
      congr 2
    · rw [(sortI_perm r).length_eq]; omega
    · intro j hj; exact r2 j ((sortI_perm r).mem_iff.1 hj)
    · rw [ticks_sort]; exact r3
    · rw [amount_sort]; exact r4
  · rw [if_neg c, if_neg c]
    exact ⟨[], rfl, fun _ => rfl, fun h => absurd h c⟩
theorem Most_f (l : List S71) (a : Int) : pump_Most.f l a = some (if rgd l a = 0 then mst (bs l) a.toNat else 0, rgd l a) := by
  obtain ⟨r, h, _⟩ := asked_most_f l a
  unfold pump_Most.f
  rw [h]; rfl
theorem Least_f (l : List S71) (a : Int) : pump_Least.f l a = some (if rgd l a = 0 then lst (bs l) a.toNat else 0, rgd l a) := by
  obtain ⟨r, h, _⟩ := asked_least_f l a
  unfold pump_Least.f
  rw [h]; rfl
end Go.Proofs.Ythoeindopljmkaa.P
end
section
namespace Go.Proofs.Ythoeindopljmkaa.P
open Go.RowKit Go.Proofs.YthoeindopljmkaaW.PrintWords Go.Proofs.YthoeindopljmkaaW.PrintLast Go.Proofs.YthoeindopljmkaaW.PrintMore
open Pm
def U8s (l : List S86) : Prop := ∀ x ∈ l, (0 ≤ x.f0 ∧ x.f0 < 256) ∧ 0 ≤ x.f1 ∧ x.f1 < 256
structure Few (L : List S71) : Prop where
  ne : 1 ≤ L.length
  le : L.length ≤ 3
  small : ∀ b ∈ L, (1 ≤ b.f0 ∧ b.f0 ≤ 4) ∧ 0 ≤ b.f1 ∧ b.f1 ≤ 5
theorem few_cb {L : List S71} (h : Few L) : cb L = 0 := cb_zero.2 ⟨by have := h.ne; omega, by have := h.le; omega, fun b hb => good_iff.2 (by have := h.small b hb; omega)⟩
theorem few_one {x : S86} (h : (0 ≤ x.f0 ∧ x.f0 < 256) ∧ 0 ≤ x.f1 ∧ x.f1 < 256) : (1 ≤ wrap64 (1 + (Int.tmod (wrap64 x.f0) 4)) ∧ wrap64 (1 + (Int.tmod (wrap64 x.f0) 4)) ≤ 4) ∧ 0 ≤ Int.tmod (wrap64 x.f1) 6 ∧ Int.tmod (wrap64 x.f1) 6 ≤ 5 := by
  have e0 : wrap64 x.f0 = x.f0 := by unfold wrap64; omega
  have e1 : wrap64 x.f1 = x.f1 := by unfold wrap64; omega
  have a0 := Int.tmod_nonneg 4 h.1.1
  have a1 := Int.tmod_lt_of_pos x.f0 (show (0 : Int) < 4 by omega)
  have b0 := Int.tmod_nonneg 6 h.2.1
  have b1 := Int.tmod_lt_of_pos x.f1 (show (0 : Int) < 6 by omega)
  rw [e0, e1]
  have e2 : wrap64 (1 + Int.tmod x.f0 4) = 1 + Int.tmod x.f0 4 := by unfold wrap64; omega
  rw [e2]
  omega
theorem rd86_mem {l : List S86} {i : Nat} (h : i < l.length) : rd_T86 l i ∈ l := by
  unfold rd_T86
  rw [List.getD_eq_getElem?_getD, Int.toNat_natCast, List.getElem?_eq_getElem h]
  exact List.getElem_mem h
theorem made_l0 {l : List S86} (hu : U8s l) : ∀ (k i : Nat) (x3 : List S71), (i ≤ 3) → 2 * (3 - i) + 2 ≤ k → Few x3 → x3.length ≤ max 1 i → ∃ L, pianolalaw04_Set_made.l0 k l x3 i = some L ∧ Few L
  | 0, i, x3, hi, hk, _, _ => by omega
  | 1, i, x3, hi, hk, _, _ => by omega
  | k + 2, i, x3, hi, hk, hf, hx => by
    unfold pianolalaw04_Set_made.l0 pianolalaw04_Set_made.j1
    by_cases c : i < l.length
    · rw [if_pos (by omega)]
      by_cases c3 : i < 3
      · have h1 := few_one (hu _ (rd86_mem c))
        have hn := hf.ne
        rw [if_pos (decide_eq_true (by omega)), if_pos (by omega), if_pos (by omega), show wrap64 ((i : Int) + 1) = ((i + 1 : Nat) : Int) by unfold wrap64; omega]
        by_cases c0 : i = 0
        · rw [if_pos (by omega), if_pos (by omega)]
          refine made_l0 hu k (i + 1) _ (by omega) (by omega) ⟨by simpa using hf.ne, by simpa using hf.le, fun b hb => ?_⟩ (by simp; omega)
          rcases List.mem_or_eq_of_mem_set hb with h | h
          · exact hf.small b h
          · rw [h]; exact h1
        · rw [if_neg (by omega), if_pos (by omega)]
          refine made_l0 hu k (i + 1) _ (by omega) (by omega) ⟨by simp, by simp; omega, fun b hb => ?_⟩ (by simp; omega)
          rcases List.mem_append.1 hb with h | h
          · exact hf.small b h
          · rw [List.mem_singleton.1 h]; exact h1
      · rw [if_neg (by simp; omega)]
        exact ⟨x3, rfl, hf⟩
    · rw [if_neg (by omega), if_neg (by simp)]
      exact ⟨x3, rfl, hf⟩
theorem made_f {l : List S86} (hu : U8s l) {k : Nat} (hk : 8 ≤ k) : ∃ L, pianolalaw04_Set_made.f k l = some L ∧ Few L :=
  made_l0 hu k 0 _ (by omega) (by omega) ⟨Nat.le_refl _, by decide, fun b hb => by rw [List.mem_singleton.1 hb]; decide⟩ (by decide)
theorem made_all {l : List S86} (hu : U8s l) : ∃ L, (∀ k, 8 ≤ k → pianolalaw04_Set_made.f k l = some L) ∧ Few L := by
  obtain ⟨L, h, hf⟩ := made_f hu (Nat.le_refl 8)
  refine ⟨L, fun k hk => ?_, hf⟩
  obtain ⟨j, rfl⟩ : ∃ j, k = 8 + j := ⟨k - 8, by omega⟩
  induction j with
  | zero => exact h
  | succ j ih => exact pianolalaw04_Set_made.mono l (8 + j) L (ih (by omega))
theorem u8_wf {x : Int} (h : (Lit.int .u8 x).wf = true) : 0 ≤ x ∧ x < 256 := by
  have h1 : (decide (IntKind.u8.min ≤ x) && decide (x ≤ IntKind.u8.max)) = true := h
  rw [Bool.and_eq_true, decide_eq_true_eq, decide_eq_true_eq] at h1
  have e1 : IntKind.u8.min = 0 := by decide
  have e2 : IntKind.u8.max = 255 := by decide
  omega
end Go.Proofs.Ythoeindopljmkaa.P
end
section
namespace Go.Proofs.Ythoeindopljmkaa.P
open Go.RowKit Go.Proofs.YthoeindopljmkaaW.PrintWords Go.Proofs.YthoeindopljmkaaW.PrintLast Go.Proofs.YthoeindopljmkaaW.PrintMore
open Pm
def c90 (x : S71) : S90 := ⟨x.f0, x.f1⟩
end Go.Proofs.Ythoeindopljmkaa.P
end
section
namespace Pm
def preS (l : List Int) : Nat → Int
  | 0 => 0
  | n + 1 => preS l n + l.getD n 0
def Keeps (L : List B2) (l : List Int) : Prop := ∀ b ∈ L, ∀ s, preS l (s + b.1.toNat) - preS l s ≤ b.2
def Has (L : List B2) (T : Nat) (l : List Int) : Prop := ∀ b ∈ L, ∀ s, s + b.1.toNat ≤ T → b.2 ≤ preS l (s + b.1.toNat) - preS l s
theorem preS_mono {l : List Int} (h : ∀ n, 0 ≤ l.getD n 0) {m n : Nat} (hmn : m ≤ n) : preS l m ≤ preS l n := by
  induction n with
  | zero =>
    have : m = 0 := by omega
    subst this; exact Int.le_refl _
  | succ n ih =>
    by_cases c : m = n + 1
    · subst c; exact Int.le_refl _
    · have := ih (by omega)
      have := h n
      show _ ≤ preS l n + l.getD n 0
      omega
theorem keeps_mst {L : List B2} (h : Bds L) {l : List Int} (h0 : ∀ n, 0 ≤ l.getD n 0) (hk : Keeps L l) : ∀ d s : Nat, preS l (s + d) - preS l s ≤ mst L d := by
  intro d
  induction d using Nat.strongRecOn with
  | _ d ih =>
    intro s
    cases d with
    | zero => show preS l s - preS l s ≤ 0; omega
    | succ d =>
      obtain ⟨_, j, _, b, hb, e⟩ := mst_spec h d
      have hbm := List.mem_of_getElem? hb
      have ht := h.t b hbm
      rw [e]
      by_cases c : d + 1 ≤ b.1.toNat
      · have h1 := hk b hbm s
        have h2 := preS_mono h0 (show s + (d + 1) ≤ s + b.1.toNat by omega)
        have h3 := mst_nonneg h (d + 1 - b.1.toNat)
        omega
      · have h1 := ih (d + 1 - b.1.toNat) (by omega) s
        have h2 := hk b hbm (s + (d + 1 - b.1.toNat))
        rw [show s + (d + 1 - b.1.toNat) + b.1.toNat = s + (d + 1) by omega] at h2
        omega
theorem has_lst {L : List B2} (h : Bds L) {T : Nat} {l : List Int} (h0 : ∀ n, 0 ≤ l.getD n 0) (hk : Has L T l) : ∀ d s : Nat, s + d ≤ T → lst L d ≤ preS l (s + d) - preS l s := by
  intro d
  induction d using Nat.strongRecOn with
  | _ d ih =>
    intro s hT
    cases d with
    | zero => show 0 ≤ preS l s - preS l s; omega
    | succ d =>
      rcases (lst_spec h d).2.2 with ⟨_, e⟩ | ⟨j, _, b, hb, hn, e⟩
      · have h1 := ih d (by omega) s (by omega)
        have h2 := h0 (s + d)
        have h3 : preS l (s + (d + 1)) = preS l (s + d) + l.getD (s + d) 0 := rfl
        omega
      · have hbm := List.mem_of_getElem? hb
        have ht := h.t b hbm
        have h1 := ih (d + 1 - b.1.toNat) (by omega) s (by omega)
        have h2 := hk b hbm (s + (d + 1 - b.1.toNat)) (by omega)
        rw [show s + (d + 1 - b.1.toNat) + b.1.toNat = s + (d + 1) by omega] at h2
        omega
end Pm
end
section
namespace Go.Proofs.Ythoeindopljmkaa.P
open Go.RowKit Go.Proofs.YthoeindopljmkaaW.PrintWords Go.Proofs.YthoeindopljmkaaW.PrintLast Go.Proofs.YthoeindopljmkaaW.PrintMore
open Pm
theorem wrapN {n : Nat} (h : n ≤ 1000000000) : wrap64 ((n : Int) + 1) = ((n + 1 : Nat) : Int) := by unfold wrap64; omega
end Go.Proofs.Ythoeindopljmkaa.P
end
section
namespace Pm
set_option linter.unusedSectionVars false
theorem preS_snoc_le (l : List Int) (x : Int) : ∀ m, m ≤ l.length → preS (l ++ [x]) m = preS l m
  | 0, _ => rfl
  | m + 1, h => by
    show preS (l ++ [x]) m + (l ++ [x]).getD m 0 = preS l m + l.getD m 0
    rw [preS_snoc_le l x m (by omega), List.getD_eq_getElem?_getD, List.getElem?_append_left (by omega), ← List.getD_eq_getElem?_getD]
theorem preS_snoc_end (l : List Int) (x : Int) : preS (l ++ [x]) (l.length + 1) = preS l l.length + x := by
  show preS (l ++ [x]) l.length + (l ++ [x]).getD l.length 0 = _
  rw [preS_snoc_le l x _ (Nat.le_refl _)]
  simp [List.getD_eq_getElem?_getD]
theorem preS_over {l : List Int} : ∀ m, l.length ≤ m → preS l m = preS l l.length
  | 0, h => by
    have : l.length = 0 := by omega
    rw [this]
  | m + 1, h => by
    by_cases c : l.length = m + 1
    · rw [c]
    · show preS l m + l.getD m 0 = _
      rw [preS_over m (by omega), List.getD_eq_getElem?_getD, List.getElem?_eq_none (by omega)]
      exact Int.add_zero _
def back (out : List Int) (b : B2) : Int := preS out out.length - preS out (out.length + 1 - b.1.toNat)
def foldD (out : List Int) (w : Int) (L : List B2) : Int := L.foldl (fun w b => min w (b.2 - back out b)) w
def foldC (out : List Int) (w : Int) (L : List B2) : Int := L.foldl (fun w b => if b.1 ≤ (out.length : Int) + 1 then max w (b.2 - back out b) else w) w
def demL (L : List B2) (W : Nat → Int) : Nat → List Int
  | 0 => []
  | n + 1 => demL L W n ++ [max 0 (foldD (demL L W n) (W n) L)]
def capL (L : List B2) (W : Nat → Int) : Nat → List Int
  | 0 => []
  | n + 1 => capL L W n ++ [foldC (capL L W n) (W n) L]
theorem demL_len (L : List B2) (W : Nat → Int) : ∀ n, (demL L W n).length = n
  | 0 => rfl
  | n + 1 => by simp [demL, demL_len L W n]
theorem capL_len (L : List B2) (W : Nat → Int) : ∀ n, (capL L W n).length = n
  | 0 => rfl
  | n + 1 => by simp [capL, capL_len L W n]
theorem foldD_le (out : List Int) : ∀ (L : List B2) (w : Int), foldD out w L ≤ w ∧ ∀ b ∈ L, foldD out w L ≤ b.2 - back out b
  | [], w => ⟨Int.le_refl _, fun _ h => by cases h⟩
  | b :: L, w => by
    obtain ⟨h1, h2⟩ := foldD_le out L (min w (b.2 - back out b))
    have e : foldD out w (b :: L) = foldD out (min w (b.2 - back out b)) L := rfl
    rw [e]
    refine ⟨by omega, fun c hc => ?_⟩
    rcases List.mem_cons.1 hc with rfl | hc
    · omega
    · exact h2 c hc
theorem foldD_at (out : List Int) : ∀ (L : List B2) (w : Int), foldD out w L = w ∨ ∃ b ∈ L, foldD out w L = b.2 - back out b
  | [], w => .inl rfl
  | b :: L, w => by
    have e : foldD out w (b :: L) = foldD out (min w (b.2 - back out b)) L := rfl
    rw [e]
    rcases foldD_at out L (min w (b.2 - back out b)) with h | ⟨c, hc, h⟩
    · by_cases q : w ≤ b.2 - back out b
      · exact .inl (by rw [h]; omega)
      · exact .inr ⟨b, List.mem_cons_self, by rw [h]; omega⟩
    · exact .inr ⟨c, List.mem_cons_of_mem _ hc, h⟩
theorem foldC_le (out : List Int) : ∀ (L : List B2) (w : Int), w ≤ foldC out w L ∧ ∀ b ∈ L, b.1 ≤ (out.length : Int) + 1 → b.2 - back out b ≤ foldC out w L
  | [], w => ⟨Int.le_refl _, fun _ h => by cases h⟩
  | b :: L, w => by
    have e : foldC out w (b :: L) = foldC out (if b.1 ≤ (out.length : Int) + 1 then max w (b.2 - back out b) else w) L := rfl
    rw [e]
    by_cases q : b.1 ≤ (out.length : Int) + 1
    · rw [if_pos q]
      obtain ⟨h1, h2⟩ := foldC_le out L (max w (b.2 - back out b))
      refine ⟨by omega, fun c hc hq => ?_⟩
      rcases List.mem_cons.1 hc with rfl | hc
      · omega
      · exact h2 c hc hq
    · rw [if_neg q]
      obtain ⟨h1, h2⟩ := foldC_le out L w
      refine ⟨h1, fun c hc hq => ?_⟩
      rcases List.mem_cons.1 hc with rfl | hc
      · exact absurd hq q
      · exact h2 c hc hq
theorem foldC_at (out : List Int) : ∀ (L : List B2) (w : Int), foldC out w L = w ∨ ∃ b ∈ L, b.1 ≤ (out.length : Int) + 1 ∧ foldC out w L = b.2 - back out b
  | [], w => .inl rfl
  | b :: L, w => by
    have e : foldC out w (b :: L) = foldC out (if b.1 ≤ (out.length : Int) + 1 then max w (b.2 - back out b) else w) L := rfl
    rw [e]
    by_cases q : b.1 ≤ (out.length : Int) + 1
    · rw [if_pos q]
      rcases foldC_at out L (max w (b.2 - back out b)) with h | ⟨c, hc, hq, h⟩
      · by_cases q2 : b.2 - back out b ≤ w
        · exact .inl (by rw [h]; omega)
        · exact .inr ⟨b, List.mem_cons_self, q, by rw [h]; omega⟩
      · exact .inr ⟨c, List.mem_cons_of_mem _ hc, hq, h⟩
    · rw [if_neg q]
      rcases foldC_at out L w with h | ⟨c, hc, hq, h⟩
      · exact .inl h
      · exact .inr ⟨c, List.mem_cons_of_mem _ hc, hq, h⟩
section
variable {L : List B2} (h : Bds L) {W : Nat → Int}
include h
theorem demL_pre : ∀ (n m : Nat), m ≤ n → preS (demL L W n) m = preS (demL L W m) m
  | 0, m, hm => by
    have : m = 0 := by omega
    subst this; rfl
  | n + 1, m, hm => by
    by_cases c : m = n + 1
    · subst c; rfl
    · show preS (demL L W n ++ [_]) m = _
      rw [preS_snoc_le _ _ _ (by rw [demL_len]; omega), demL_pre n m (by omega)]
theorem capL_pre : ∀ (n m : Nat), m ≤ n → preS (capL L W n) m = preS (capL L W m) m
  | 0, m, hm => by
    have : m = 0 := by omega
    subst this; rfl
  | n + 1, m, hm => by
    by_cases c : m = n + 1
    · subst c; rfl
    · show preS (capL L W n ++ [_]) m = _
      rw [preS_snoc_le _ _ _ (by rw [capL_len]; omega), capL_pre n m (by omega)]
theorem demL_succ (n : Nat) : preS (demL L W (n + 1)) (n + 1) = preS (demL L W n) n + max 0 (foldD (demL L W n) (W n) L) := by
  have := preS_snoc_end (demL L W n) (max 0 (foldD (demL L W n) (W n) L))
  rw [demL_len] at this
  exact this
theorem capL_succ (n : Nat) : preS (capL L W (n + 1)) (n + 1) = preS (capL L W n) n + foldC (capL L W n) (W n) L := by
  have := preS_snoc_end (capL L W n) (foldC (capL L W n) (W n) L)
  rw [capL_len] at this
  exact this
theorem back_dem (n : Nat) (b : B2) : back (demL L W n) b = preS (demL L W n) n - preS (demL L W (n + 1 - b.1.toNat)) (n + 1 - b.1.toNat) ∨ n + 1 < n + 1 - b.1.toNat ∨ b.1.toNat = 0 := by
  by_cases c : b.1.toNat = 0
  · exact .inr (.inr c)
  · left
    unfold back
    rw [demL_len, demL_pre h n (n + 1 - b.1.toNat) (by omega)]
theorem back_dem' {n : Nat} {b : B2} (hb : b ∈ L) : back (demL L W n) b = preS (demL L W n) n - preS (demL L W (n + 1 - b.1.toNat)) (n + 1 - b.1.toNat) := by
  have := h.t b hb
  rcases back_dem h (W := W) n b with e | e | e
  · exact e
  · omega
  · omega
theorem back_cap' {n : Nat} {b : B2} (hb : b ∈ L) : back (capL L W n) b = preS (capL L W n) n - preS (capL L W (n + 1 - b.1.toNat)) (n + 1 - b.1.toNat) := by
  have := h.t b hb
  unfold back
  rw [capL_len, capL_pre h n (n + 1 - b.1.toNat) (by omega)]
theorem demL_nonneg : ∀ (n m : Nat), 0 ≤ (demL L W n).getD m 0
  | 0, m => by simp [demL]
  | n + 1, m => by
    show 0 ≤ (demL L W n ++ [_]).getD m 0
    rw [List.getD_eq_getElem?_getD]
    by_cases c : m < (demL L W n).length
    · rw [List.getElem?_append_left c, ← List.getD_eq_getElem?_getD]; exact demL_nonneg n m
    · rw [List.getElem?_append_right (by omega)]
      cases e : m - (demL L W n).length with
      | zero => show 0 ≤ max 0 _; omega
      | succ q => simp
theorem capL_nonneg (hW : ∀ n, 0 ≤ W n) : ∀ (n m : Nat), 0 ≤ (capL L W n).getD m 0
  | 0, m => by simp [capL]
  | n + 1, m => by
    show 0 ≤ (capL L W n ++ [_]).getD m 0
    rw [List.getD_eq_getElem?_getD]
    by_cases c : m < (capL L W n).length
    · rw [List.getElem?_append_left c, ← List.getD_eq_getElem?_getD]; exact capL_nonneg hW n m
    · rw [List.getElem?_append_right (by omega)]
      cases e : m - (capL L W n).length with
      | zero =>
        have h1 := (foldC_le (capL L W n) L (W n)).1
        have h2 := hW n
        show 0 ≤ foldC _ _ _
        omega
      | succ q => simp
theorem demL_keeps : ∀ n, Keeps L (demL L W n)
  | 0, b, hb, s => by
    have := h.a b hb
    rw [preS_over (l := demL L W 0) (s + b.1.toNat) (Nat.zero_le _), preS_over (l := demL L W 0) s (Nat.zero_le _)]
    omega
  | n + 1, b, hb, s => by
    have ha := h.a b hb
    have ht := h.t b hb
    have ih := demL_keeps n b hb
    have mono := fun (m q : Nat) (hmq : m ≤ q) => preS_mono (demL_nonneg h (W := W) (n + 1)) hmq
    have len := demL_len L W (n + 1)
    by_cases c : s + b.1.toNat ≤ n
    · rw [demL_pre h _ _ (show s + b.1.toNat ≤ n + 1 by omega), demL_pre h _ _ (show s ≤ n + 1 by omega), ← demL_pre h n _ c, ← demL_pre h n s (by omega)]
      exact ih s
    · by_cases c2 : n + 1 ≤ s
      · rw [preS_over (l := demL L W (n + 1)) (s + b.1.toNat) (by omega), preS_over (l := demL L W (n + 1)) s (by omega)]
        omega
      · rw [preS_over (l := demL L W (n + 1)) (s + b.1.toNat) (by omega), len]
        have h1 := mono (n + 1 - b.1.toNat) s (by omega)
        rw [demL_pre h _ (n + 1 - b.1.toNat) (by omega)] at h1
        have h2 := demL_succ h (W := W) n
        have h3 := (foldD_le (demL L W n) L (W n)).2 b hb
        rw [back_dem' h hb] at h3
        have h4 := ih (n - b.1.toNat)
        have h5 : preS (demL L W n) n ≤ preS (demL L W n) (n - b.1.toNat + b.1.toNat) := preS_mono (demL_nonneg h (W := W) n) (by omega)
        have h6 : preS (demL L W n) (n - b.1.toNat) ≤ preS (demL L W n) (n + 1 - b.1.toNat) := preS_mono (demL_nonneg h (W := W) n) (by omega)
        rw [demL_pre h n (n + 1 - b.1.toNat) (by omega)] at h6
        omega
theorem capL_has : ∀ n, Has L n (capL L W n)
  | 0, b, hb, s, hs => by
    have := h.t b hb
    omega
  | n + 1, b, hb, s, hs => by
    have ht := h.t b hb
    by_cases c : s + b.1.toNat ≤ n
    · rw [capL_pre h _ _ hs, capL_pre h _ _ (show s ≤ n + 1 by omega), ← capL_pre h n _ c, ← capL_pre h n s (by omega)]
      exact capL_has n b hb s c
    · have e : s + b.1.toNat = n + 1 := by omega
      rw [e, capL_pre h _ s (by omega)]
      have h2 := capL_succ h (W := W) n
      have h3 := (foldC_le (capL L W n) L (W n)).2 b hb (by rw [capL_len]; omega)
      rw [back_cap' h hb, show n + 1 - b.1.toNat = s by omega] at h3
      omega
theorem demL_le (n : Nat) : preS (demL L W n) n ≤ mst L n := by
  have := keeps_mst h (demL_nonneg h (W := W) n) (demL_keeps h n) n 0
  rw [Nat.zero_add] at this
  have e : preS (demL L W n) 0 = 0 := rfl
  omega
theorem capL_ge (hW : ∀ n, 0 ≤ W n) (n : Nat) : lst L n ≤ preS (capL L W n) n := by
  have := has_lst h (capL_nonneg h hW n) (capL_has h n) n 0 (by omega)
  rw [Nat.zero_add] at this
  have e : preS (capL L W n) 0 = 0 := rfl
  omega
theorem demL_full (hW : ∀ n, ∀ b ∈ L, b.2 ≤ W n) : ∀ n, preS (demL L W n) n = mst L n := by
  intro n
  induction n using Nat.strongRecOn with
  | _ n ih =>
    cases n with
    | zero => rfl
    | succ n =>
      have hs := demL_succ h (W := W) n
      have i0 := ih n (by omega)
      obtain ⟨m1, j, _, b, hb, e⟩ := mst_spec h n
      have hbm := List.mem_of_getElem? hb
      have mono := mst_step h n
      have up := (foldD_le (demL L W n) L (W n)).2 b hbm
      rw [back_dem' h hbm, ih (n + 1 - b.1.toNat) (by have := h.t b hbm; omega), i0] at up
      rcases foldD_at (demL L W n) L (W n) with q | ⟨c, hc, q⟩
      · have h1 := hW n b hbm
        have h2 := mst_mono h (show n + 1 - b.1.toNat ≤ n by have := h.t b hbm; omega)
        have h3 := demL_le h (W := W) (n + 1)
        omega
      · rw [back_dem' h hc, ih (n + 1 - c.1.toNat) (by have := h.t c hc; omega), i0] at q
        have := m1 c hc
        omega
theorem capL_full : ∀ n, preS (capL L (fun _ => 0) n) n = lst L n := by
  intro n
  induction n using Nat.strongRecOn with
  | _ n ih =>
    cases n with
    | zero => rfl
    | succ n =>
      have hs := capL_succ h (W := fun _ => 0) n
      have i0 := ih n (by omega)
      obtain ⟨m0, m1, m2⟩ := lst_spec h n
      have ge := capL_ge h (W := fun _ => 0) (fun _ => Int.le_refl _) (n + 1)
      rcases foldC_at (capL L (fun _ => 0) n) L 0 with q | ⟨c, hc, hq, q⟩
      · omega
      · rw [back_cap' h hc, ih (n + 1 - c.1.toNat) (by have := h.t c hc; omega), i0] at q
        rw [capL_len] at hq
        have := m1 c hc hq
        omega
theorem demL_small (hW : ∀ n, W n ≤ 1000) : ∀ (n m : Nat), (demL L W n).getD m 0 ≤ 1000
  | 0, m => by simp [demL]
  | n + 1, m => by
    show (demL L W n ++ [_]).getD m 0 ≤ 1000
    rw [List.getD_eq_getElem?_getD]
    by_cases c : m < (demL L W n).length
    · rw [List.getElem?_append_left c, ← List.getD_eq_getElem?_getD]; exact demL_small hW n m
    · rw [List.getElem?_append_right (by omega)]
      cases e : m - (demL L W n).length with
      | zero =>
        have h1 := (foldD_le (demL L W n) L (W n)).1
        have h2 := hW n
        show max 0 (foldD _ _ _) ≤ 1000
        omega
      | succ q => simp
theorem capL_small (hW : ∀ n, 0 ≤ W n ∧ W n ≤ 1000000) : ∀ (n m : Nat), (capL L W n).getD m 0 ≤ 1000000
  | 0, m => by simp [capL]
  | n + 1, m => by
    show (capL L W n ++ [_]).getD m 0 ≤ 1000000
    rw [List.getD_eq_getElem?_getD]
    by_cases c : m < (capL L W n).length
    · rw [List.getElem?_append_left c, ← List.getD_eq_getElem?_getD]; exact capL_small hW n m
    · rw [List.getElem?_append_right (by omega)]
      cases e : m - (capL L W n).length with
      | zero =>
        have h2 := hW n
        show foldC _ _ _ ≤ 1000000
        rcases foldC_at (capL L W n) L (W n) with q | ⟨b, hb, _, q⟩
        · omega
        · have := h.a b hb
          have mono : preS (capL L W n) (n + 1 - b.1.toNat) ≤ preS (capL L W n) n := preS_mono (capL_nonneg h (fun n => (hW n).1) n) (by have := h.t b hb; omega)
          rw [q]
          unfold back
          rw [capL_len]
          omega
      | succ q => simp
end
end Pm
end
section
namespace Go.Proofs.Ythoeindopljmkaa.P
open Go.RowKit Go.Proofs.YthoeindopljmkaaW.PrintWords Go.Proofs.YthoeindopljmkaaW.PrintLast Go.Proofs.YthoeindopljmkaaW.PrintMore
open Pm
set_option linter.unusedSectionVars false
def Mild (l : List Int) : Prop := l.length ≤ 1000 ∧ ∀ m, 0 ≤ l.getD m 0 ∧ l.getD m 0 ≤ 1000000
theorem preS_bd {l : List Int} (h : Mild l) : ∀ m, 0 ≤ preS l m ∧ preS l m ≤ 1000000 * m
  | 0 => by simp [preS]
  | m + 1 => by
    have := preS_bd h m
    have := h.2 m
    have e : preS l (m + 1) = preS l m + l.getD m 0 := rfl
    omega
theorem preS_diff {l : List Int} (h : Mild l) {s t : Nat} (hst : s ≤ t) : 0 ≤ preS l t - preS l s := by
  have := preS_mono (fun m => (h.2 m).1) hst
  omega
theorem sumsM_l0 {l : List Int} (h : Mild l) {s d : Nat} (hs : s ≤ 2000) (hd : d ≤ 2000) : ∀ (m i : Nat), s ≤ i → i + m = s + d → Ev (fun k => pianolalaw04_sums.l0 k l s d (preS l i - preS l s) i) (preS l (s + d) - preS l s)
  | 0, i, h1, h2 => by
    obtain rfl : i = s + d := by omega
    refine Ev.step (f := fun _ => some (preS l (s + d) - preS l s)) (fun k => ?_) (Ev.now _)
    rw [pianolalaw04_sums.l0, if_neg (by unfold wrap64; omega)]
  | m + 1, i, h1, h2 => by
    have e0 : wrap64 ((s : Int) + d) = ((s + d : Nat) : Int) := by unfold wrap64; omega
    by_cases c : i < l.length
    · have b1 := preS_bd h i
      have b2 := preS_bd h s
      have b3 := h.2 i
      have e : preS l (i + 1) = preS l i + l.getD i 0 := rfl
      have er : rd l (i : Int) = l.getD i 0 := rfl
      refine Ev.step (fun k => ?_) (sumsM_l0 h hs hd m (i + 1) (by omega) (by omega))
      rw [pianolalaw04_sums.l0, e0, if_pos (by omega), if_pos (by omega), if_pos (by omega), er, wrapN (by omega), show wrap64 (preS l i - preS l s + l.getD i 0) = preS l (i + 1) - preS l s by unfold wrap64; omega]
    · refine Ev.step (f := fun _ => some (preS l (s + d) - preS l s)) (fun k => ?_) (Ev.now _)
      rw [pianolalaw04_sums.l0, e0, if_pos (by omega), if_neg (by omega), preS_over (l := l) i (by omega), preS_over (l := l) (s + d) (by omega)]
theorem sumsM_f {l : List Int} (h : Mild l) {s d : Nat} (hs : s ≤ 2000) (hd : d ≤ 2000) : Ev (fun k => pianolalaw04_sums.f k l s d) (preS l (s + d) - preS l s) := by
  have := sumsM_l0 h hs hd d s (Nat.le_refl _) rfl
  rw [show preS l s - preS l s = 0 by omega] at this
  exact this
def Wd (y : List Int) (t : Nat) : Int := if y.length = 0 then 1000 else Int.tmod (wrap64 (rd y ((t % y.length : Nat) : Int))) 8
def Wc (y : List Int) (t : Nat) : Int := if y.length = 0 then 0 else wrap64 (wrap64 (Int.tdiv (Int.tmod (wrap64 (rd y ((t % y.length : Nat) : Int))) 8) 2) * wrap64 (Int.tdiv (wrap64 (rd y ((t % y.length : Nat) : Int))) 128))
def Bytes (y : List Int) : Prop := y.length ≤ 9223372036854775807 ∧ ∀ x ∈ y, 0 ≤ x ∧ x < 256
theorem bytes_rd {y : List Int} (h : Bytes y) (i : Int) : 0 ≤ rd y i ∧ rd y i < 256 := by
  unfold rd
  rw [List.getD_eq_getElem?_getD]
  by_cases c : i.toNat < y.length
  · rw [List.getElem?_eq_getElem c]; exact h.2 _ (List.getElem_mem c)
  · rw [List.getElem?_eq_none (by omega)]; exact ⟨Int.le_refl _, by decide⟩
theorem Wd_in {y : List Int} (h : Bytes y) (t : Nat) : 0 ≤ Wd y t ∧ Wd y t ≤ 1000 := by
  unfold Wd
  by_cases c : y.length = 0
  · rw [if_pos c]; omega
  · rw [if_neg c]
    have b := bytes_rd h ((t % y.length : Nat) : Int)
    rw [show ∀ z : Int, 0 ≤ z ∧ z < 256 → wrap64 z = z from fun z hz => by unfold wrap64; omega]
    · have := Int.tmod_nonneg 8 b.1
      have := Int.tmod_lt_of_pos (rd y ((t % y.length : Nat) : Int)) (show (0 : Int) < 8 by omega)
      omega
    · exact b
theorem Wc_in {y : List Int} (h : Bytes y) (t : Nat) : 0 ≤ Wc y t ∧ Wc y t ≤ 1000000 := by
  unfold Wc
  by_cases c : y.length = 0
  · rw [if_pos c]; omega
  · rw [if_neg c]
    have b := bytes_rd h ((t % y.length : Nat) : Int)
    generalize rd y ((t % y.length : Nat) : Int) = z at b
    have e : wrap64 z = z := by unfold wrap64; omega
    rw [e]
    have m0 := Int.tmod_nonneg 8 b.1
    have m1 := Int.tmod_lt_of_pos z (show (0 : Int) < 8 by omega)
    have d0 : 0 ≤ Int.tdiv (Int.tmod z 8) 2 ∧ Int.tdiv (Int.tmod z 8) 2 ≤ 3 := by
      rw [Int.tdiv_eq_ediv_of_nonneg m0]; omega
    have d1 : 0 ≤ Int.tdiv z 128 ∧ Int.tdiv z 128 ≤ 1 := by
      rw [Int.tdiv_eq_ediv_of_nonneg b.1]; omega
    generalize Int.tdiv (Int.tmod z 8) 2 = u at d0; generalize Int.tdiv z 128 = v at d1
    rw [show wrap64 u = u by unfold wrap64; omega, show wrap64 v = v by unfold wrap64; omega]
    have hv : v = 0 ∨ v = 1 := by omega
    rcases hv with rfl | rfl
    · rw [Int.mul_zero]; unfold wrap64; omega
    · rw [Int.mul_one]; unfold wrap64; omega
theorem mn_min' (a b : Int) : mn a b = min a b := by unfold mn; omega
theorem tmod_nat (t n : Nat) : Int.tmod (t : Int) (n : Int) = ((t % n : Nat) : Int) := by
  rw [Int.tmod_eq_emod_of_nonneg (Int.natCast_nonneg t)]
  exact (Int.natCast_emod t n).symm
section
variable {l : List S71} (hb : Bds (bs l)) (hl : l.length ≤ 1000)
include hb hl
theorem bs_at {i : Nat} (h : i < l.length) : (1 ≤ (rd_T71 l i).f0 ∧ (rd_T71 l i).f0 ≤ 100) ∧ 0 ≤ (rd_T71 l i).f1 ∧ (rd_T71 l i).f1 ≤ 1000000 := by
  have hm : ((rd_T71 l i).f0, (rd_T71 l i).f1) ∈ bs l := List.mem_of_mem_drop (i := i) (by rw [bs_drop l h]; exact List.mem_cons_self)
  exact ⟨hb.t _ hm, hb.a _ hm⟩
theorem mild_dem (y : List Int) (hy : Bytes y) {n : Nat} (hn : n ≤ 1000) : Mild (demL (bs l) (Wd y) n) :=
  ⟨by rw [demL_len]; exact hn, fun m => ⟨demL_nonneg hb n m, by have := demL_small hb (fun q => (Wd_in hy q).2) n m; omega⟩⟩
theorem mild_cap (y : List Int) (hy : Bytes y) {n : Nat} (hn : n ≤ 1000) : Mild (capL (bs l) (Wc y) n) :=
  ⟨by rw [capL_len]; exact hn, fun m => ⟨capL_nonneg hb (fun q => (Wc_in hy q).1) n m, capL_small hb (fun q => Wc_in hy q) n m⟩⟩
theorem demand_l1 {out : List Int} (ho : Mild out) (n : Int) (y : List Int) (r : List Int) : ∀ (m i : Nat), i + m = l.length → ∀ w : Int, -10000000000 ≤ w → w ≤ 10000000000 →
    Ev (fun k => pianolalaw04_demand.l0 k l n y (out ++ [max 0 (foldD out w ((bs l).drop i))]) ((out.length + 1 : Nat) : Int)) r →
    Ev (fun k => pianolalaw04_demand.l1 k l n y out out.length w l l.length i) r
  | 0, i, h, w, w0, w1, hr => by
    have := ho.1
    refine Ev.step (fun k => ?_) hr
    rw [pianolalaw04_demand.l1, if_neg (by omega), if_pos (by omega), wrapN (by omega), mx_max, List.drop_eq_nil_of_le (by simp [bs]; omega)]
    rfl
  | m + 1, i, h, w, w0, w1, hr => by
    have c : i < l.length := by omega
    have hl0 := ho.1
    obtain ⟨ht, ha⟩ := bs_at hb hl c
    rw [bs_drop l c] at hr
    have es : mx 0 (wrap64 (wrap64 ((out.length : Int) - (rd_T71 l i).f0) + 1)) = ((out.length + 1 - (rd_T71 l i).f0.toNat : Nat) : Int) := by
      rw [show wrap64 ((out.length : Int) - (rd_T71 l i).f0) = (out.length : Int) - (rd_T71 l i).f0 by unfold wrap64; omega, show wrap64 ((out.length : Int) - (rd_T71 l i).f0 + 1) = (out.length : Int) - (rd_T71 l i).f0 + 1 by unfold wrap64; omega, mx_max]
      omega
    have et : (rd_T71 l i).f0 = (((rd_T71 l i).f0.toNat : Nat) : Int) := by omega
    have hs := sumsM_f ho (s := out.length + 1 - (rd_T71 l i).f0.toNat) (d := (rd_T71 l i).f0.toNat) (by omega) (by omega)
    rw [preS_over (l := out) _ (show out.length ≤ out.length + 1 - (rd_T71 l i).f0.toNat + (rd_T71 l i).f0.toNat by omega)] at hs
    have hbk : preS out out.length - preS out (out.length + 1 - (rd_T71 l i).f0.toNat) = back out ((rd_T71 l i).f0, (rd_T71 l i).f1) := rfl
    have b1 := preS_bd ho out.length
    have b2 := preS_diff ho (show out.length + 1 - (rd_T71 l i).f0.toNat ≤ out.length by omega)
    have b3 := preS_bd ho (out.length + 1 - (rd_T71 l i).f0.toNat)
    rw [hbk] at hs b2
    refine Ev.step (f := fun k => (pianolalaw04_sums.f k out ((out.length + 1 - (rd_T71 l i).f0.toNat : Nat) : Int) (((rd_T71 l i).f0.toNat : Nat) : Int)).bind fun t => pianolalaw04_demand.l1 k l n y out out.length (mn w (wrap64 ((rd_T71 l i).f1 - t))) l l.length ((i + 1 : Nat) : Int)) (fun k => ?_) ?_
    · rw [pianolalaw04_demand.l1, if_pos (by omega), if_pos (by omega), if_pos (by omega), es, wrapN (by omega), ← et]
    · refine Ev.bind hs ?_
      rw [mn_min', show wrap64 ((rd_T71 l i).f1 - back out ((rd_T71 l i).f0, (rd_T71 l i).f1)) = (rd_T71 l i).f1 - back out ((rd_T71 l i).f0, (rd_T71 l i).f1) by rw [← hbk]; unfold wrap64; omega]
      refine demand_l1 ho n y r m (i + 1) (by omega) _ (by rw [← hbk]; omega) (by omega) ?_
      exact hr
theorem demand_l0 {n : Nat} (hn : n ≤ 1000) (y : List Int) (hy : Bytes y) : ∀ (m t : Nat), t + m = n → Ev (fun k => pianolalaw04_demand.l0 k l n y (demL (bs l) (Wd y) t) t) (demL (bs l) (Wd y) n)
  | 0, t, h => by
    obtain rfl : t = n := by omega
    refine Ev.step (f := fun _ => some (demL (bs l) (Wd y) t)) (fun k => ?_) (Ev.now _)
    rw [pianolalaw04_demand.l0, if_neg (by omega)]
  | m + 1, t, h => by
    have ih := demand_l0 hn y hy m (t + 1) (by omega)
    have hw := Wd_in hy t
    have ho := mild_dem hb hl y hy (n := t) (by omega)
    have hlen := demL_len (bs l) (Wd y) t
    have step := demand_l1 hb hl ho n y (demL (bs l) (Wd y) n) l.length 0 (by omega) (Wd y t) (by omega) (by omega) (by
      rw [List.drop_zero, hlen]
      exact ih)
    rw [hlen] at step
    refine Ev.step (f := fun k => pianolalaw04_demand.j1 k l n y (demL (bs l) (Wd y) t) t (Wd y t)) (fun k => ?_) (Ev.step (fun k => ?_) step)
    · rw [pianolalaw04_demand.l0, if_pos (by omega)]
      unfold Wd
      by_cases c : y.length = 0
      · rw [if_neg (by omega), if_pos c]
      · have hlt := Nat.mod_lt t (show 0 < y.length by omega)
        rw [if_pos (by omega), if_neg (by omega), tmod_nat, if_pos (by omega), if_pos (by omega), if_neg c]
    · rw [pianolalaw04_demand.j1]; rfl
theorem demand_f {n : Nat} (hn : n ≤ 1000) (y : List Int) (hy : Bytes y) : Ev (fun k => pianolalaw04_demand.f k l n y) (demL (bs l) (Wd y) n) :=
  demand_l0 hb hl hn y hy n 0 (by omega)
theorem capacity_l1 {out : List Int} (ho : Mild out) (n : Int) (y : List Int) (r : List Int) : ∀ (m i : Nat), i + m = l.length → ∀ w : Int, 0 ≤ w → w ≤ 10000000000 →
  Ev (fun k => pianolalaw04_capacity.l0 k l n y (out ++ [foldC out w ((bs l).drop i)]) ((out.length + 1 : Nat) : Int)) r →
  Ev (fun k => pianolalaw04_capacity.l1 k l n y out out.length w l l.length i) r
 | 0, i, h, w, w0, w1, hr => by
  have := ho.1
  refine Ev.step (fun k => ?_) hr
  rw [pianolalaw04_capacity.l1, if_neg (by omega), if_pos (by omega), wrapN (by omega), List.drop_eq_nil_of_le (by simp [bs]; omega)]
  rfl
 | m + 1, i, h, w, w0, w1, hr => by
  have c : i < l.length := by omega
  have hl0 := ho.1
  obtain ⟨ht, ha⟩ := bs_at hb hl c
  rw [bs_drop l c] at hr
  have e0 : foldC out w (((rd_T71 l i).f0, (rd_T71 l i).f1) :: (bs l).drop (i + 1)) = foldC out (if (rd_T71 l i).f0 ≤ (out.length : Int) + 1 then max w ((rd_T71 l i).f1 - back out ((rd_T71 l i).f0, (rd_T71 l i).f1)) else w) ((bs l).drop (i + 1)) := rfl
  rw [e0] at hr
  by_cases q : (rd_T71 l i).f0 ≤ (out.length : Int) + 1
  ·
   rw [if_pos q] at hr
   have es : wrap64 (wrap64 ((out.length : Int) - (rd_T71 l i).f0) + 1) = ((out.length + 1 - (rd_T71 l i).f0.toNat : Nat) : Int) := by
    rw [show wrap64 ((out.length : Int) - (rd_T71 l i).f0) = (out.length : Int) - (rd_T71 l i).f0 by unfold wrap64; omega, show wrap64 ((out.length : Int) - (rd_T71 l i).f0 + 1) = (out.length : Int) - (rd_T71 l i).f0 + 1 by unfold wrap64; omega]
    omega
   have et : (rd_T71 l i).f0 = (((rd_T71 l i).f0.toNat : Nat) : Int) := by omega
   have hs := sumsM_f ho (s := out.length + 1 - (rd_T71 l i).f0.toNat) (d := (rd_T71 l i).f0.toNat) (by omega) (by omega)
   rw [preS_over (l := out) _ (show out.length ≤ out.length + 1 - (rd_T71 l i).f0.toNat + (rd_T71 l i).f0.toNat by omega)] at hs
   have hbk : preS out out.length - preS out (out.length + 1 - (rd_T71 l i).f0.toNat) = back out ((rd_T71 l i).f0, (rd_T71 l i).f1) := rfl
   have b1 := preS_bd ho out.length
   have b2 := preS_diff ho (show out.length + 1 - (rd_T71 l i).f0.toNat ≤ out.length by omega)
   have b3 := preS_bd ho (out.length + 1 - (rd_T71 l i).f0.toNat)
   rw [hbk] at hs b2
   refine Ev.step (f := fun k => (pianolalaw04_sums.f k out ((out.length + 1 - (rd_T71 l i).f0.toNat : Nat) : Int) (((rd_T71 l i).f0.toNat : Nat) : Int)).bind fun t => pianolalaw04_capacity.l1 k l n y out out.length (mx w (wrap64 ((rd_T71 l i).f1 - t))) l l.length ((i + 1 : Nat) : Int)) (fun k => ?_) ?_
   ·
    rw [pianolalaw04_capacity.l1, if_pos (by omega), if_pos (by omega), if_pos (by omega), wrapN (by omega), if_pos (by omega), es, wrapN (by omega), ← et]
   ·
    refine Ev.bind hs ?_
    rw [mx_max, show wrap64 ((rd_T71 l i).f1 - back out ((rd_T71 l i).f0, (rd_T71 l i).f1)) = (rd_T71 l i).f1 - back out ((rd_T71 l i).f0, (rd_T71 l i).f1) by rw [← hbk]; unfold wrap64; omega]
    refine capacity_l1 ho n y r m (i + 1) (by omega) _ (by omega) (by rw [← hbk]; omega) ?_
    exact hr
  ·
   rw [if_neg q] at hr
   refine Ev.step (fun k => ?_) (capacity_l1 ho n y r m (i + 1) (by omega) w w0 w1 hr)
   rw [pianolalaw04_capacity.l1, if_pos (by omega), if_pos (by omega), if_pos (by omega), wrapN (by omega), if_neg (by omega), wrapN (by omega)]
theorem capacity_l0 {n : Nat} (hn : n ≤ 1000) (y : List Int) (hy : Bytes y) : ∀ (m t : Nat), t + m = n → Ev (fun k => pianolalaw04_capacity.l0 k l n y (capL (bs l) (Wc y) t) t) (capL (bs l) (Wc y) n)
  | 0, t, h => by
    obtain rfl : t = n := by omega
    refine Ev.step (f := fun _ => some (capL (bs l) (Wc y) t)) (fun k => ?_) (Ev.now _)
    rw [pianolalaw04_capacity.l0, if_neg (by omega)]
  | m + 1, t, h => by
    have ih := capacity_l0 hn y hy m (t + 1) (by omega)
    have hw := Wc_in hy t
    have ho := mild_cap hb hl y hy (n := t) (by omega)
    have hlen := capL_len (bs l) (Wc y) t
    have step := capacity_l1 hb hl ho n y (capL (bs l) (Wc y) n) l.length 0 (by omega) (Wc y t) (by omega) (by omega) (by
      rw [List.drop_zero, hlen]
      exact ih)
    rw [hlen] at step
    refine Ev.step (f := fun k => pianolalaw04_capacity.j1 k l n y (capL (bs l) (Wc y) t) t (Wc y t)) (fun k => ?_) (Ev.step (fun k => ?_) step)
    · rw [pianolalaw04_capacity.l0, if_pos (by omega)]
      unfold Wc
      by_cases c : y.length = 0
      · rw [if_neg (by omega), if_pos c]
      · have hlt := Nat.mod_lt t (show 0 < y.length by omega)
        rw [if_pos (by omega), if_neg (by omega), tmod_nat, if_pos (by omega), if_pos (by omega), if_neg c]
    · rw [pianolalaw04_capacity.j1]; rfl
theorem capacity_f {n : Nat} (hn : n ≤ 1000) (y : List Int) (hy : Bytes y) : Ev (fun k => pianolalaw04_capacity.f k l n y) (capL (bs l) (Wc y) n) :=
  capacity_l0 hb hl hn y hy n 0 (by omega)
end
theorem bytes_nil : Bytes [] := ⟨by simp, fun x h => by cases h⟩
theorem Wd_nil : Wd [] = fun _ => 1000 := rfl
theorem Wc_nil : Wc [] = fun _ => 0 := rfl
end Go.Proofs.Ythoeindopljmkaa.P
end
section
namespace Go.Proofs.Ythoeindopljmkaa.P
open Go.RowKit Go.Proofs.YthoeindopljmkaaW.PrintWords Go.Proofs.YthoeindopljmkaaW.PrintLast Go.Proofs.YthoeindopljmkaaW.PrintMore
set_option linter.unusedVariables false
set_option linter.unusedSimpArgs false
def selT (L : List S71) (y : List Int) : Nat → Int × Int
  | 0 => (0, 0)
  | j + 1 => if j < 12 then (wrap64 ((selT L y j).1 + (rd_T71 L (Int.tmod (wrap64 (rd y j)) L.length)).f0), wrap64 ((selT L y j).2 + (rd_T71 L (Int.tmod (wrap64 (rd y j)) L.length)).f1)) else selT L y j
theorem selT_skip (L : List S71) (y : List Int) {j : Nat} (h : ¬ j < 12) : selT L y (j + 1) = selT L y j := by rw [selT, if_neg h]
theorem selT_step (L : List S71) (y : List Int) {j : Nat} (h : j < 12) : selT L y (j + 1) = (wrap64 ((selT L y j).1 + (rd_T71 L (Int.tmod (wrap64 (rd y j)) L.length)).f0), wrap64 ((selT L y j).2 + (rd_T71 L (Int.tmod (wrap64 (rd y j)) L.length)).f1)) := by rw [selT, if_pos h]
structure Sums (L : List S71) (p : List Int) : Prop where
  len : p.length ≤ 200
  at_ : ∀ j : Nat, j < p.length → 0 ≤ rd p j ∧ rd p j < L.length
  up : ∀ j q : Int, 0 < j → j < p.length → j - 1 = q → rd p q ≤ rd p j
  step : ∀ j : Nat, j < p.length → wrap64 (ticksOf L (p.take j) + (rd_T71 L (rd p j)).f0) = ticksOf L (p.take (j + 1)) ∧ wrap64 (amountOf L (p.take j) + (rd_T71 L (rd p j)).f1) = amountOf L (p.take (j + 1))
set_option maxHeartbeats 8000000 in
set_option maxRecDepth 100000 in
theorem pumpSides_walk (k : Nat) (A0 : Option Addr) (c0 : Nat) (l0 : List S86) (a1 : Int) (A2 : Option Addr) (c2 : Nat) (l2 : List Int) (A3 : Option Addr) (c3 : Nat) (l3 : List Int) (w : World)
  (hr0 : Kd.C k86 w A0 l0.length l0) (hc0 : l0.length ≤ c0) (hr2 : Kd.C (Kd.int .u8) w A2 l2.length l2) (hc2 : l2.length ≤ c2) (hr3 : Kd.C (Kd.int .u8) w A3 l3.length l3) (hc3 : l3.length ≤ c3)
  (L : List S71) (n M S : Int) (xs ys d c d0 k0 : List Int) (sd sc : Int)
  (hm : pianolalaw04_Set_made.f k l0 = some L) (hn : Int.tmod (wrap64 a1) 13 = n) (hM : pump_Most.f L n = some (M, 0)) (hS : pump_Least.f L n = some (S, 0))
  (hX : pump_Cover.f L n = some (xs, 0)) (hY : pump_Pack.f L n = some (ys, 0)) (sX : Sums L xs) (sY : Sums L ys) (tX : n ≤ ticksOf L xs) (aX : amountOf L xs = M) (tY : ticksOf L ys ≤ n) (aY : amountOf L ys = S) (hL0 : 0 < L.length) (h8 : ∀ j, 0 ≤ rd l2 j ∧ rd l2 j < 256)
  (hFA : (n ≤ (selT L l2 l2.length).1 → M ≤ (selT L l2 l2.length).2) ∧ ((selT L l2 l2.length).1 ≤ n → (selT L l2 l2.length).2 ≤ S))
  (hDK : pianolalaw04_demand.f k L n l3 = some d ∧ pianolalaw04_capacity.f k L n l3 = some c ∧ pianolalaw04_sums.f k d 0 n = some sd ∧ pianolalaw04_sums.f k c 0 n = some sc ∧ sd ≤ M ∧ S ≤ sc ∧
   pianolalaw04_demand.f k L n [] = some d0 ∧ pianolalaw04_capacity.f k L n [] = some k0 ∧ pianolalaw04_sums.f k d0 0 n = some M ∧ pianolalaw04_sums.f k k0 0 n = some S) :
  Calls Try.prog 7 #[.slice A0 l0.length c0, .int .u8 a1, .slice A2 l2.length c2, .slice A3 l3.length c3] w fun e w' => e = .returned (.bool true) ∧ Below w.heap.size w w' := by
 have KM := zA (pianolalaw04_Set_made.calls k A0 c0 l0 L w hr0 hc0 hm)
 have HR2 := zA hr2
 have HR3 := zA hr3
 have HM := zA hM
 have HS := zA hS
 have HX := zA hX
 have HY := zA hY
 have HN := zA hn
 have HFA := zA hFA
 have HDK := zA hDK
 have HL0 := zA hL0
 have H8 := zA h8
 have SX := zA (And.intro sX (And.intro tX aX))
 have SY := zA (And.intro sY (And.intro tY aY))
 clear hr0 hr2 hr3 hm hM hS hX hY hn sX sY tX tY aX aY hL0 h8 hFA hDK
 go_enter Try.func7, Try.ntmps7
 go_wp2_with fail
 refine KM.out.mono ?_
 rintro e w1 ⟨v1, rfl, hR, hb1⟩
 obtain ⟨A1, c1, rfl⟩ := Kd.R_slice hR
 have hL := (Kd.R_reads' hR).2
 have HL := zA hL
 have HB1 := zA hb1
 clear hR hL hb1 KM
 go_wp2_with fail
 rw [HN.out]
 refine (pump_Most.calls A1 c1 L n M 0 w1 HL.out.2 HL.out.1 HM.out).mono ?_
 rintro e w2 ⟨rfl, hb⟩
 have HB2 := zA hb
 have C2 := zA (Kd.C_below HL.out.2 hb)
 clear hb
 go_wp2_with fail
 refine (pump_Least.calls A1 c1 L n S 0 w2 C2.out HL.out.1 HS.out).mono ?_
 rintro e w3 ⟨rfl, hb⟩
 have HB3 := zA hb
 have C3 := zA (Kd.C_below C2.out hb)
 have HB13 := zA (below_t HB1.out (below_t HB2.out hb))
 clear hb
 go_wp2_with fail
 obtain ⟨gF, hgF⟩ : ∃ g, g = w3.heap.size := ⟨_, rfl⟩
 have bF : Below w3.heap.size w3 (w3.alloc (.cells #[.func (.func 21) #[] #[], .func (.func 22) #[] #[]] 32)) := below_alloc (Below.refl _ _) _
 have oF : (w3.alloc (.cells #[.func (.func 21) #[] #[], .func (.func 22) #[] #[]] 32)).heap[w3.heap.size]? = some (.cells #[.func (.func 21) #[] #[], .func (.func 22) #[] #[]] 32 (0, 0)) := heap_alloc_new _ _
 rw [← hgF] at oF ⊢
 generalize hWF : w3.alloc (.cells #[.func (.func 21) #[] #[], .func (.func 22) #[] #[]] 32) = WF at bF oF ⊢
 have CF := zA (Kd.C_below C3.out bF)
 have BF := zA (below_t HB13.out bF)
 have OF := zA oF
 clear hWF oF bF hgF
 go_loopg [55] 2 (fun kq v55 w' => ∃ i : Nat, v55 = .int .i64 i ∧ Aside0 (kq + i = 2) ∧ Aside0 (w'.heap[gF]? = some (.cells #[.func (.func 21) #[] #[], .func (.func 22) #[] #[]] 32 (0, 0))) ∧ Aside0 (Kd.C k71 w' A1 L.length L) ∧ Aside0 (Below w.heap.size w w'))
 case atStart => exact ⟨0, rfl, ⟨rfl⟩, OF, CF, BF⟩
 case round =>
  clear OF CF BF
  obtain ⟨i, rfl, HI, OF, CF, BF⟩ := hrel
  by_cases hi : i = 0
  ·
   subst hi
   have f0 : wr.cell? ⟨gF, 0, none⟩ = some (.func (.func 21) #[] #[]) := (blk_cell OF.out 0).trans rfl
   go_wp2_with fail
   refine (pump_Cover.calls A1 c1 L n xs 0 wr CF.out HL.out.1 HX.out).mono ?_
   rintro e w4 ⟨v4, rfl, hR, hb⟩
   obtain ⟨Ax, cx, rfl⟩ := Kd.R_slice hR
   have X4 := zA (Kd.R_reads' hR).2
   have OF4 := zA (blk_both OF.out hb).1
   have CF4 := zA (Kd.C_below CF.out hb)
   have BF4 := zA (below_t BF.out hb)
   clear hR hb OF CF BF f0
   go_wp2_with fail
   go_loopg [19, 20, 69] xs.length (fun kq v19 v20 v69 w' => ∃ j : Nat, v69 = .int .i64 j ∧ v19 = .int .i64 (ticksOf L (xs.take j)) ∧ v20 = .int .i64 (amountOf L (xs.take j)) ∧ Aside0 (kq + j = xs.length) ∧ Aside0 (w'.heap[gF]? = some (.cells #[.func (.func 21) #[] #[], .func (.func 22) #[] #[]] 32 (0, 0))) ∧ Aside0 (Kd.C k71 w' A1 L.length L) ∧ Aside0 (Kd.C (Kd.int .i64) w' Ax xs.length xs) ∧ Aside0 (Below w.heap.size w w'))
   case atStart => exact ⟨0, rfl, rfl, rfl, ⟨by simp⟩, OF4, CF4, ⟨X4.out.2⟩, BF4⟩
   case round =>
    clear OF4 CF4 BF4
    obtain ⟨j, rfl, rfl, rfl, HJ, OF, CF, CX, BF⟩ := hrel
    by_cases hj : j < xs.length
    ·
     obtain ⟨x0, x1⟩ := SX.out.1.at_ j hj
     obtain ⟨e1, e2⟩ := SX.out.1.step j hj
     obtain ⟨ax, ea, h0⟩ := Kd.at_int CX.out (j : Int) (by omega) (by omega)
     subst ea
     rw [Int.toNat_natCast] at h0
     obtain ⟨al, el, g0, g1⟩ := at_T71 CF.out (rd xs j) x0 x1
     subst el
     obtain ⟨x, hx⟩ : ∃ x, rd xs (j : Int) = x := ⟨_, rfl⟩
     have UP := zA (fun q => SX.out.1.up j q)
     have E := zA (And.intro e1 e2)
     rw [hx] at x0 x1 h0 g0 g1 E UP
     clear e1 e2
     have HXX := zA hx
     clear hx
     have b0 : decide (x < 0) = false := decide_eq_false (by omega)
     have b1 : decide ((L.length : Int) ≤ x) = false := decide_eq_false (by omega)
     have b2 : decide (0 ≤ x) = true := decide_eq_true x0
     have b3 : decide (x < (L.length : Int)) = true := decide_eq_true x1
     have bj : decide ((j : Int) < (xs.length : Int)) = true := decide_eq_true (by omega)
     have bj' : decide (j < xs.length) = true := decide_eq_true hj
     by_cases hz : 0 < j
     ·
      have bz : decide (0 < (j : Int)) = true := decide_eq_true (by omega)
      have bz' : decide (0 < j) = true := decide_eq_true hz
      obtain ⟨q, hq⟩ : ∃ q : Nat, j = q + 1 := ⟨j - 1, by omega⟩
      have wq' : wrap64 ((j : Int) - 1) = (q : Int) := by have := SX.out.1.len; unfold wrap64; omega
      have wq : IntKind.i64.wrap ((j : Int) - 1) = (q : Int) := by rw [i64_w]; have := SX.out.1.len; unfold wrap64; omega
      have q0 : decide ((q : Int) < (xs.length : Int)) = true := decide_eq_true (by omega)
      have q1 : q < xs.length := by omega
      have HJ2 := zA hj
      have WJ := zA (show wrap64 ((j : Int) + 1) = ((j + 1 : Nat) : Int) by have := SX.out.1.len; unfold wrap64; omega)
      obtain ⟨ax', ea, h1⟩ := Kd.at_int CX.out (q : Int) (by omega) (by omega)
      injection ea with ea
      subst ea
      rw [Int.toNat_natCast] at h1
      have hle := UP.out (q : Int) (by omega) (by omega) (by omega)
      obtain ⟨y, hy⟩ : ∃ y, rd xs (q : Int) = y := ⟨_, rfl⟩
      rw [hy] at h1 hle
      have by' : decide (x < y) = false := decide_eq_false (by omega)
      clear hq hy
      go_wp2_with fail
      go_quiet (fail)
      go_wp2
      go_roundg (xs.length - (j + 1))
      case measure => have := HJ.out; have := HJ2.out; omega
      case rel => exact ⟨j + 1, by first | go_num | rw [WJ.out], by rw [E.out.1], by rw [E.out.2], ⟨by have := HJ.out; omega⟩, ⟨blk_drewN OF.out _⟩, ⟨Kd.C_drewN CF.out _⟩, ⟨Kd.C_drewN CX.out _⟩, ⟨pw_below_drewN BF.out _⟩⟩
     ·
      have bz : decide (0 < (j : Int)) = false := decide_eq_false (by omega)
      have bz' : decide (0 < j) = false := decide_eq_false hz
      go_wp2_with fail
      go_quiet (fail)
      go_wp2
      go_roundg (xs.length - (j + 1))
      case measure => have := HJ.out; omega
      case rel => exact ⟨j + 1, by go_num, by rw [E.out.1], by rw [E.out.2], ⟨by have := HJ.out; omega⟩, ⟨blk_drewN OF.out _⟩, ⟨Kd.C_drewN CF.out _⟩, ⟨Kd.C_drewN CX.out _⟩, ⟨pw_below_drewN BF.out _⟩⟩
    ·
     obtain rfl : j = xs.length := by have := HJ.out; omega
     have T := SX.out.2
     rw [List.take_length, T.2]
     have bt : decide (ticksOf L xs < n) = false := decide_eq_false (by have := T.1; omega)
     clear T
     go_wp2
     go_roundg 1
     case measure => have := HI.out; omega
     case rel => exact ⟨1, rfl, ⟨rfl⟩, OF, CF, BF⟩
  ·
   by_cases hi1 : i = 1
   ·
    subst hi1
    have f0 : wr.cell? ⟨gF, 1, none⟩ = some (.func (.func 22) #[] #[]) := (blk_cell OF.out 1).trans rfl
    go_wp2_with fail
    refine (pump_Pack.calls A1 c1 L n ys 0 wr CF.out HL.out.1 HY.out).mono ?_
    rintro e w4 ⟨v4, rfl, hR, hb⟩
    obtain ⟨Ax, cx, rfl⟩ := Kd.R_slice hR
    have X4 := zA (Kd.R_reads' hR).2
    have OF4 := zA (blk_both OF.out hb).1
    have CF4 := zA (Kd.C_below CF.out hb)
    have BF4 := zA (below_t BF.out hb)
    clear hR hb OF CF BF f0
    go_wp2_with fail
    go_loopg [19, 20, 69] ys.length (fun kq v19 v20 v69 w' => ∃ j : Nat, v69 = .int .i64 j ∧ v19 = .int .i64 (ticksOf L (ys.take j)) ∧ v20 = .int .i64 (amountOf L (ys.take j)) ∧ Aside0 (kq + j = ys.length) ∧ Aside0 (w'.heap[gF]? = some (.cells #[.func (.func 21) #[] #[], .func (.func 22) #[] #[]] 32 (0, 0))) ∧ Aside0 (Kd.C k71 w' A1 L.length L) ∧ Aside0 (Kd.C (Kd.int .i64) w' Ax ys.length ys) ∧ Aside0 (Below w.heap.size w w'))
    case atStart => exact ⟨0, rfl, rfl, rfl, ⟨by simp⟩, OF4, CF4, ⟨X4.out.2⟩, BF4⟩
    case round =>
     clear OF4 CF4 BF4
     obtain ⟨j, rfl, rfl, rfl, HJ, OF, CF, CX, BF⟩ := hrel
     by_cases hj : j < ys.length
     ·
      obtain ⟨x0, x1⟩ := SY.out.1.at_ j hj
      obtain ⟨e1, e2⟩ := SY.out.1.step j hj
      obtain ⟨ax, ea, h0⟩ := Kd.at_int CX.out (j : Int) (by omega) (by omega)
      subst ea
      rw [Int.toNat_natCast] at h0
      obtain ⟨al, el, g0, g1⟩ := at_T71 CF.out (rd ys j) x0 x1
      subst el
      obtain ⟨x, hx⟩ : ∃ x, rd ys (j : Int) = x := ⟨_, rfl⟩
      have UP := zA (fun q => SY.out.1.up j q)
      have E := zA (And.intro e1 e2)
      rw [hx] at x0 x1 h0 g0 g1 E UP
      clear e1 e2
      have HXX := zA hx
      clear hx
      have b0 : decide (x < 0) = false := decide_eq_false (by omega)
      have b1 : decide ((L.length : Int) ≤ x) = false := decide_eq_false (by omega)
      have b2 : decide (0 ≤ x) = true := decide_eq_true x0
      have b3 : decide (x < (L.length : Int)) = true := decide_eq_true x1
      have bj : decide ((j : Int) < (ys.length : Int)) = true := decide_eq_true (by omega)
      have bj' : decide (j < ys.length) = true := decide_eq_true hj
      by_cases hz : 0 < j
      ·
       have bz : decide (0 < (j : Int)) = true := decide_eq_true (by omega)
       have bz' : decide (0 < j) = true := decide_eq_true hz
       obtain ⟨q, hq⟩ : ∃ q : Nat, j = q + 1 := ⟨j - 1, by omega⟩
       have wq' : wrap64 ((j : Int) - 1) = (q : Int) := by have := SY.out.1.len; unfold wrap64; omega
       have wq : IntKind.i64.wrap ((j : Int) - 1) = (q : Int) := by rw [i64_w]; have := SY.out.1.len; unfold wrap64; omega
       have q0 : decide ((q : Int) < (ys.length : Int)) = true := decide_eq_true (by omega)
       have q1 : q < ys.length := by omega
       have HJ2 := zA hj
       have WJ := zA (show wrap64 ((j : Int) + 1) = ((j + 1 : Nat) : Int) by have := SY.out.1.len; unfold wrap64; omega)
       obtain ⟨ax', ea, h1⟩ := Kd.at_int CX.out (q : Int) (by omega) (by omega)
       injection ea with ea
       subst ea
       rw [Int.toNat_natCast] at h1
       have hle := UP.out (q : Int) (by omega) (by omega) (by omega)
       obtain ⟨y, hy⟩ : ∃ y, rd ys (q : Int) = y := ⟨_, rfl⟩
       rw [hy] at h1 hle
       have by' : decide (x < y) = false := decide_eq_false (by omega)
       clear hq hy
       go_wp2_with fail
       go_quiet (fail)
       go_wp2
       go_roundg (ys.length - (j + 1))
       case measure => have := HJ.out; have := HJ2.out; omega
       case rel => exact ⟨j + 1, by first | go_num | rw [WJ.out], by rw [E.out.1], by rw [E.out.2], ⟨by have := HJ.out; omega⟩, ⟨blk_drewN OF.out _⟩, ⟨Kd.C_drewN CF.out _⟩, ⟨Kd.C_drewN CX.out _⟩, ⟨pw_below_drewN BF.out _⟩⟩
      ·
       have bz : decide (0 < (j : Int)) = false := decide_eq_false (by omega)
       have bz' : decide (0 < j) = false := decide_eq_false hz
       go_wp2_with fail
       go_quiet (fail)
       go_wp2
       go_roundg (ys.length - (j + 1))
       case measure => have := HJ.out; omega
       case rel => exact ⟨j + 1, by go_num, by rw [E.out.1], by rw [E.out.2], ⟨by have := HJ.out; omega⟩, ⟨blk_drewN OF.out _⟩, ⟨Kd.C_drewN CF.out _⟩, ⟨Kd.C_drewN CX.out _⟩, ⟨pw_below_drewN BF.out _⟩⟩
     ·
      obtain rfl : j = ys.length := by have := HJ.out; omega
      have T := SY.out.2
      rw [List.take_length, T.2]
      have bt : decide (n < ticksOf L ys) = false := decide_eq_false (by have := T.1; omega)
      clear T
      go_wp2
      go_roundg 0
      case measure => have := HI.out; omega
      case rel => exact ⟨2, rfl, ⟨rfl⟩, OF, CF, BF⟩
   ·
    obtain rfl : i = 2 := by have := HI.out; omega
    clear hi hi1
    go_wp2_with fail
    go_loopg [23, 24, 143] l2.length (fun kq v23 v24 v143 w' => ∃ j : Nat, v143 = .int .i64 j ∧ v23 = .int .i64 (selT L l2 j).1 ∧ v24 = .int .i64 (selT L l2 j).2 ∧ Aside0 (kq + j = l2.length) ∧ Aside0 (Kd.C k71 w' A1 L.length L) ∧ Aside0 (Below w.heap.size w w'))
    case atStart => exact ⟨0, rfl, rfl, rfl, ⟨by simp⟩, CF, BF⟩
    case round =>
     clear OF CF BF
     obtain ⟨j, rfl, rfl, rfl, HJ, CF, BF⟩ := hrel
     by_cases hj : j < l2.length
     ·
      have WJ := zA (show wrap64 ((j : Int) + 1) = ((j + 1 : Nat) : Int) by have := HR2.out.2.1; unfold wrap64; omega)
      obtain ⟨ax, ea, h0⟩ := Kd.at_int HR2.out (j : Int) (by omega) (by omega)
      have HA2 := zA ea
      subst ea
      rw [Int.toNat_natCast] at h0
      replace h0 := (BF.out.cell (World.block_lt_of_cell? w _ h0)).trans h0
      by_cases h12 : j < 12
      ·
       have b12 : decide ((j : Int) < 12) = true := decide_eq_true (by omega)
       have E := zA (selT_step L l2 h12)
       have HJ2 := zA hj
       have l0 := HL0.out
       have hx0 := H8.out (j : Int)
       obtain ⟨x, hx⟩ : ∃ x, rd l2 (j : Int) = x := ⟨_, rfl⟩
       rw [hx] at h0 hx0 E
       have hx1 : wrap64 x = x := by unfold wrap64; omega
       obtain ⟨i, hi⟩ : ∃ i, Int.tmod (wrap64 x) (L.length : Int) = i := ⟨_, rfl⟩
       have hi0 : 0 ≤ i := by rw [← hi, hx1]; exact Int.tmod_nonneg _ hx0.1
       have hi1 : i < (L.length : Int) := by rw [← hi, hx1]; exact Int.tmod_lt_of_pos _ (by omega)
       obtain ⟨al, el, g0, g1⟩ := at_T71 CF.out i hi0 hi1
       subst el
       rw [hi] at E
       have lz : ((L.length : Int) == 0) = false := beq_eq_false_iff_ne.mpr (by omega)
       have lz' : (L.length == 0) = false := beq_eq_false_iff_ne.mpr (by omega)
       have c0' : decide (0 ≤ i) = true := decide_eq_true hi0
       have c1' : decide (i < (L.length : Int)) = true := decide_eq_true hi1
       clear hx hx1 l0 hx0
       go_wp2_with fail
       obtain ⟨g27, hg27⟩ : ∃ g, g = wr.heap.size := ⟨_, rfl⟩
       have bN : Below wr.heap.size wr (wr.alloc (.cells #[.int .i64 (rd_T71 L i).f0, .int .i64 (rd_T71 L i).f1] 71)) := below_alloc (Below.refl _ _) _
       have oN : (wr.alloc (.cells #[.int .i64 (rd_T71 L i).f0, .int .i64 (rd_T71 L i).f1] 71)).heap[wr.heap.size]? = some (.cells #[.int .i64 (rd_T71 L i).f0, .int .i64 (rd_T71 L i).f1] 71 (0, 0)) := heap_alloc_new _ _
       rw [← hg27] at oN ⊢
       generalize hWN : wr.alloc (.cells #[.int .i64 (rd_T71 L i).f0, .int .i64 (rd_T71 L i).f1] 71) = WN at bN oN ⊢
       have z0 : WN.cell? ⟨g27, 0, none⟩ = some (.int .i64 (rd_T71 L i).f0) := (blk_cell oN 0).trans rfl
       have z1 : WN.cell? ⟨g27, 1, none⟩ = some (.int .i64 (rd_T71 L i).f1) := (blk_cell oN 1).trans rfl
       have CN := zA (Kd.C_below CF.out bN)
       have BN := zA (below_t BF.out bN)
       clear hWN bN oN hg27 g0 g1
       go_quiet (fail)
       go_wp2
       go_roundg (l2.length - (j + 1))
       case measure => have := HJ.out; have := HJ2.out; omega
       case rel => exact ⟨j + 1, by first | go_num | rw [WJ.out], by rw [E.out], by rw [E.out], ⟨by have := HJ.out; have := HJ2.out; omega⟩, ⟨Kd.C_drewN CN.out _⟩, ⟨pw_below_drewN BN.out _⟩⟩
      ·
       have b12 : decide ((j : Int) < 12) = false := decide_eq_false (by omega)
       have E := zA (selT_skip L l2 h12)
       have HJ2 := zA hj
       go_wp2
       go_roundg (l2.length - (j + 1))
       case measure => have := HJ.out; have := HJ2.out; omega
       case rel => exact ⟨j + 1, by first | go_num | rw [WJ.out], by rw [E.out], by rw [E.out], ⟨by have := HJ.out; have := HJ2.out; omega⟩, CF, BF⟩
     ·
      obtain rfl : j = l2.length := by have := HJ.out; omega
      have FA := HFA.out
      obtain ⟨T, hT⟩ : ∃ T, (selT L l2 l2.length).1 = T := ⟨_, rfl⟩
      obtain ⟨U, hU⟩ : ∃ U, (selT L l2 l2.length).2 = U := ⟨_, rfl⟩
      rw [hT, hU] at FA ⊢
      clear hT hU HFA
      have F1 : (decide (n ≤ T) = true ∧ decide (U < M) = false) ∨ decide (n ≤ T) = false := by
       by_cases h : n ≤ T
       ·
        exact .inl ⟨decide_eq_true h, decide_eq_false (by have := FA.1 h; omega)⟩
       ·
        exact .inr (decide_eq_false h)
      have F2 : (decide (T ≤ n) = true ∧ decide (S < U) = false) ∨ decide (T ≤ n) = false := by
       by_cases h : T ≤ n
       ·
        exact .inl ⟨decide_eq_true h, decide_eq_false (by have := FA.2 h; omega)⟩
       ·
        exact .inr (decide_eq_false h)
      clear FA
      rcases F1 with ⟨f1, f2⟩ | f1 <;> rcases F2 with ⟨f3, f4⟩ | f3
      all_goals
       go_wp2_with fail
       refine (pianolalaw04_demand.calls k A1 c1 L n A3 c3 l3 d wr CF.out HL.out.1 (Kd.C_below HR3.out BF.out) hc3 HDK.out.1).mono ?_
       rintro e w5 ⟨v5, rfl, hR, hb⟩
       obtain ⟨A5, c5, rfl⟩ := Kd.R_slice hR
       have X5 := zA (Kd.R_reads' hR).2
       have CF5 := zA (Kd.C_below CF.out hb)
       have BF5 := zA (below_t BF.out hb)
       clear hR hb CF BF
       go_wp2_with fail
       refine (pianolalaw04_capacity.calls k A1 c1 L n A3 c3 l3 c w5 CF5.out HL.out.1 (Kd.C_below HR3.out BF5.out) hc3 HDK.out.2.1).mono ?_
       rintro e w6 ⟨v6, rfl, hR, hb⟩
       obtain ⟨A6, c6, rfl⟩ := Kd.R_slice hR
       have X6 := zA (Kd.R_reads' hR).2
       have X56 := zA (Kd.C_below X5.out.2 hb)
       have CF6 := zA (Kd.C_below CF5.out hb)
       have BF6 := zA (below_t BF5.out hb)
       clear hR hb CF5 BF5
       go_wp2_with fail
       refine (pianolalaw04_sums.calls k A5 c5 d 0 n sd w6 X56.out X5.out.1 HDK.out.2.2.1).mono ?_
       rintro e w7 ⟨rfl, hd⟩
       have hb := hd.below
       have X67 := zA (Kd.C_below X6.out.2 hb)
       have CF7 := zA (Kd.C_below CF6.out hb)
       have BF7 := zA (below_t BF6.out hb)
       have s1 : decide (M < sd) = false := decide_eq_false (by have := HDK.out.2.2.2.2.1; omega)
       clear hb hd CF6 BF6
       go_wp2_with fail
       refine (pianolalaw04_sums.calls k A6 c6 c 0 n sc w7 X67.out X6.out.1 HDK.out.2.2.2.1).mono ?_
       rintro e w8 ⟨rfl, hd⟩
       have hb := hd.below
       have CF8 := zA (Kd.C_below CF7.out hb)
       have BF8 := zA (below_t BF7.out hb)
       have s2 : decide (sc < S) = false := decide_eq_false (by have := HDK.out.2.2.2.2.2.1; omega)
       clear hb hd CF7 BF7
       go_wp2_with fail
       refine (pianolalaw04_demand.calls k A1 c1 L n none 0 [] d0 w8 CF8.out HL.out.1 (Kd.C_nil _ _) (Nat.le_refl _) HDK.out.2.2.2.2.2.2.1).mono ?_
       rintro e w9 ⟨v9, rfl, hR, hb⟩
       obtain ⟨A9, c9, rfl⟩ := Kd.R_slice hR
       have X9 := zA (Kd.R_reads' hR).2
       have CF9 := zA (Kd.C_below CF8.out hb)
       have BF9 := zA (below_t BF8.out hb)
       clear hR hb CF8 BF8
       go_wp2_with fail
       refine (pianolalaw04_sums.calls k A9 c9 d0 0 n M w9 X9.out.2 X9.out.1 HDK.out.2.2.2.2.2.2.2.2.1).mono ?_
       rintro e wa ⟨rfl, hd⟩
       have hb := hd.below
       have CFa := zA (Kd.C_below CF9.out hb)
       have BFa := zA (below_t BF9.out hb)
       clear hb hd CF9 BF9
       go_wp2_with fail
       refine (pianolalaw04_capacity.calls k A1 c1 L n none 0 [] k0 wa CFa.out HL.out.1 (Kd.C_nil _ _) (Nat.le_refl _) HDK.out.2.2.2.2.2.2.2.1).mono ?_
       rintro e wb ⟨vb, rfl, hR, hb⟩
       obtain ⟨Ab, cb', rfl⟩ := Kd.R_slice hR
       have Xb := zA (Kd.R_reads' hR).2
       have BFb := zA (below_t BFa.out hb)
       clear hR hb CFa BFa
       go_wp2_with fail
       refine (pianolalaw04_sums.calls k Ab cb' k0 0 n S wb Xb.out.2 Xb.out.1 HDK.out.2.2.2.2.2.2.2.2.2).mono ?_
       rintro e wc ⟨rfl, hd⟩
       have BFc := zA (below_t BFb.out hd.below)
       clear hd BFb
       go_wp2_with fail
       refine (works_c _).mono ?_
       rintro e wd ⟨rfl, hb⟩
       have BFd := zA (below_t BFc.out hb)
       clear hb
       go_wp2
       go_ret
       exact ⟨rfl, BFd.out⟩
def SidesOK (k : Nat) (l0 : List S86) (a1 : Int) (l2 l3 : List Int) : Prop := ∃ (L : List S71) (n M S : Int) (xs ys d c d0 k0 : List Int) (sd sc : Int),
  pianolalaw04_Set_made.f k l0 = some L ∧ Int.tmod (wrap64 a1) 13 = n ∧ pump_Most.f L n = some (M, 0) ∧ pump_Least.f L n = some (S, 0) ∧ pump_Cover.f L n = some (xs, 0) ∧ pump_Pack.f L n = some (ys, 0) ∧
  Sums L xs ∧ Sums L ys ∧ n ≤ ticksOf L xs ∧ amountOf L xs = M ∧ ticksOf L ys ≤ n ∧ amountOf L ys = S ∧ 0 < L.length ∧ (∀ j, 0 ≤ rd l2 j ∧ rd l2 j < 256) ∧
  ((n ≤ (selT L l2 l2.length).1 → M ≤ (selT L l2 l2.length).2) ∧ ((selT L l2 l2.length).1 ≤ n → (selT L l2 l2.length).2 ≤ S)) ∧
  (pianolalaw04_demand.f k L n l3 = some d ∧ pianolalaw04_capacity.f k L n l3 = some c ∧ pianolalaw04_sums.f k d 0 n = some sd ∧ pianolalaw04_sums.f k c 0 n = some sc ∧ sd ≤ M ∧ S ≤ sc ∧
    pianolalaw04_demand.f k L n [] = some d0 ∧ pianolalaw04_capacity.f k L n [] = some k0 ∧ pianolalaw04_sums.f k d0 0 n = some M ∧ pianolalaw04_sums.f k k0 0 n = some S)
theorem pianolalaw04_PumpSides.calls (k : Nat) (A0 : Option Addr) (c0 : Nat) (l0 : List S86) (a1 : Int) (A2 : Option Addr) (c2 : Nat) (l2 : List Int) (A3 : Option Addr) (c3 : Nat) (l3 : List Int) (r : Bool) (hrt : r = true) (w : World)
    (hr0 : Kd.C k86 w A0 l0.length l0) (hc0 : l0.length ≤ c0) (hr2 : Kd.C (Kd.int .u8) w A2 l2.length l2) (hc2 : l2.length ≤ c2) (hr3 : Kd.C (Kd.int .u8) w A3 l3.length l3) (hc3 : l3.length ≤ c3) (h : SidesOK k l0 a1 l2 l3) :
    Calls Try.prog 7 #[.slice A0 l0.length c0, .int .u8 a1, .slice A2 l2.length c2, .slice A3 l3.length c3] w fun e w' => e = .returned (.bool r) ∧ Below w.heap.size w w' := by
  subst hrt
  obtain ⟨L, n, M, S, xs, ys, d, c, d0, k0, sd, sc, h1, h2, h3, h4, h5, h6, h7, h8, h9, h10, h11, h12, h13, h14, h15, h16⟩ := h
  exact pumpSides_walk k A0 c0 l0 a1 A2 c2 l2 A3 c3 l3 w hr0 hc0 hr2 hc2 hr3 hc3 L n M S xs ys d c d0 k0 sd sc h1 h2 h3 h4 h5 h6 h7 h8 h9 h10 h11 h12 h13 h14 h15 h16
end Go.Proofs.Ythoeindopljmkaa.P
end
section
namespace Go.Proofs.Ythoeindopljmkaa.P
open Go.ChangeShapes Go.WideShapes Go.Deep Go.RowKit Go.Proofs.YthoeindopljmkaaW.PrintWords
set_option maxRecDepth 100000
set_option linter.unusedVariables false
set_option linter.unusedSimpArgs false
def U8f (l : List S86) : Prop := ∀ s ∈ l, (Lit.int .u8 s.f0).wf = true ∧ (Lit.int .u8 s.f1).wf = true
end Go.Proofs.Ythoeindopljmkaa.P
end
section
namespace Go.Proofs.Ythoeindopljmkaa.P
open Go.RowKit Go.Proofs.YthoeindopljmkaaW.PrintWords Go.Proofs.YthoeindopljmkaaW.PrintLast Go.Proofs.YthoeindopljmkaaW.PrintMore
open Pm
theorem u8s_of {l : List S86} (h : U8f l) : U8s l := fun x hx => ⟨u8_wf (h x hx).1, u8_wf (h x hx).2⟩
theorem rem_in (a c : Int) (h0 : 0 ≤ a) (h1 : a < 256) (hc : 0 < c) : ∃ n : Nat, Int.tmod (wrap64 a) c = (n : Int) ∧ (n : Int) < c := by
  rw [show wrap64 a = a by unfold wrap64; omega]
  have := Int.tmod_nonneg c h0
  have := Int.tmod_lt_of_pos a hc
  exact ⟨(Int.tmod a c).toNat, by omega, by omega⟩
end Go.Proofs.Ythoeindopljmkaa.P
end
section
namespace Go.Proofs.Ythoeindopljmkaa.P
open Go.RowKit Go.Proofs.YthoeindopljmkaaW.PrintWords Go.Proofs.YthoeindopljmkaaW.PrintLast Go.Proofs.YthoeindopljmkaaW.PrintMore
set_option linter.unusedSimpArgs false
open Pm
theorem rd_mem {p : List Int} {j : Int} (h0 : 0 ≤ j) (h1 : j < p.length) : rd p j ∈ p := by
  unfold rd; rw [List.getD_eq_getElem?_getD, List.getElem?_eq_getElem (by omega)]; exact List.getElem_mem _
theorem few_at {L : List S71} (h : Few L) {j : Int} (h0 : 0 ≤ j) (h1 : j < L.length) : (1 ≤ (rd_T71 L j).f0 ∧ (rd_T71 L j).f0 ≤ 4) ∧ 0 ≤ (rd_T71 L j).f1 ∧ (rd_T71 L j).f1 ≤ 5 := by
  unfold rd_T71
  rw [List.getD_eq_getElem?_getD, List.getElem?_eq_getElem (by omega)]
  exact h.small _ (List.getElem_mem _)
theorem take_snocI {p : List Int} {j : Nat} (h : j < p.length) : p.take (j + 1) = p.take j ++ [rd p j] := by
  rw [List.take_succ_eq_append_getElem h]
  congr 2
  unfold rd; rw [List.getD_eq_getElem?_getD, Int.toNat_natCast, List.getElem?_eq_getElem h]; rfl
theorem ticks_snoc (L : List S71) (p : List Int) (x : Int) : ticksOf L (p ++ [x]) = ticksOf L p + (rd_T71 L x).f0 ∧ amountOf L (p ++ [x]) = amountOf L p + (rd_T71 L x).f1 := by
  unfold ticksOf amountOf
  simp
theorem sums_of {L : List S71} (hF : Few L) {p : List Int} (h : Ord L p) : Sums L p := by
  have hl := h.len
  have hat : ∀ j : Int, 0 ≤ j → j < p.length → 0 ≤ rd p j ∧ rd p j < L.length := fun j h0 h1 => h.at_ _ (rd_mem h0 h1)
  have bd : ∀ j : Nat, j ≤ p.length → (0 ≤ ticksOf L (p.take j) ∧ ticksOf L (p.take j) ≤ 4 * j) ∧ 0 ≤ amountOf L (p.take j) ∧ amountOf L (p.take j) ≤ 5 * j := by
    intro j
    induction j with
    | zero => intro _; simp [ticksOf, amountOf]
    | succ j ih =>
      intro hj
      have i1 := ih (by omega)
      obtain ⟨a, b⟩ := hat j (by omega) (by omega)
      have hf := few_at hF a b
      rw [take_snocI (by omega), (ticks_snoc L _ _).1, (ticks_snoc L _ _).2]
      omega
  refine ⟨hl, fun j hj => hat j (by omega) (by omega), fun j q h0 h1 hq => ?_, fun j hj => ?_⟩
  · obtain ⟨m, rfl⟩ := Int.eq_ofNat_of_zero_le (show 0 ≤ q by omega)
    obtain rfl : j = ((m + 1 : Nat) : Int) := by omega
    have := List.pairwise_iff_getElem.1 h.up m (m + 1) (by omega) (by omega) (by omega)
    unfold rd
    rw [List.getD_eq_getElem?_getD, List.getD_eq_getElem?_getD, Int.toNat_natCast, Int.toNat_natCast, List.getElem?_eq_getElem (by omega), List.getElem?_eq_getElem (by omega)]
    exact this
  · have b := bd j (by omega)
    obtain ⟨a, c⟩ := hat j (by omega) (by omega)
    have hf := few_at hF a c
    rw [take_snocI hj, (ticks_snoc L _ _).1, (ticks_snoc L _ _).2]
    constructor <;> (unfold wrap64; omega)
theorem sel_ok {L : List S71} (hF : Few L) {y : List Int} (hy : ∀ j, 0 ≤ rd y j ∧ rd y j < 256) : ∀ j : Nat, ∃ T : Nat, (selT L y j).1 = T ∧ T ≤ 4 * min j 12 ∧ 0 ≤ (selT L y j).2 ∧ (selT L y j).2 ≤ 5 * min j 12 ∧ mst (bs L) T ≤ (selT L y j).2 ∧ (selT L y j).2 ≤ lst (bs L) T
  | 0 => ⟨0, rfl, by omega, Int.le_refl _, by simp [selT], Int.le_refl _, Int.le_refl _⟩
  | j + 1 => by
    obtain ⟨T, h1, h2, h3, h4, h5, h6⟩ := sel_ok hF hy j
    by_cases c : j < 12
    · obtain ⟨hB, _⟩ := bds_of (few_cb hF)
      have hx := hy (j : Int)
      have hne := hF.ne
      have e : wrap64 (rd y (j : Int)) = rd y (j : Int) := by unfold wrap64; omega
      have i0 : 0 ≤ Int.tmod (rd y (j : Int)) (L.length : Int) := Int.tmod_nonneg _ hx.1
      have i1 : Int.tmod (rd y (j : Int)) (L.length : Int) < (L.length : Int) := Int.tmod_lt_of_pos _ (by omega)
      rw [selT_step L y c, e]
      generalize Int.tmod (rd y (j : Int)) (L.length : Int) = i at i0 i1
      have hf := few_at hF i0 i1
      obtain ⟨m, rfl⟩ := Int.eq_ofNat_of_zero_le i0
      have hm : ((rd_T71 L (m : Int)).f0, (rd_T71 L (m : Int)).f1) ∈ bs L := List.mem_of_mem_drop (i := m) (by rw [bs_drop L (by omega)]; exact List.mem_cons_self)
      refine ⟨T + (rd_T71 L (m : Int)).f0.toNat, ?_, by omega, ?_, ?_, ?_, ?_⟩
      · show wrap64 _ = _
        rw [h1]; unfold wrap64; omega
      · show 0 ≤ wrap64 _
        unfold wrap64; omega
      · show wrap64 _ ≤ _
        unfold wrap64; omega
      · show _ ≤ wrap64 _
        have := (mst_spec hB (T + (rd_T71 L (m : Int)).f0.toNat - 1)).1 _ hm
        rw [show T + (rd_T71 L (m : Int)).f0.toNat - 1 + 1 = T + (rd_T71 L (m : Int)).f0.toNat by omega] at this
        dsimp only at this
        rw [show T + (rd_T71 L (m : Int)).f0.toNat - (rd_T71 L (m : Int)).f0.toNat = T by omega] at this
        rw [show wrap64 ((selT L y j).2 + (rd_T71 L (m : Int)).f1) = (selT L y j).2 + (rd_T71 L (m : Int)).f1 by unfold wrap64; omega]
        omega
      · show wrap64 _ ≤ _
        have := (lst_spec hB (T + (rd_T71 L (m : Int)).f0.toNat - 1)).2.1 _ hm (by dsimp only; omega)
        rw [show T + (rd_T71 L (m : Int)).f0.toNat - 1 + 1 = T + (rd_T71 L (m : Int)).f0.toNat by omega] at this
        dsimp only at this
        rw [show T + (rd_T71 L (m : Int)).f0.toNat - (rd_T71 L (m : Int)).f0.toNat = T by omega] at this
        rw [show wrap64 ((selT L y j).2 + (rd_T71 L (m : Int)).f1) = (selT L y j).2 + (rd_T71 L (m : Int)).f1 by unfold wrap64; omega]
        omega
    · rw [selT_skip L y c]
      exact ⟨T, h1, by omega, h3, by omega, h5, h6⟩
theorem Ev.and {α β : Type} {g : Nat → Option α} {f : Nat → Option β} {a : α} {b : β} (h : Ev g a) (h' : Ev f b) : ∃ K, ∀ k, K ≤ k → g k = some a ∧ f k = some b := by
  obtain ⟨K, h⟩ := h
  obtain ⟨K', h'⟩ := h'
  exact ⟨max K K', fun k hk => ⟨h k (by omega), h' k (by omega)⟩⟩
theorem few_small' {L : List S71} (h : Few L) : ∀ b ∈ bs L, b.2 ≤ 1000 := by
  intro b hb
  obtain ⟨x, hx, rfl⟩ := List.mem_map.1 hb
  have := h.small x hx
  show x.f1 ≤ 1000
  omega
theorem sides_ev {l0 : List S86} (hu : U8s l0) (a1 : Int) (ha : 0 ≤ a1 ∧ a1 < 256) {l2 l3 : List Int} (h2 : Bytes l2) (h3 : Bytes l3) : ∃ k, SidesOK k l0 a1 l2 l3 := by
 obtain ⟨L, hL, hF⟩ := made_all hu
 obtain ⟨n, hn, hn13⟩ := rem_in a1 13 ha.1 ha.2 (by omega)
 have hc := few_cb hF
 obtain ⟨hB, hl5⟩ := bds_of hc
 have z : rgd L n = 0 := rgd_of hc (by omega) (by omega)
 obtain ⟨xs, hx, _, x2⟩ := asked_most_f L n
 obtain ⟨ys, hy, _, y2⟩ := asked_least_f L n
 obtain ⟨ox, tx, ax⟩ := x2 z
 obtain ⟨oy, ty, ay⟩ := y2 z
 rw [if_pos z, z] at hx hy
 have d1 := demand_f hB (by omega) (show n ≤ 1000 by omega) l3 h3
 have d2 := capacity_f hB (by omega) (show n ≤ 1000 by omega) l3 h3
 have d3 := demand_f hB (by omega) (show n ≤ 1000 by omega) [] bytes_nil
 have d4 := capacity_f hB (by omega) (show n ≤ 1000 by omega) [] bytes_nil
 have s1 := sumsM_f (mild_dem hB (by omega) l3 h3 (n := n) (by omega)) (s := 0) (d := n) (by omega) (by omega)
 have s2 := sumsM_f (mild_cap hB (by omega) l3 h3 (n := n) (by omega)) (s := 0) (d := n) (by omega) (by omega)
 have s3 := sumsM_f (mild_dem hB (by omega) [] bytes_nil (n := n) (by omega)) (s := 0) (d := n) (by omega) (by omega)
 have s4 := sumsM_f (mild_cap hB (by omega) [] bytes_nil (n := n) (by omega)) (s := 0) (d := n) (by omega) (by omega)
 rw [Nat.zero_add] at s1 s2 s3 s4
 have e3 : preS (demL (bs L) (Wd []) n) n - preS (demL (bs L) (Wd []) n) 0 = mst (bs L) n := by
  rw [Wd_nil, demL_full hB (fun _ b hb => few_small' hF b hb)]; exact Int.sub_zero _
 have e4 : preS (capL (bs L) (Wc []) n) n - preS (capL (bs L) (Wc []) n) 0 = lst (bs L) n := by
  rw [Wc_nil, capL_full hB]; exact Int.sub_zero _
 rw [e3] at s3
 rw [e4] at s4
 obtain ⟨K1, q1⟩ := Ev.and d1 d2
 obtain ⟨K2, q2⟩ := Ev.and d3 d4
 obtain ⟨K3, q3⟩ := Ev.and s1 s2
 obtain ⟨K4, q4⟩ := Ev.and s3 s4
 have hk1 : K1 ≤ K1 + K2 + K3 + K4 + 8 := by omega
 have hk2 : K2 ≤ K1 + K2 + K3 + K4 + 8 := by omega
 have hk3 : K3 ≤ K1 + K2 + K3 + K4 + 8 := by omega
 have hk4 : K4 ≤ K1 + K2 + K3 + K4 + 8 := by omega
 have hy8 : ∀ j, 0 ≤ rd l2 j ∧ rd l2 j < 256 := bytes_rd h2
 obtain ⟨T, t1, _, _, _, t5, t6⟩ := sel_ok hF hy8 l2.length
 have m1 := demL_le hB (W := Wd l3) n
 have m2 := capL_ge hB (W := Wc l3) (fun q => (Wc_in h3 q).1) n
 have p0 : preS (demL (bs L) (Wd l3) n) 0 = 0 := rfl
 have p1 : preS (capL (bs L) (Wc l3) n) 0 = 0 := rfl
 refine ⟨K1 + K2 + K3 + K4 + 8, L, n, mst (bs L) n, lst (bs L) n, xs, ys, _, _, _, _, _, _, hL _ (by omega), hn, ?_, ?_, ?_, ?_, sums_of hF ox, sums_of hF oy, tx, ax, ty, ay, hF.ne, hy8, ⟨fun h => ?_, fun h => ?_⟩,
  (q1 _ hk1).1, (q1 _ hk1).2, (q3 _ hk3).1, (q3 _ hk3).2, by rw [p0]; omega, by rw [p1]; omega, (q2 _ hk2).1, (q2 _ hk2).2, (q4 _ hk4).1, (q4 _ hk4).2⟩
 ·
  rw [Most_f, z, if_pos rfl]; rfl
 ·
  rw [Least_f, z, if_pos rfl]; rfl
 ·
  unfold pump_Cover.f; rw [hx]; rfl
 ·
  unfold pump_Pack.f; rw [hy]; rfl
 ·
  rw [t1] at h
  have := mst_mono hB (show n ≤ T by omega)
  omega
 ·
  rw [t1] at h
  have := lst_mono hB (show T ≤ n by omega)
  omega
end Go.Proofs.Ythoeindopljmkaa.P
namespace Go.Proofs.Ythoeindopljmkaa.Pure
open P Go.Proofs.YthoeindopljmkaaW.PrintWords
theorem PumpSides (l0 : List S86) (a1 : Int) (l2 l3 : List Int) (h0 : ∀ s ∈ l0, (Lit.int .u8 s.f0).wf = true ∧ (Lit.int .u8 s.f1).wf = true) (h1 : (Lit.int .u8 a1).wf = true)
    (m2 : l2.length ≤ maxLen) (_ : l2.length * 1 ≤ 140737488351232) (h2 : ∀ x ∈ l2, (Lit.int .u8 x).wf = true) (m3 : l3.length ≤ maxLen) (_ : l3.length * 1 ≤ 140737488351232) (h3 : ∀ x ∈ l3, (Lit.int .u8 x).wf = true) : ∃ k, SidesOK k l0 a1 l2 l3 :=
  sides_ev (u8s_of h0) a1 (u8_wf h1) ⟨by unfold maxLen at m2; omega, fun x hx => u8_wf (h2 x hx)⟩ ⟨by unfold maxLen at m3; omega, fun x hx => u8_wf (h3 x hx)⟩
end Go.Proofs.Ythoeindopljmkaa.Pure
end
