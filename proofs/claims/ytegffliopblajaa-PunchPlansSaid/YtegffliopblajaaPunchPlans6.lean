/- Words and contracts for a claim. -/
import Derived.Test.YtegffliopblajaaPunchPlans5

section
namespace Go.Proofs.Ytegffliopblajaa.P
open Go.RowKit Go.Proofs.YtegffliopblajaaW.PrintWords Go.Proofs.YtegffliopblajaaW.PrintLast Go.Proofs.YtegffliopblajaaW.PrintMore
set_option linter.unusedVariables false
set_option linter.unusedSimpArgs false
theorem passN_spec (p : List Int) : ∀ (n : Int), n ≤ p.foldl (fun n x => max n (x + 1)) n ∧ (∀ x ∈ p, x + 1 ≤ p.foldl (fun n x => max n (x + 1)) n) ∧ (p.foldl (fun n x => max n (x + 1)) n = n ∨ ∃ x ∈ p, p.foldl (fun n x => max n (x + 1)) n = x + 1) := by
  induction p with
  | nil => intro n; exact ⟨Int.le_refl _, (fun x h => by cases h), .inl rfl⟩
  | cons a p ih =>
    intro n
    rw [List.foldl_cons]
    obtain ⟨h1, h2, h3⟩ := ih (max n (a + 1))
    refine ⟨by omega, fun x hx => ?_, ?_⟩
    · rcases List.mem_cons.1 hx with rfl | hx
      · omega
      · exact h2 x hx
    · rcases h3 with h3 | ⟨x, hx, h3⟩
      · by_cases c : n ≤ a + 1
        · exact .inr ⟨a, List.mem_cons_self, by omega⟩
        · exact .inl (by omega)
      · exact .inr ⟨x, List.mem_cons_of_mem _ hx, h3⟩
theorem passN_le {p : List Int} {x : Int} (h : x ∈ p) : x + 1 ≤ passN p := (passN_spec p 0).2.1 x h
theorem passN_nonneg (p : List Int) : 0 ≤ passN p := (passN_spec p 0).1
theorem passN_of (p : List Int) : passN p = 0 ∨ ∃ x ∈ p, passN p = x + 1 := (passN_spec p 0).2.2
theorem nodup_bound : ∀ (N : Nat) (xs : List Int), xs.Nodup → (∀ x ∈ xs, 0 ≤ x ∧ x < N) → xs.length ≤ N
  | 0, xs, _, h => by
    cases xs with
    | nil => exact Nat.le_refl _
    | cons a xs => have := h a List.mem_cons_self; omega
  | N + 1, xs, hn, h => by
    by_cases c : (N : Int) ∈ xs
    · have := nodup_bound N (xs.erase (N : Int)) (hn.erase _) (fun x hx => by
        have h1 := h x (List.mem_of_mem_erase hx)
        have h2 : x ≠ (N : Int) := fun e => by subst e; exact (hn.not_mem_erase) hx
        omega)
      rw [List.length_erase_of_mem c] at this
      omega
    · exact Nat.le_trans (nodup_bound N xs hn (fun x hx => by
        have h1 := h x hx
        have h2 : x ≠ (N : Int) := fun e => c (by rw [← e]; exact hx)
        omega)) (Nat.le_succ N)
theorem chk_good {rest : Int} {l : List S47} (h : chk rest l = 0) : 0 ≤ rest ∧ rest ≤ 1000 ∧ ∀ i, i < l.length → 0 ≤ (rd_T47 l (i : Nat)).f0 ∧ (rd_T47 l (i : Nat)).f0 < (rd_T47 l (i : Nat)).f1 ∧ (rd_T47 l (i : Nat)).f1 ≤ 1000000 := by
  unfold chk at h
  split at h
  · rename_i c
    split at h
    · cases h
    · split at h
      · cases h
      · rename_i c3
        have hb := btw_iff.1 c
        refine ⟨hb.1, hb.2, fun i hi => ?_⟩
        have c3' : (l.any fun x => !good x) = false := by simpa using c3
        rw [List.any_eq_false] at c3'
        have := c3' (rd_T47 l (i : Nat)) (by rw [rd47_at hi]; exact List.getElem_mem _)
        have hg : good (rd_T47 l (i : Nat)) = true := by simpa using this
        unfold good at hg
        simp only [Bool.and_eq_true, decide_eq_true_eq] at hg
        omega
  · cases h
theorem mem_crowd {rest m p : Int} {l : List S47} : p ∈ crowdL rest m l ↔ ∃ i : Nat, i < l.length ∧ p = i ∧ inB rest m (rd_T47 l (i : Int)) = true := by
  unfold crowdL crowdTo
  simp only [List.mem_map, List.mem_filter, List.mem_range]
  constructor
  · rintro ⟨i, ⟨h1, h2⟩, rfl⟩
    exact ⟨i, h1, rfl, h2⟩
  · rintro ⟨i, h1, rfl, h2⟩
    exact ⟨i, ⟨h1, h2⟩, rfl⟩
theorem inB_iff {rest m : Int} {x : S47} (h0 : 0 ≤ rest) (h1 : rest ≤ 1000) (h2 : 0 ≤ x.f1) (h3 : x.f1 ≤ 1000000) : inB rest m x = true ↔ x.f0 ≤ m ∧ m < x.f1 + rest := by
  unfold inB
  rw [show wrap64 (x.f1 + rest) = x.f1 + rest by unfold wrap64; omega, Bool.and_eq_true, decide_eq_true_eq, decide_eq_true_eq]
theorem Cl_iff {rest : Int} {x y : S47} (h0 : 0 ≤ rest) (h1 : rest ≤ 1000) (h2 : 0 ≤ x.f1) (h3 : x.f1 ≤ 1000000) (h4 : 0 ≤ y.f1) (h5 : y.f1 ≤ 1000000) : Cl rest x y = true ↔ x.f0 < y.f1 + rest ∧ y.f0 < x.f1 + rest := by
  unfold Cl
  rw [show wrap64 (x.f1 + rest) = x.f1 + rest by unfold wrap64; omega, show wrap64 (y.f1 + rest) = y.f1 + rest by unfold wrap64; omega, Bool.and_eq_true, decide_eq_true_eq, decide_eq_true_eq]
theorem plan_ok {rest : Int} {l : List S47} (h : chk rest l = 0) : perr rest l (planL rest l) = 0 := by
  have h40 := chk_len h
  have hb : planB rest l (planL rest l) = true := by
    unfold planB
    rw [List.all_eq_true]
    intro i hi
    rw [apartB_iff]
    intro k hk e
    have hi' := List.mem_range.1 hi
    obtain ⟨q, hq, eq⟩ := oS_sur hi'
    obtain ⟨q', hq', eq'⟩ := oS_sur (show k < l.length by omega)
    subst eq eq'
    rw [planL_at rest l h40 hq, planL_at rest l h40 hq'] at e
    rw [← Bool.not_eq_true]
    intro hc
    rcases Nat.lt_trichotomy q q' with h1 | h1 | h1
    · exact (col_mex rest l h40 hq').1 q h1 hc (by omega)
    · subst h1; omega
    · rw [Cl_comm] at hc
      exact (col_mex rest l h40 hq).1 q' h1 hc (by omega)
  have hn : (planL rest l).any noPass = false := by
    rw [List.any_eq_false]
    intro x hx
    rw [noPass_iff.2 (planL_bd rest l h40 hx)]
    decide
  unfold perr
  rw [if_pos h, if_pos (planL_len h40), if_neg (by rw [hn]; decide), if_pos hb]
theorem col_cnt {rest : Int} {l : List S47} (h : chk rest l = 0) {r : Nat} (hr : r < l.length) : ((col rest l r : Nat) : Int) + 1 ≤ cntAt rest l (rd_T47 l (oS l r : Nat)).f0 := by
  have h40 := chk_len h
  obtain ⟨g0, g1, g2⟩ := chk_good h
  have hor := g2 _ (oS_lt hr)
  have key : ∀ j : Nat, j < col rest l r + 1 → (j : Int) ∈ (crowdL rest (rd_T47 l (oS l r : Nat)).f0 l).map (rd (planL rest l)) := by
    intro j hj
    rw [List.mem_map]
    by_cases e : j = col rest l r
    · refine ⟨((oS l r : Nat) : Int), mem_crowd.2 ⟨oS l r, oS_lt hr, rfl, ?_⟩, by rw [planL_at rest l h40 hr, e]⟩
      rw [inB_iff g0 g1 (by omega) (by omega)]
      omega
    · obtain ⟨q, h1, h2, h3⟩ := (col_mex rest l h40 hr).2 j (by omega)
      have hoq := g2 _ (oS_lt (l := l) (r := q) (by omega))
      refine ⟨((oS l q : Nat) : Int), mem_crowd.2 ⟨oS l q, oS_lt (by omega), rfl, ?_⟩, by rw [planL_at rest l h40 (by omega), h2]⟩
      rw [inB_iff g0 g1 (by omega) (by omega)]
      rw [Cl_iff g0 g1 (by omega) (by omega) (by omega) (by omega)] at h3
      have := oS_sorted h1 hr
      omega
  have := cover_len key
  rw [List.length_map] at this
  unfold cntAt
  omega
theorem crowd_nodup (rest m : Int) (l : List S47) : (crowdL rest m l).Pairwise (· < ·) := by
  unfold crowdL crowdTo
  rw [List.pairwise_map]
  exact (List.pairwise_lt_range.filter _).imp (fun h => by omega)
theorem crowd_le {rest : Int} {l : List S47} {pl : List Int} (h : perr rest l pl = 0) (m : Int) : cntAt rest l m ≤ passN pl := by
  obtain ⟨hc, h40, hl, hb, hB⟩ := perr_ok h
  obtain ⟨g0, g1, g2⟩ := chk_good hc
  have hnd : ((crowdL rest m l).map (rd pl)).Nodup := by
    unfold List.Nodup
    rw [List.pairwise_map]
    refine (List.Pairwise.and_mem.1 (crowd_nodup rest m l)).imp ?_
    rintro a b ⟨ha, hb', hab⟩
    obtain ⟨i, hi, rfl, h1⟩ := mem_crowd.1 ha
    obtain ⟨k, hk, rfl, h2⟩ := mem_crowd.1 hb'
    intro e
    have hgi := g2 i hi
    have hgk := g2 k hk
    rw [inB_iff g0 g1 (by omega) (by omega)] at h1 h2
    have hk2 : apartB rest l pl k = true := by
      unfold planB at hB
      rw [List.all_eq_true] at hB
      exact hB k (List.mem_range.2 hk)
    have := apartB_iff.1 hk2 i (by omega) e.symm
    rw [← Bool.not_eq_true, Cl_iff g0 g1 (by omega) (by omega) (by omega) (by omega)] at this
    omega
  have hN := passN_nonneg pl
  have := nodup_bound (passN pl).toNat _ hnd (fun x hx => by
    obtain ⟨a, ha, rfl⟩ := List.mem_map.1 hx
    obtain ⟨i, hi, rfl, _⟩ := mem_crowd.1 ha
    have hm : rd pl (i : Int) ∈ pl := by rw [rdI_at (show i < pl.length by omega)]; exact List.getElem_mem _
    have h1 := hb _ hm
    have h2 := passN_le hm
    omega)
  rw [List.length_map] at this
  unfold cntAt
  omega
def MostSpec (rest : Int) (l : List S47) (fs : List Int) (s : Int × Int) : Prop := 0 ≤ s.2 ∧ (∀ f ∈ fs, cntAt rest l f ≤ s.2) ∧ (s.2 = 0 ∨ (s.1 ∈ fs ∧ cntAt rest l s.1 = s.2 ∧ ∀ f ∈ fs, f < s.1 → cntAt rest l f < s.2))
theorem most_spec (rest : Int) (l : List S47) : ∀ (fs pre : List Int) (s : Int × Int), (pre ++ fs).Pairwise (· ≤ ·) → MostSpec rest l pre s → MostSpec rest l (pre ++ fs) (fs.foldl (mostStep rest l) s)
  | [], pre, s, _, h => by rw [List.append_nil]; exact h
  | f :: fs, pre, s, hs, h => by
    rw [List.foldl_cons, show pre ++ f :: fs = (pre ++ [f]) ++ fs by simp]
    rw [show pre ++ f :: fs = (pre ++ [f]) ++ fs by simp] at hs
    refine most_spec rest l fs (pre ++ [f]) _ hs ?_
    have hpf := (List.pairwise_append.1 hs).1
    have hle : ∀ g ∈ pre, g ≤ f := fun g hg => (List.pairwise_append.1 hpf).2.2 g hg f (List.mem_singleton.2 rfl)
    obtain ⟨h0, h1, h2⟩ := h
    have hc0 : 0 ≤ cntAt rest l f := by unfold cntAt; omega
    unfold mostStep
    split
    · rename_i c
      refine ⟨by dsimp only; omega, fun g hg => ?_, .inr ⟨by simp, rfl, fun g hg hlt => ?_⟩⟩
      · rcases List.mem_append.1 hg with hg | hg
        · have := h1 g hg; dsimp only; omega
        · rw [List.mem_singleton.1 hg]; exact Int.le_refl _
      · rcases List.mem_append.1 hg with hg | hg
        · have := h1 g hg; dsimp only; omega
        · rw [List.mem_singleton.1 hg] at hlt; dsimp only at hlt; omega
    · rename_i c
      refine ⟨h0, fun g hg => ?_, ?_⟩
      · rcases List.mem_append.1 hg with hg | hg
        · exact h1 g hg
        · rw [List.mem_singleton.1 hg]; omega
      · rcases h2 with h2 | ⟨h2, h3, h4⟩
        · exact .inl h2
        · refine .inr ⟨List.mem_append_left _ h2, h3, fun g hg hlt => ?_⟩
          rcases List.mem_append.1 hg with hg | hg
          · exact h4 g hg hlt
          · rw [List.mem_singleton.1 hg] at hlt
            have := hle _ h2
            omega
theorem mostL_spec (rest : Int) (l : List S47) : MostSpec rest l (l.map S47.f0) (mostL rest l) := by
  have hs : (sortI (l.map S47.f0)).Pairwise (· ≤ ·) := (List.pairwise_mergeSort (le := fun a b : Int => decide (a ≤ b)) (fun a b c h1 h2 => by simp at *; omega) (fun a b => by simp; omega) (l.map S47.f0)).imp (fun h => by simpa using h)
  have h := most_spec rest l (sortI (l.map S47.f0)) [] (0, 0) (by simpa using hs) ⟨Int.le_refl _, (fun f hf => by cases hf), .inl rfl⟩
  rw [List.nil_append] at h
  have hm : ∀ f, f ∈ sortI (l.map S47.f0) ↔ f ∈ l.map S47.f0 := fun f => (List.mergeSort_perm _ _).mem_iff
  obtain ⟨h0, h1, h2⟩ := h
  refine ⟨h0, fun f hf => h1 f ((hm f).2 hf), ?_⟩
  rcases h2 with h2 | ⟨h2, h3, h4⟩
  · exact .inl h2
  · exact .inr ⟨(hm _).1 h2, h3, fun f hf hlt => h4 f ((hm f).2 hf) hlt⟩
theorem mem_f0 {l : List S47} {i : Nat} (h : i < l.length) : (rd_T47 l (i : Int)).f0 ∈ l.map S47.f0 := by
  rw [rd47_at h]
  exact List.mem_map.2 ⟨_, List.getElem_mem _, rfl⟩
theorem f0_mem {l : List S47} {f : Int} (h : f ∈ l.map S47.f0) : ∃ i : Nat, i < l.length ∧ f = (rd_T47 l (i : Int)).f0 := by
  obtain ⟨x, hx, rfl⟩ := List.mem_map.1 h
  obtain ⟨i, hi, rfl⟩ := List.mem_iff_getElem.1 hx
  exact ⟨i, hi, by rw [rd47_at hi]⟩
theorem pass_most {rest : Int} {l : List S47} (h : chk rest l = 0) : passN (planL rest l) = (mostL rest l).2 := by
  obtain ⟨h0, h1, h2⟩ := mostL_spec rest l
  have a : (mostL rest l).2 ≤ passN (planL rest l) := by
    rcases h2 with h2 | ⟨_, h3, _⟩
    · have := passN_nonneg (planL rest l); omega
    · rw [← h3]; exact crowd_le (plan_ok h) _
  have b : passN (planL rest l) ≤ (mostL rest l).2 := by
    rcases passN_of (planL rest l) with h3 | ⟨x, hx, h3⟩
    · omega
    · obtain ⟨r, hr, rfl⟩ := planL_mem rest l (chk_len h) hx
      have h4 := col_cnt h hr
      have h5 := h1 _ (mem_f0 (oS_lt hr))
      omega
  omega
def proveR (rest : Int) (l : List S47) : Int × Int := if chk rest l = 0 then (if (mostL rest l).2 = 0 then (0, 8) else ((mostL rest l).1, 0)) else (0, chk rest l)
theorem Prove_f (rest : Int) (l : List S47) : punch_Prove.f rest l = some (proveR rest l) := by
  unfold punch_Prove.f proveR
  rw [check_f]
  show (if chk rest l = 0 then _ else _) = _
  by_cases c : chk rest l = 0
  · rw [if_pos c, if_pos c, if_pos (chk_len c)]
    split <;> rfl
  · rw [if_neg c, if_neg c]
def outF (rest : Int) (l : List S47) (N : Int) : Nat → Int
  | 0 => -1
  | i + 1 => if cntAt rest l (rd_T47 l (i : Int)).f0 = N ∧ (outF rest l N i < 0 ∨ (rd_T47 l (i : Int)).f0 < outF rest l N i) then (rd_T47 l (i : Int)).f0 else outF rest l N i
theorem outF_spec {rest : Int} {l : List S47} (hg : ∀ i : Nat, i < l.length → 0 ≤ (rd_T47 l (i : Int)).f0) (N : Int) : ∀ i, i ≤ l.length → (outF rest l N i = -1 ∧ ∀ j : Nat, j < i → cntAt rest l (rd_T47 l (j : Int)).f0 ≠ N) ∨
    (∃ j : Nat, j < i ∧ outF rest l N i = (rd_T47 l (j : Int)).f0 ∧ cntAt rest l (rd_T47 l (j : Int)).f0 = N ∧ ∀ j' : Nat, j' < i → cntAt rest l (rd_T47 l (j' : Int)).f0 = N → (rd_T47 l (j : Int)).f0 ≤ (rd_T47 l (j' : Int)).f0)
  | 0, _ => .inl ⟨rfl, fun j hj => by omega⟩
  | i + 1, hi => by
    have ih := outF_spec (rest := rest) hg N i (by omega)
    have g := hg i (by omega)
    rw [outF]
    split
    · rename_i c
      refine .inr ⟨i, by omega, rfl, c.1, fun j' hj' hn => ?_⟩
      rcases Nat.lt_or_ge j' i with h | h
      · rcases ih with ⟨h1, h2⟩ | ⟨j, h1, h2, h3, h4⟩
        · exact absurd hn (h2 j' h)
        · have g2 := hg j (by omega)
          have := h4 j' h hn
          rcases c.2 with c2 | c2 <;> omega
      · obtain rfl : j' = i := by omega
        exact Int.le_refl _
    · rename_i c
      rcases ih with ⟨h1, h2⟩ | ⟨j, h1, h2, h3, h4⟩
      · refine .inl ⟨h1, fun j hj => ?_⟩
        rcases Nat.lt_or_ge j i with h | h
        · exact h2 j h
        · obtain rfl : j = i := by omega
          exact fun e => c ⟨e, .inl (by omega)⟩
      · refine .inr ⟨j, by omega, h2, h3, fun j' hj' hn => ?_⟩
        rcases Nat.lt_or_ge j' i with h | h
        · exact h4 j' h hn
        · obtain rfl : j' = i := by omega
          have : ¬ (rd_T47 l (j' : Int)).f0 < (rd_T47 l (j : Int)).f0 := fun h5 => c ⟨hn, .inr (by rw [h2]; exact h5)⟩
          omega
theorem rprove_l0 (rest : Int) (l : List S47) (h40 : l.length ≤ 40) (N : Int) : ∀ (m i : Nat), i + m = l.length → Ev (fun k => pianolaref03_Prove.l0 k N (outF rest l N i) i rest (gS l)) (outF rest l N l.length, 0)
  | 0, i, h => by
    obtain rfl : i = l.length := by omega
    refine Ev.step (f := fun _ => some (outF rest l N l.length, 0)) (fun k => ?_) (Ev.now _)
    rw [pianolaref03_Prove.l0, if_neg (by rw [gS_len]; omega)]
  | m + 1, i, h => by
    have ih := rprove_l0 rest l h40 N m (i + 1) (by omega)
    refine Ev.step (f := fun k => (pianolaref03_crowd.f k rest (gS l) (rd_T47 l (i : Int)).f0).bind fun t => if (t.length : Int) = N then (if outF rest l N i < 0 then pianolaref03_Prove.l0 k N (rd_T47 l (i : Int)).f0 ((i + 1 : Nat) : Int) rest (gS l) else (if (rd_T47 l (i : Int)).f0 < outF rest l N i then pianolaref03_Prove.l0 k N (rd_T47 l (i : Int)).f0 ((i + 1 : Nat) : Int) rest (gS l) else pianolaref03_Prove.l0 k N (outF rest l N i) ((i + 1 : Nat) : Int) rest (gS l))) else pianolaref03_Prove.l0 k N (outF rest l N i) ((i + 1 : Nat) : Int) rest (gS l)) (fun k => ?_) ?_
    · rw [pianolaref03_Prove.l0, if_pos (by rw [gS_len]; omega), if_pos (by omega), gS_get, w_succ i (by omega)]
    · refine Ev.bind (rcrowd_f rest _ l h40) ?_
      rw [outF] at ih
      unfold cntAt at ih
      by_cases c : ((crowdL rest (rd_T47 l (i : Int)).f0 l).length : Int) = N
      · simp only [if_pos c]
        by_cases c2 : outF rest l N i < 0
        · simp only [if_pos c2]
          rw [if_pos ⟨c, .inl c2⟩] at ih
          exact ih
        · simp only [if_neg c2]
          by_cases c3 : (rd_T47 l (i : Int)).f0 < outF rest l N i
          · simp only [if_pos c3]
            rw [if_pos ⟨c, .inr c3⟩] at ih
            exact ih
          · simp only [if_neg c3]
            rw [if_neg (fun h => by rcases h.2 with h | h; exact c2 h; exact c3 h)] at ih
            exact ih
      · simp only [if_neg c]
        rw [if_neg (fun h => c h.1)] at ih
        exact ih
theorem rProve_f (rest : Int) (l : List S47) : Ev (fun k => pianolaref03_Prove.f k rest (gS l)) (proveR rest l) := by
  unfold pianolaref03_Prove.f proveR
  refine Ev.bind (rPasses_f rest l) ?_
  unfold passR
  by_cases c : chk rest l = 0
  · simp only [if_pos c, if_true]
    rw [pass_most c]
    by_cases c2 : (mostL rest l).2 = 0
    · simp only [if_pos c2]
      exact Ev.now _
    · simp only [if_neg c2]
      have h := rprove_l0 rest l (chk_len c) (mostL rest l).2 l.length 0 (by omega)
      have e : outF rest l (mostL rest l).2 l.length = (mostL rest l).1 := by
        obtain ⟨_, _, h2⟩ := mostL_spec rest l
        rcases h2 with h2 | ⟨h2, h3, h4⟩
        · exact absurd h2 c2
        · obtain ⟨i, hi, e⟩ := f0_mem h2
          rcases outF_spec (rest := rest) (fun i hi => ((chk_good c).2.2 i hi).1) (mostL rest l).2 l.length (Nat.le_refl _) with ⟨_, h5⟩ | ⟨j, h5, h6, h7, h8⟩
          · exact absurd (by rw [← e]; exact h3) (h5 i hi)
          · rw [h6]
            have h9 := h8 i hi (by rw [← e]; exact h3)
            rw [← e] at h9
            by_cases h10 : (rd_T47 l (j : Int)).f0 < (mostL rest l).1
            · have := h4 _ (mem_f0 h5) h10
              omega
            · omega
      rw [e] at h
      exact h
  · simp only [if_neg c]
    exact Ev.now _
end Go.Proofs.Ytegffliopblajaa.P
end
section
namespace Go.Proofs.Ytegffliopblajaa.P
open Go.RowKit Go.Proofs.YtegffliopblajaaW.PrintWords Go.Proofs.YtegffliopblajaaW.PrintLast Go.Proofs.YtegffliopblajaaW.PrintMore
set_option linter.unusedSimpArgs false
theorem passR_len (a : Int) (l : List S47) : (passR a l).1.length ≤ 40 := by
  unfold passR
  split
  · rename_i c
    have := chk_len c
    rw [planL_len this]
    exact this
  · exact Nat.zero_le _
theorem plansLaw_ev (a : Int) (l : List S47) : Ev (fun k => pianolalaw03_PunchPlans.f k a l) true := by
  unfold pianolalaw03_PunchPlans.f
  by_cases c : (l.length : Int) > 80
  · simp only [if_pos c]
    exact Ev.now _
  · simp only [if_neg c, Passes_f, Prove_f, Option.bind_some]
    refine Ev.bind (given_f a l (by omega)) ?_
    refine Ev.bind (rPasses_f a l) ?_
    refine Ev.bind (given_f a l (by omega)) ?_
    refine Ev.bind (rProve_f a l) ?_
    refine Ev.bind (numbers_f _ _ (by have := passR_len a l; omega)) ?_
    simp only [decide_true, if_true]
    exact Ev.now _
end Go.Proofs.Ytegffliopblajaa.P
namespace Go.Proofs.Ytegffliopblajaa.Pure
open P Go.Proofs.YtegffliopblajaaW.PrintWords
theorem PunchPlans (a : Int) (l : List S47) (_ : (Lit.int .i64 a).wf = true) (_ : ∀ s ∈ l, (Lit.int .i64 s.f0).wf = true ∧ (Lit.int .i64 s.f1).wf = true) : ∃ k, pianolalaw03_PunchPlans.f k a l = some true := (plansLaw_ev a l).rounds
end Go.Proofs.Ytegffliopblajaa.Pure
end
