/- Words and contracts for a claim. -/
import Derived.Test.YtegffliopblajaaPunchMore6

section
namespace Go.Proofs.Ytegffliopblajaa.P
open Go.RowKit Go.Proofs.YtegffliopblajaaW.PrintWords Go.Proofs.YtegffliopblajaaW.PrintLast Go.Proofs.YtegffliopblajaaW.PrintMore
set_option linter.unusedVariables false
set_option linter.unusedSimpArgs false
theorem passN_spec (p : List Int) : ∀ (n : Int), n ≤ p.foldl (fun n x => max n (x + 1)) n ∧ (∀ x ∈ p, x + 1 ≤ p.foldl (fun n x => max n (x + 1)) n) ∧ (p.foldl (fun n x => max n (x + 1)) n = n ∨ ∃ x ∈ p, p.foldl (fun n x => max n (x + 1)) n = x + 1) := by
  induction p with
  | nil => intro n; exact ⟨Int.le_refl _, (fun x h => by cases h), .inl rfl⟩
  | cons a p ih =>
    intro n
    rw [List.foldl_cons]
    obtain ⟨h1, h2, h3⟩ := ih (max n (a + 1))
    refine ⟨by omega, fun x hx => ?_, ?_⟩
    · rcases List.mem_cons.1 hx with rfl | hx
      · omega
      · exact h2 x hx
    · rcases h3 with h3 | ⟨x, hx, h3⟩
      · by_cases c : n ≤ a + 1
        · exact .inr ⟨a, List.mem_cons_self, by omega⟩
        · exact .inl (by omega)
      · exact .inr ⟨x, List.mem_cons_of_mem _ hx, h3⟩
theorem passN_le {p : List Int} {x : Int} (h : x ∈ p) : x + 1 ≤ passN p := (passN_spec p 0).2.1 x h
theorem passN_nonneg (p : List Int) : 0 ≤ passN p := (passN_spec p 0).1
theorem passN_of (p : List Int) : passN p = 0 ∨ ∃ x ∈ p, passN p = x + 1 := (passN_spec p 0).2.2
theorem nodup_bound : ∀ (N : Nat) (xs : List Int), xs.Nodup → (∀ x ∈ xs, 0 ≤ x ∧ x < N) → xs.length ≤ N
  | 0, xs, _, h => by
    cases xs with
    | nil => exact Nat.le_refl _
    | cons a xs => have := h a List.mem_cons_self; omega
  | N + 1, xs, hn, h => by
    by_cases c : (N : Int) ∈ xs
    · have := nodup_bound N (xs.erase (N : Int)) (hn.erase _) (fun x hx => by
        have h1 := h x (List.mem_of_mem_erase hx)
        have h2 : x ≠ (N : Int) := fun e => by subst e; exact (hn.not_mem_erase) hx
        omega)
      rw [List.length_erase_of_mem c] at this
      omega
    · exact Nat.le_trans (nodup_bound N xs hn (fun x hx => by
        have h1 := h x hx
        have h2 : x ≠ (N : Int) := fun e => c (by rw [← e]; exact hx)
        omega)) (Nat.le_succ N)
theorem chk_good {rest : Int} {l : List S47} (h : chk rest l = 0) : 0 ≤ rest ∧ rest ≤ 1000 ∧ ∀ i, i < l.length → 0 ≤ (rd_T47 l (i : Nat)).f0 ∧ (rd_T47 l (i : Nat)).f0 < (rd_T47 l (i : Nat)).f1 ∧ (rd_T47 l (i : Nat)).f1 ≤ 1000000 := by
  unfold chk at h
  split at h
  · rename_i c
    split at h
    · cases h
    · split at h
      · cases h
      · rename_i c3
        have hb := btw_iff.1 c
        refine ⟨hb.1, hb.2, fun i hi => ?_⟩
        have c3' : (l.any fun x => !good x) = false := by simpa using c3
        rw [List.any_eq_false] at c3'
        have := c3' (rd_T47 l (i : Nat)) (by rw [rd47_at hi]; exact List.getElem_mem _)
        have hg : good (rd_T47 l (i : Nat)) = true := by simpa using this
        unfold good at hg
        simp only [Bool.and_eq_true, decide_eq_true_eq] at hg
        omega
  · cases h
theorem mem_crowd {rest m p : Int} {l : List S47} : p ∈ crowdL rest m l ↔ ∃ i : Nat, i < l.length ∧ p = i ∧ inB rest m (rd_T47 l (i : Int)) = true := by
  unfold crowdL crowdTo
  simp only [List.mem_map, List.mem_filter, List.mem_range]
  constructor
  · rintro ⟨i, ⟨h1, h2⟩, rfl⟩
    exact ⟨i, h1, rfl, h2⟩
  · rintro ⟨i, h1, rfl, h2⟩
    exact ⟨i, ⟨h1, h2⟩, rfl⟩
theorem inB_iff {rest m : Int} {x : S47} (h0 : 0 ≤ rest) (h1 : rest ≤ 1000) (h2 : 0 ≤ x.f1) (h3 : x.f1 ≤ 1000000) : inB rest m x = true ↔ x.f0 ≤ m ∧ m < x.f1 + rest := by
  unfold inB
  rw [show wrap64 (x.f1 + rest) = x.f1 + rest by unfold wrap64; omega, Bool.and_eq_true, decide_eq_true_eq, decide_eq_true_eq]
theorem Cl_iff {rest : Int} {x y : S47} (h0 : 0 ≤ rest) (h1 : rest ≤ 1000) (h2 : 0 ≤ x.f1) (h3 : x.f1 ≤ 1000000) (h4 : 0 ≤ y.f1) (h5 : y.f1 ≤ 1000000) : Cl rest x y = true ↔ x.f0 < y.f1 + rest ∧ y.f0 < x.f1 + rest := by
  unfold Cl
  rw [show wrap64 (x.f1 + rest) = x.f1 + rest by unfold wrap64; omega, show wrap64 (y.f1 + rest) = y.f1 + rest by unfold wrap64; omega, Bool.and_eq_true, decide_eq_true_eq, decide_eq_true_eq]
theorem plan_ok {rest : Int} {l : List S47} (h : chk rest l = 0) : perr rest l (planL rest l) = 0 := by
  have h40 := chk_len h
  have hb : planB rest l (planL rest l) = true := by
    unfold planB
    rw [List.all_eq_true]
    intro i hi
    rw [apartB_iff]
    intro k hk e
    have hi' := List.mem_range.1 hi
    obtain ⟨q, hq, eq⟩ := oS_sur hi'
    obtain ⟨q', hq', eq'⟩ := oS_sur (show k < l.length by omega)
    subst eq eq'
    rw [planL_at rest l h40 hq, planL_at rest l h40 hq'] at e
    rw [← Bool.not_eq_true]
    intro hc
    rcases Nat.lt_trichotomy q q' with h1 | h1 | h1
    · exact (col_mex rest l h40 hq').1 q h1 hc (by omega)
    · subst h1; omega
    · rw [Cl_comm] at hc
      exact (col_mex rest l h40 hq).1 q' h1 hc (by omega)
  have hn : (planL rest l).any noPass = false := by
    rw [List.any_eq_false]
    intro x hx
    rw [noPass_iff.2 (planL_bd rest l h40 hx)]
    decide
  unfold perr
  rw [if_pos h, if_pos (planL_len h40), if_neg (by rw [hn]; decide), if_pos hb]
theorem col_cnt {rest : Int} {l : List S47} (h : chk rest l = 0) {r : Nat} (hr : r < l.length) : ((col rest l r : Nat) : Int) + 1 ≤ cntAt rest l (rd_T47 l (oS l r : Nat)).f0 := by
  have h40 := chk_len h
  obtain ⟨g0, g1, g2⟩ := chk_good h
  have hor := g2 _ (oS_lt hr)
  have key : ∀ j : Nat, j < col rest l r + 1 → (j : Int) ∈ (crowdL rest (rd_T47 l (oS l r : Nat)).f0 l).map (rd (planL rest l)) := by
    intro j hj
    rw [List.mem_map]
    by_cases e : j = col rest l r
    · refine ⟨((oS l r : Nat) : Int), mem_crowd.2 ⟨oS l r, oS_lt hr, rfl, ?_⟩, by rw [planL_at rest l h40 hr, e]⟩
      rw [inB_iff g0 g1 (by omega) (by omega)]
      omega
    · obtain ⟨q, h1, h2, h3⟩ := (col_mex rest l h40 hr).2 j (by omega)
      have hoq := g2 _ (oS_lt (l := l) (r := q) (by omega))
      refine ⟨((oS l q : Nat) : Int), mem_crowd.2 ⟨oS l q, oS_lt (by omega), rfl, ?_⟩, by rw [planL_at rest l h40 (by omega), h2]⟩
      rw [inB_iff g0 g1 (by omega) (by omega)]
      rw [Cl_iff g0 g1 (by omega) (by omega) (by omega) (by omega)] at h3
      have := oS_sorted h1 hr
      omega
  have := cover_len key
  rw [List.length_map] at this
  unfold cntAt
  omega
theorem crowd_nodup (rest m : Int) (l : List S47) : (crowdL rest m l).Pairwise (· < ·) := by
  unfold crowdL crowdTo
  rw [List.pairwise_map]
  exact (List.pairwise_lt_range.filter _).imp (fun h => by omega)
theorem crowd_le {rest : Int} {l : List S47} {pl : List Int} (h : perr rest l pl = 0) (m : Int) : cntAt rest l m ≤ passN pl := by
  obtain ⟨hc, h40, hl, hb, hB⟩ := perr_ok h
  obtain ⟨g0, g1, g2⟩ := chk_good hc
  have hnd : ((crowdL rest m l).map (rd pl)).Nodup := by
    unfold List.Nodup
    rw [List.pairwise_map]
    refine (List.Pairwise.and_mem.1 (crowd_nodup rest m l)).imp ?_
    rintro a b ⟨ha, hb', hab⟩
    obtain ⟨i, hi, rfl, h1⟩ := mem_crowd.1 ha
    obtain ⟨k, hk, rfl, h2⟩ := mem_crowd.1 hb'
    intro e
    have hgi := g2 i hi
    have hgk := g2 k hk
    rw [inB_iff g0 g1 (by omega) (by omega)] at h1 h2
    have hk2 : apartB rest l pl k = true := by
      unfold planB at hB
      rw [List.all_eq_true] at hB
      exact hB k (List.mem_range.2 hk)
    have := apartB_iff.1 hk2 i (by omega) e.symm
    rw [← Bool.not_eq_true, Cl_iff g0 g1 (by omega) (by omega) (by omega) (by omega)] at this
    omega
  have hN := passN_nonneg pl
  have := nodup_bound (passN pl).toNat _ hnd (fun x hx => by
    obtain ⟨a, ha, rfl⟩ := List.mem_map.1 hx
    obtain ⟨i, hi, rfl, _⟩ := mem_crowd.1 ha
    have hm : rd pl (i : Int) ∈ pl := by rw [rdI_at (show i < pl.length by omega)]; exact List.getElem_mem _
    have h1 := hb _ hm
    have h2 := passN_le hm
    omega)
  rw [List.length_map] at this
  unfold cntAt
  omega
def MostSpec (rest : Int) (l : List S47) (fs : List Int) (s : Int × Int) : Prop := 0 ≤ s.2 ∧ (∀ f ∈ fs, cntAt rest l f ≤ s.2) ∧ (s.2 = 0 ∨ (s.1 ∈ fs ∧ cntAt rest l s.1 = s.2 ∧ ∀ f ∈ fs, f < s.1 → cntAt rest l f < s.2))
theorem most_spec (rest : Int) (l : List S47) : ∀ (fs pre : List Int) (s : Int × Int), (pre ++ fs).Pairwise (· ≤ ·) → MostSpec rest l pre s → MostSpec rest l (pre ++ fs) (fs.foldl (mostStep rest l) s)
  | [], pre, s, _, h => by rw [List.append_nil]; exact h
  | f :: fs, pre, s, hs, h => by
    rw [List.foldl_cons, show pre ++ f :: fs = (pre ++ [f]) ++ fs by simp]
    rw [show pre ++ f :: fs = (pre ++ [f]) ++ fs by simp] at hs
    refine most_spec rest l fs (pre ++ [f]) _ hs ?_
    have hpf := (List.pairwise_append.1 hs).1
    have hle : ∀ g ∈ pre, g ≤ f := fun g hg => (List.pairwise_append.1 hpf).2.2 g hg f (List.mem_singleton.2 rfl)
    obtain ⟨h0, h1, h2⟩ := h
    have hc0 : 0 ≤ cntAt rest l f := by unfold cntAt; omega
    unfold mostStep
    split
    · rename_i c
      refine ⟨by dsimp only; omega, fun g hg => ?_, .inr ⟨by simp, rfl, fun g hg hlt => ?_⟩⟩
      · rcases List.mem_append.1 hg with hg | hg
        · have := h1 g hg; dsimp only; omega
        · rw [List.mem_singleton.1 hg]; exact Int.le_refl _
      · rcases List.mem_append.1 hg with hg | hg
        · have := h1 g hg; dsimp only; omega
        · rw [List.mem_singleton.1 hg] at hlt; dsimp only at hlt; omega
    · rename_i c
      refine ⟨h0, fun g hg => ?_, ?_⟩
      · rcases List.mem_append.1 hg with hg | hg
        · exact h1 g hg
        · rw [List.mem_singleton.1 hg]; omega
      · rcases h2 with h2 | ⟨h2, h3, h4⟩
        · exact .inl h2
        · refine .inr ⟨List.mem_append_left _ h2, h3, fun g hg hlt => ?_⟩
          rcases List.mem_append.1 hg with hg | hg
          · exact h4 g hg hlt
          · rw [List.mem_singleton.1 hg] at hlt
            have := hle _ h2
            omega
theorem mostL_spec (rest : Int) (l : List S47) : MostSpec rest l (l.map S47.f0) (mostL rest l) := by
  have hs : (sortI (l.map S47.f0)).Pairwise (· ≤ ·) := (List.pairwise_mergeSort (le := fun a b : Int => decide (a ≤ b)) (fun a b c h1 h2 => by simp at *; omega) (fun a b => by simp; omega) (l.map S47.f0)).imp (fun h => by simpa using h)
  have h := most_spec rest l (sortI (l.map S47.f0)) [] (0, 0) (by simpa using hs) ⟨Int.le_refl _, (fun f hf => by cases hf), .inl rfl⟩
  rw [List.nil_append] at h
  have hm : ∀ f, f ∈ sortI (l.map S47.f0) ↔ f ∈ l.map S47.f0 := fun f => (List.mergeSort_perm _ _).mem_iff
  obtain ⟨h0, h1, h2⟩ := h
  refine ⟨h0, fun f hf => h1 f ((hm f).2 hf), ?_⟩
  rcases h2 with h2 | ⟨h2, h3, h4⟩
  · exact .inl h2
  · exact .inr ⟨(hm _).1 h2, h3, fun f hf hlt => h4 f ((hm f).2 hf) hlt⟩
theorem mem_f0 {l : List S47} {i : Nat} (h : i < l.length) : (rd_T47 l (i : Int)).f0 ∈ l.map S47.f0 := by
  rw [rd47_at h]
  exact List.mem_map.2 ⟨_, List.getElem_mem _, rfl⟩
theorem pass_most {rest : Int} {l : List S47} (h : chk rest l = 0) : passN (planL rest l) = (mostL rest l).2 := by
  obtain ⟨h0, h1, h2⟩ := mostL_spec rest l
  have a : (mostL rest l).2 ≤ passN (planL rest l) := by
    rcases h2 with h2 | ⟨_, h3, _⟩
    · have := passN_nonneg (planL rest l); omega
    · rw [← h3]; exact crowd_le (plan_ok h) _
  have b : passN (planL rest l) ≤ (mostL rest l).2 := by
    rcases passN_of (planL rest l) with h3 | ⟨x, hx, h3⟩
    · omega
    · obtain ⟨r, hr, rfl⟩ := planL_mem rest l (chk_len h) hx
      have h4 := col_cnt h hr
      have h5 := h1 _ (mem_f0 (oS_lt hr))
      omega
  omega
end Go.Proofs.Ytegffliopblajaa.P
end
section
namespace Go.Proofs.Ytegffliopblajaa.P
open Go.RowKit Go.Proofs.YtegffliopblajaaW.PrintWords Go.Proofs.YtegffliopblajaaW.PrintLast Go.Proofs.YtegffliopblajaaW.PrintMore
set_option linter.unusedVariables false
set_option linter.unusedSimpArgs false
def U8l (l : List S82) : Prop := ∀ s ∈ l, (0 ≤ s.f0 ∧ s.f0 ≤ 255) ∧ (0 ≤ s.f1 ∧ s.f1 ≤ 255)
def mkS (x : S82) : S47 := ⟨x.f0 % 40, x.f0 % 40 + 1 + x.f1 % 12⟩
def laneS (l : List S82) : List S47 := (l.take 7).map mkS
theorem laneS_len (l : List S82) : (laneS l).length ≤ 7 := by unfold laneS; rw [List.length_map, List.length_take]; omega
theorem rd82_at {l : List S82} {i : Nat} (h : i < l.length) : rd_T82 l (i : Int) = l[i] := by
  unfold rd_T82
  rw [List.getD_eq_getElem?_getD, Int.toNat_natCast, List.getElem?_eq_getElem h]; rfl
theorem lane_l0 (a b : Int) (l : List S82) (hu : U8l l) : ∀ (m i : Nat), i + m = min l.length 7 → Ev (fun k => pianolalaw03_Lane_made.l0 k i a l b ((l.take i).map mkS)) (b, laneS l)
  | 0, i, h => by
    have e : (l.take i).map mkS = laneS l := by
      unfold laneS
      by_cases c : l.length ≤ 7
      · rw [List.take_of_length_le (by omega), List.take_of_length_le (by omega)]
      · rw [show i = 7 by omega]
    rw [e]
    refine Ev.step (f := fun _ => some (b, laneS l)) (fun k => ?_) (Ev.now _)
    rw [pianolalaw03_Lane_made.l0]
    by_cases c : i < l.length
    · rw [if_pos (by omega), if_neg (by omega)]
    · rw [if_neg (by omega)]
  | m + 1, i, h => by
    have hi : i < l.length := by omega
    have h1 := hu l[i] (List.getElem_mem hi)
    refine Ev.step (fun k => ?_) (lane_l0 a b l hu m (i + 1) (by omega))
    rw [pianolalaw03_Lane_made.l0, if_pos (by omega), if_pos (by omega), if_pos (by omega), if_pos (by rw [List.length_map, List.length_take]; omega), w_succ i (by omega), rd82_at hi]
    congr 1
    rw [List.take_succ_eq_append_getElem hi, List.map_append]
    congr 1
    show [_] = [mkS l[i]]
    unfold mkS
    have e1 : wrap64 l[i].f0 = l[i].f0 := by unfold wrap64; omega
    have e2 : wrap64 l[i].f1 = l[i].f1 := by unfold wrap64; omega
    rw [e1, e2, Int.tmod_eq_emod_of_nonneg h1.1.1, Int.tmod_eq_emod_of_nonneg h1.2.1, show wrap64 (wrap64 (l[i].f0 % 40 + 1) + l[i].f1 % 12) = l[i].f0 % 40 + 1 + l[i].f1 % 12 by unfold wrap64; omega]
theorem lane_f (a : Int) (l : List S82) (ha : 0 ≤ a ∧ a ≤ 255) (hu : U8l l) : Ev (fun k => pianolalaw03_Lane_made.f k a l) (a % 8, laneS l) := by
  have := lane_l0 a (a % 8) l hu (min l.length 7) 0 (by omega)
  unfold pianolalaw03_Lane_made.f
  rw [show wrap64 a = a by unfold wrap64; omega, Int.tmod_eq_emod_of_nonneg ha.1]
  simpa using this
def Small (rest : Int) (l : List S47) : Prop := 0 ≤ rest ∧ rest ≤ 20 ∧ l.length ≤ 40 ∧ ∀ i : Nat, i < l.length → 0 ≤ (rd_T47 l (i : Int)).f0 ∧ (rd_T47 l (i : Int)).f0 ≤ 39 ∧ (rd_T47 l (i : Int)).f0 < (rd_T47 l (i : Int)).f1 ∧ (rd_T47 l (i : Int)).f1 ≤ 51
theorem lane_small (a : Int) (l : List S82) (ha : 0 ≤ a ∧ a ≤ 255) (hu : U8l l) : Small (a % 8) (laneS l) := by
  refine ⟨by omega, by omega, by have := laneS_len l; omega, fun i hi => ?_⟩
  rw [rd47_at hi]
  have hi' : i < (l.take 7).length := by unfold laneS at hi; simpa using hi
  have e : (laneS l)[i] = mkS (l.take 7)[i] := List.getElem_map (f := mkS) (l := l.take 7) (h := hi)
  rw [e]
  have h1 := hu (l.take 7)[i] (List.mem_of_mem_take (List.getElem_mem hi'))
  unfold mkS
  dsimp only
  omega
theorem small_chk {rest : Int} {l : List S47} (h : Small rest l) : chk rest l = 0 := by
  obtain ⟨h0, h1, h2, h3⟩ := h
  unfold chk
  have hb : btw 0 rest 1000 = true := btw_iff.2 ⟨h0, by omega⟩
  rw [if_pos hb, if_neg (by omega), if_neg]
  rw [Bool.not_eq_true, List.any_eq_false]
  intro x hx
  obtain ⟨i, hi, rfl⟩ := List.mem_iff_getElem.1 hx
  have := h3 i hi
  rw [rd47_at hi] at this
  have hg : good l[i] = true := by
    unfold good
    simp only [Bool.and_eq_true, decide_eq_true_eq]
    omega
  rw [hg]; decide
end Go.Proofs.Ytegffliopblajaa.P
end
section
namespace Go.Proofs.Ytegffliopblajaa.P
open Go.RowKit Go.Proofs.YtegffliopblajaaW.PrintWords Go.Proofs.YtegffliopblajaaW.PrintLast Go.Proofs.YtegffliopblajaaW.PrintMore
set_option linter.unusedVariables false
set_option linter.unusedSimpArgs false
theorem rd_nat {xs : List Int} {a : Nat} (h : a < xs.length) : rd xs (a : Int) = xs[a] := by
  unfold rd
  rw [List.getD_eq_getElem?_getD, Int.toNat_natCast, List.getElem?_eq_getElem h]; rfl
end Go.Proofs.Ytegffliopblajaa.P
end
section
namespace Go.Proofs.Ytegffliopblajaa.P
open Go.RowKit Go.Proofs.YtegffliopblajaaW.PrintWords Go.Proofs.YtegffliopblajaaW.PrintLast Go.Proofs.YtegffliopblajaaW.PrintMore
set_option linter.unusedVariables false
set_option linter.unusedSimpArgs false
theorem rdS_l {l : List S47} {s : S47} {j : Nat} (h : j < l.length) : rd_T47 (l ++ [s]) (j : Int) = rd_T47 l (j : Int) := by
  unfold rd_T47
  rw [Int.toNat_natCast, List.getD_eq_getElem?_getD, List.getD_eq_getElem?_getD, List.getElem?_append_left h]
theorem rdS_r (l : List S47) (s : S47) : rd_T47 (l ++ [s]) (l.length : Int) = s := by
  unfold rd_T47
  rw [Int.toNat_natCast, List.getD_eq_getElem?_getD, List.getElem?_append_right (Nat.le_refl _)]
  simp
theorem small_app {rest : Int} {l : List S47} (h : Small rest l) {s : S47} (hs : 0 ≤ s.f0 ∧ s.f0 ≤ 39 ∧ s.f0 < s.f1 ∧ s.f1 ≤ 51) (hl : l.length < 40) : Small rest (l ++ [s]) := by
  obtain ⟨h0, h1, h2, h3⟩ := h
  refine ⟨h0, h1, by rw [List.length_append]; simp; omega, fun j hj => ?_⟩
  rw [List.length_append] at hj
  rcases Nat.lt_or_ge j l.length with c | c
  · rw [rdS_l c]; exact h3 j c
  · obtain rfl : j = l.length := by simp at hj; omega
    rw [rdS_r]; exact hs
end Go.Proofs.Ytegffliopblajaa.P
end
section
namespace Go.Proofs.Ytegffliopblajaa.P
open Go.RowKit Go.Proofs.YtegffliopblajaaW.PrintWords Go.Proofs.YtegffliopblajaaW.PrintLast Go.Proofs.YtegffliopblajaaW.PrintMore
set_option linter.unusedVariables false
set_option linter.unusedSimpArgs false
theorem chk_of {rest : Int} {l : List S47} (h0 : 0 ≤ rest) (h1 : rest ≤ 1000) (h2 : l.length ≤ 40) (h3 : ∀ i : Nat, i < l.length → 0 ≤ (rd_T47 l (i : Int)).f0 ∧ (rd_T47 l (i : Int)).f0 < (rd_T47 l (i : Int)).f1 ∧ (rd_T47 l (i : Int)).f1 ≤ 1000000) : chk rest l = 0 := by
  unfold chk
  have hb : btw 0 rest 1000 = true := btw_iff.2 ⟨h0, h1⟩
  rw [if_pos hb, if_neg (by omega), if_neg]
  rw [Bool.not_eq_true, List.any_eq_false]
  intro x hx
  obtain ⟨i, hi, rfl⟩ := List.mem_iff_getElem.1 hx
  have := h3 i hi
  rw [rd47_at hi] at this
  have hg : good l[i] = true := by
    unfold good
    simp only [Bool.and_eq_true, decide_eq_true_eq]
    omega
  rw [hg]; decide
theorem cnt_count (rest : Int) (l : List S47) (m : Int) : cntAt rest l m = ((l.countP (inB rest m) : Nat) : Int) := by
  unfold cntAt crowdL crowdTo
  rw [List.length_map, ← List.countP_eq_length_filter]
  have e : l = (List.range l.length).map fun i : Nat => rd_T47 l (i : Int) := by
    refine List.ext_getElem (by simp) (fun i h1 h2 => ?_)
    rw [List.getElem_map, List.getElem_range, rd47_at h1]
  have e2 : l.countP (inB rest m) = ((List.range l.length).map fun i : Nat => rd_T47 l (i : Int)).countP (inB rest m) := by rw [← e]
  rw [e2, List.countP_map]
  rfl
theorem pass_le {rest rest' : Int} {l l' : List S47} (h : chk rest l = 0) (h' : chk rest' l' = 0) (k : Int) (hk : 0 ≤ k) (hc : ∀ t, cntAt rest l t ≤ cntAt rest' l' t + k) : passN (planL rest l) ≤ passN (planL rest' l') + k := by
  have hn := passN_nonneg (planL rest' l')
  rw [pass_most h]
  obtain ⟨_, _, h2⟩ := mostL_spec rest l
  rcases h2 with h2 | ⟨_, h2, _⟩
  · omega
  · have a := hc (mostL rest l).1
    have b := crowd_le (plan_ok h') (mostL rest l).1
    omega
theorem pass_more {rest : Int} {l : List S47} {s : S47} (h : chk rest l = 0) (h' : chk rest (l ++ [s]) = 0) : passN (planL rest l) ≤ passN (planL rest (l ++ [s])) ∧ passN (planL rest (l ++ [s])) ≤ passN (planL rest l) + 1 := by
  constructor
  · have := pass_le h h' 0 (by omega) (fun t => by
      rw [cnt_count, cnt_count, List.countP_append]; omega)
    omega
  · exact pass_le h' h 1 (by omega) (fun t => by
      rw [cnt_count, cnt_count, List.countP_append]
      have := List.countP_le_length (p := inB rest t) (l := [s])
      simp only [List.length_cons, List.length_nil] at this
      omega)
theorem pass_rest {rest rest' : Int} {l : List S47} (h : chk rest l = 0) (h' : chk rest' l = 0) (hr : rest ≤ rest') : passN (planL rest l) ≤ passN (planL rest' l) := by
  obtain ⟨g0, g1, hg⟩ := chk_good h
  obtain ⟨k0, k1, _⟩ := chk_good h'
  have := pass_le h h' 0 (by omega) (fun t => by
    rw [cnt_count, cnt_count]
    have : l.countP (inB rest t) ≤ l.countP (inB rest' t) := List.countP_mono_left (fun x hx hb => by
      obtain ⟨i, hi, rfl⟩ := List.mem_iff_getElem.1 hx
      have hgi := hg i hi
      rw [rd47_at hi] at hgi
      rw [inB_iff g0 g1 (by omega) hgi.2.2] at hb
      rw [inB_iff k0 k1 (by omega) hgi.2.2]
      omega)
    omega)
  omega
theorem pass_perm {rest : Int} {l l' : List S47} (h : chk rest l = 0) (h' : chk rest l' = 0) (hp : l.Perm l') : passN (planL rest l) = passN (planL rest l') := by
  have a := pass_le h h' 0 (by omega) (fun t => by rw [cnt_count, cnt_count, hp.countP_eq]; omega)
  have b := pass_le h' h 0 (by omega) (fun t => by rw [cnt_count, cnt_count, hp.countP_eq]; omega)
  omega
theorem oS_same {l d : List S47} (hlen : d.length = l.length) (hlt : ∀ i j : Nat, i < l.length → j < l.length → ((rd_T47 d (i : Int)).f0 < (rd_T47 d (j : Int)).f0 ↔ (rd_T47 l (i : Int)).f0 < (rd_T47 l (j : Int)).f0)) :
    ∀ r, r < l.length → oS d r = oS l r := by
  intro r
  induction r using Nat.strongRecOn with
  | ind r ih =>
    intro hr
    have hd : oS d r < l.length := by rw [← hlen]; exact oS_lt (by omega)
    obtain ⟨s, hs, es⟩ := oS_sur (l := l) hd
    obtain ⟨u, hu, eu⟩ := oS_sur (l := d) (i := oS l r) (by rw [hlen]; exact oS_lt hr)
    have hsr : r ≤ s := by
      rcases Nat.lt_or_ge s r with c | c
      · have := ih s c hs
        rw [es] at this
        have := oS_inj (l := d) (by omega) (by omega) this
        omega
      · exact c
    have hur : r ≤ u := by
      rcases Nat.lt_or_ge u r with c | c
      · have := ih u c (by omega)
        rw [eu] at this
        have := oS_inj (l := l) hr (by omega) this
        omega
      · exact c
    rcases Nat.eq_or_lt_of_le hsr with c | c
    · rw [← es, ← c]
    · rcases Nat.eq_or_lt_of_le hur with c2 | c2
      · rw [← eu, ← c2]
      · have a := oS_sorted (l := l) c hs
        have b := oS_sorted (l := d) c2 hu
        rw [es] at a
        rw [eu] at b
        have hl := oS_lt (l := l) hr
        have x1 := hlt (oS l r) (oS d r) hl hd
        have x2 := hlt (oS d r) (oS l r) hd hl
        rcases a with a | ⟨a1, a2⟩
        · rcases b with b | ⟨b1, b2⟩
          · have := x2.1 b; omega
          · have := x1.2 a; omega
        · rcases b with b | ⟨b1, b2⟩
          · have := x2.1 b; omega
          · omega
theorem plan_same {rest : Int} {l d : List S47} (hlen : d.length = l.length) (h40 : l.length ≤ 40) (hlt : ∀ i j : Nat, i < l.length → j < l.length → ((rd_T47 d (i : Int)).f0 < (rd_T47 d (j : Int)).f0 ↔ (rd_T47 l (i : Int)).f0 < (rd_T47 l (j : Int)).f0))
    (hcl : ∀ i j : Nat, i < l.length → j < l.length → Cl rest (rd_T47 d (i : Int)) (rd_T47 d (j : Int)) = Cl rest (rd_T47 l (i : Int)) (rd_T47 l (j : Int))) : planL rest d = planL rest l := by
  have ho := oS_same hlen hlt
  have hcol : ∀ r, r < l.length → col rest d r = col rest l r := by
    intro r
    induction r using Nat.strongRecOn with
    | ind r ih =>
      intro hr
      obtain ⟨a1, a2⟩ := col_mex rest l h40 hr
      obtain ⟨b1, b2⟩ := col_mex rest d (by omega) (show r < d.length by omega)
      rcases Nat.lt_trichotomy (col rest d r) (col rest l r) with c | c | c
      · obtain ⟨q, hq, e1, e2⟩ := a2 _ c
        refine absurd (show col rest d q = col rest d r by rw [ih q hq (by omega), e1]) (b1 q hq ?_)
        rw [ho q (by omega), ho r hr, hcl _ _ (oS_lt (by omega)) (oS_lt hr)]; exact e2
      · exact c
      · obtain ⟨q, hq, e1, e2⟩ := b2 _ c
        refine absurd (show col rest l q = col rest l r by rw [← ih q hq (by omega), e1]) (a1 q hq ?_)
        rw [ho q (by omega), ho r hr, hcl _ _ (oS_lt (by omega)) (oS_lt hr)] at e2; exact e2
  have l1 := planL_len (rest := rest) (l := d) (by omega)
  have l2 := planL_len (rest := rest) (l := l) h40
  refine List.ext_getElem (by omega) (fun i h1 h2 => ?_)
  obtain ⟨r, hr, e⟩ := oS_sur (l := l) (i := i) (by omega)
  have p1 := planL_at rest d (by omega) (show r < d.length by omega)
  have p2 := planL_at rest l h40 hr
  rw [ho r hr, e, rd_nat h1] at p1
  rw [e, rd_nat h2] at p2
  rw [p1, p2, hcol r hr]
def cL (l : List S47) (t i : Nat) : List S47 := (List.range i).map fun j : Nat => rd_T47 l ((j + t) % l.length : Nat)
theorem cL_succ (l : List S47) (t i : Nat) : cL l t (i + 1) = cL l t i ++ [rd_T47 l ((i + t) % l.length : Nat)] := by unfold cL; rw [List.range_succ, List.map_append]; rfl
theorem cL_perm (l : List S47) (t : Nat) : l.Perm (cL l t l.length) := by
  by_cases c0 : l.length = 0
  · have : l = [] := List.length_eq_zero_iff.1 c0
    subst this; exact List.Perm.refl _
  · have hr := Nat.mod_lt t (show 0 < l.length by omega)
    obtain ⟨r, er⟩ : ∃ r, r = t % l.length := ⟨_, rfl⟩
    rw [← er] at hr
    have e : cL l t l.length = l.drop r ++ l.take r := by
      unfold cL
      refine List.ext_getElem (by simp; omega) (fun j h1 h2 => ?_)
      have hj : j < l.length := by simpa using h1
      have em : (j + t) % l.length = (j + r) % l.length := by rw [er, Nat.add_mod_mod]
      rw [List.getElem_map, List.getElem_range, em]
      by_cases c : j + r < l.length
      · rw [Nat.mod_eq_of_lt c, rd47_at c, List.getElem_append_left (by rw [List.length_drop]; omega), List.getElem_drop]
        congr 1; omega
      · rw [Nat.mod_eq_sub_mod (by omega), Nat.mod_eq_of_lt (by omega), rd47_at (by omega), List.getElem_append_right (by rw [List.length_drop]; omega), List.getElem_take]
        congr 1; rw [List.length_drop]; omega
    rw [e]
    have p : (l.take r ++ l.drop r).Perm (l.drop r ++ l.take r) := List.perm_append_comm
    rw [List.take_append_drop] at p
    exact p
def shS (k : Int) (x : S47) : S47 := ⟨x.f0 + k, x.f1 + k⟩
def dL (l : List S47) (k : Int) (i : Nat) : List S47 := (List.range i).map fun j : Nat => shS k (rd_T47 l (j : Int))
theorem dL_succ (l : List S47) (k : Int) (i : Nat) : dL l k (i + 1) = dL l k i ++ [shS k (rd_T47 l (i : Int))] := by unfold dL; rw [List.range_succ, List.map_append]; rfl
theorem dL_len (l : List S47) (k : Int) (i : Nat) : (dL l k i).length = i := by unfold dL; simp
theorem dL_at (l : List S47) (k : Int) {i j : Nat} (h : j < i) : rd_T47 (dL l k i) (j : Int) = shS k (rd_T47 l (j : Int)) := by
  rw [rd47_at (by rw [dL_len]; exact h)]
  unfold dL
  rw [List.getElem_map, List.getElem_range]
end Go.Proofs.Ytegffliopblajaa.P
end
section
namespace Go.Proofs.Ytegffliopblajaa.P
open Go.RowKit Go.Proofs.YtegffliopblajaaW.PrintWords Go.Proofs.YtegffliopblajaaW.PrintLast Go.Proofs.YtegffliopblajaaW.PrintMore
set_option linter.unusedVariables false
set_option linter.unusedSimpArgs false
theorem chk_small {rest rest' : Int} {l : List S47} (h : Small rest l) (h0 : 0 ≤ rest') (h1 : rest' ≤ 1000) : chk rest' l = 0 := by
  obtain ⟨g0, g1, g2, g3⟩ := h
  exact chk_of h0 h1 g2 (fun i hi => by have := g3 i hi; omega)
theorem small_mem {rest : Int} {l l' : List S47} (h : Small rest l) (hl : l'.length ≤ 40) (hm : ∀ x ∈ l', x ∈ l) : Small rest l' := by
  obtain ⟨g0, g1, g2, g3⟩ := h
  refine ⟨g0, g1, hl, fun i hi => ?_⟩
  obtain ⟨j, hj, e⟩ := List.mem_iff_getElem.1 (hm _ (List.getElem_mem hi))
  have := g3 j hj
  rw [rd47_at hj, e] at this
  rw [rd47_at hi]; exact this
theorem more_end {rest more sh : Int} {l : List S47} {s : S47} (h : Small rest l) (h7 : l.length ≤ 7) (hs : 0 ≤ s.f0 ∧ s.f0 ≤ 39 ∧ s.f0 < s.f1 ∧ s.f1 ≤ 51) (hm : 0 ≤ more ∧ more ≤ 255) (hsh : 0 ≤ sh ∧ sh ≤ 255) (t : Nat) (x3 x4 : Int) :
    Ev (fun k => pianolalaw03_PunchMore.l0 k x3 x4 (planL rest l) (passN (planL rest l)) 0 l l.length l.length rest l rest (l ++ [s]) (rest + more) l rest (cL l t l.length) rest (dL l sh l.length)) true := by
  have hc := small_chk h
  have g0 := h.1
  have g1 := h.2.1
  have ca : chk rest (l ++ [s]) = 0 := small_chk (small_app h hs (by omega))
  have cb : chk (rest + more) l = 0 := chk_small h (by omega) (by omega)
  have hperm := cL_perm l t
  have cc : chk rest (cL l t l.length) = 0 := small_chk (small_mem h (by rw [← hperm.length_eq]; omega) (fun x hx => hperm.mem_iff.2 hx))
  have cd : chk rest (dL l sh l.length) = 0 := chk_of (by omega) (by omega) (by rw [dL_len]; omega) (fun i hi => by
    rw [dL_len] at hi
    rw [dL_at l sh hi]
    have := h.2.2.2 i hi
    unfold shS
    dsimp only
    omega)
  have hpa := pass_more hc ca
  have hpb := pass_rest hc cb (by omega)
  have hpc := pass_perm hc cc hperm
  have hpd : planL rest (dL l sh l.length) = planL rest l := by
    refine plan_same (dL_len l sh l.length) (by omega) (fun i j hi hj => ?_) (fun i j hi hj => ?_)
    · rw [dL_at l sh hi, dL_at l sh hj]
      unfold shS
      dsimp only
      omega
    · rw [dL_at l sh hi, dL_at l sh hj]
      have a := h.2.2.2 i hi
      have b := h.2.2.2 j hj
      rw [Bool.eq_iff_iff, Cl_iff (by omega) (by omega) (by unfold shS; dsimp only; omega) (by unfold shS; dsimp only; omega) (by unfold shS; dsimp only; omega) (by unfold shS; dsimp only; omega), Cl_iff (by omega) (by omega) (by omega) (by omega) (by omega) (by omega)]
      unfold shS
      dsimp only
      omega
  have ebd : ∀ x ∈ planL rest l, 0 ≤ x ∧ x ≤ 39 := fun x hx => planL_bd rest l (by omega) hx
  have hnn := passN_nonneg (planL rest l)
  have hn40 : passN (planL rest l) ≤ 40 := by
    rcases passN_of (planL rest l) with e | ⟨x, hx, e⟩
    · omega
    · have := ebd x hx; omega
  have hnum := numbers_f (planL rest l) (planL rest l) (by rw [planL_len (by omega)]; omega)
  rw [decide_eq_true rfl] at hnum
  refine Ev.step (f := fun k => (pianolalaw03_numbers.f k (planL rest l) (planL rest l)).bind fun t => if t = true then some true else some false) (fun k => ?_) (Ev.bind hnum ?_)
  · rw [pianolalaw03_PunchMore.l0, if_neg (by omega), Passes_f, Passes_f, Passes_f, Passes_f]
    simp only [Option.bind_some]
    unfold passR
    rw [if_pos ca, if_pos cb, if_pos cc, if_pos cd, hpd, ← hpc, show wrap64 (passN (planL rest l) + 1) = passN (planL rest l) + 1 by unfold wrap64; omega]
    rw [if_pos rfl, if_pos rfl, if_pos rfl, if_pos rfl, if_pos rfl, if_pos hpa.1, if_pos hpa.2, if_pos hpb, if_pos rfl, if_pos trivial]
    rfl
  · simp only [if_true]; exact Ev.now _
theorem more_l0 {rest more sh tn : Int} {l : List S47} {s : S47} (h : Small rest l) (h7 : l.length ≤ 7) (hs : 0 ≤ s.f0 ∧ s.f0 ≤ 39 ∧ s.f0 < s.f1 ∧ s.f1 ≤ 51) (hm : 0 ≤ more ∧ more ≤ 255) (hsh : 0 ≤ sh ∧ sh ≤ 255) (ht : 0 ≤ tn ∧ tn ≤ 255) :
    ∀ (m i : Nat), i + m = l.length → Ev (fun k => pianolalaw03_PunchMore.l0 k sh tn (planL rest l) (passN (planL rest l)) 0 l l.length i rest l rest (l ++ [s]) (rest + more) l rest (cL l tn.toNat i) rest (dL l sh i)) true
  | 0, i, hi => by
    obtain rfl : i = l.length := by omega
    exact more_end h h7 hs hm hsh tn.toNat sh tn
  | m + 1, i, hi => by
    have hb := h.2.2.2 i (by omega)
    have rec_ := more_l0 h h7 hs hm hsh ht m (i + 1) (by omega)
    have e0 : wrap64 ((i : Int) + wrap64 tn) = ((i + tn.toNat : Nat) : Int) := by unfold wrap64; omega
    have e1 : Int.tmod ((i + tn.toNat : Nat) : Int) (l.length : Int) = (((i + tn.toNat) % l.length : Nat) : Int) := by
      rw [Int.tmod_eq_emod_of_nonneg (by omega)]; rfl
    have hlt := Nat.mod_lt (i + tn.toNat) (show 0 < l.length by omega)
    have e2 : wrap64 sh = sh := by unfold wrap64; omega
    have e3 : wrap64 ((rd_T47 l (i : Int)).f0 + sh) = (rd_T47 l (i : Int)).f0 + sh := by unfold wrap64; omega
    have e4 : wrap64 ((rd_T47 l (i : Int)).f1 + sh) = (rd_T47 l (i : Int)).f1 + sh := by unfold wrap64; omega
    have cl : (cL l tn.toNat i).length = i := by unfold cL; simp
    refine Ev.step (fun k => ?_) rec_
    rw [pianolalaw03_PunchMore.l0, if_pos (by omega), if_pos (by omega), if_pos (by omega), if_neg (by omega), e0, e1, if_pos (by omega), if_pos (by omega), e2, e3, e4, cL_succ, dL_succ]
    simp only [Option.bind_some]
    rw [if_pos (by rw [cl]; simp; omega), if_pos (by rw [dL_len]; simp; omega), w_succ i (by omega)]
    rfl
theorem moreLaw_ev (a s0 s1 more sh tn : Int) (l : List S82) (ha : 0 ≤ a ∧ a ≤ 255) (hu : U8l l) (h0 : 0 ≤ s0 ∧ s0 ≤ 255) (h1 : 0 ≤ s1 ∧ s1 ≤ 255) (hm : 0 ≤ more ∧ more ≤ 255) (hsh : 0 ≤ sh ∧ sh ≤ 255) (ht : 0 ≤ tn ∧ tn ≤ 255) : Ev (fun k => pianolalaw03_PunchMore.f k a l s0 s1 more sh tn) true := by
  unfold pianolalaw03_PunchMore.f
  refine Ev.bind (lane_f a l ha hu) ?_
  have h := lane_small a l ha hu
  have h7 := laneS_len l
  have e0 : Int.tmod (wrap64 s0) 40 = s0 % 40 := by rw [show wrap64 s0 = s0 by unfold wrap64; omega, Int.tmod_eq_emod_of_nonneg h0.1]
  have e1 : wrap64 (wrap64 (s0 % 40 + 1) + Int.tmod (wrap64 s1) 12) = s0 % 40 + 1 + s1 % 12 := by
    rw [show wrap64 s1 = s1 by unfold wrap64; omega, Int.tmod_eq_emod_of_nonneg h1.1]
    unfold wrap64; omega
  have e2 : wrap64 (a % 8 + wrap64 more) = a % 8 + more := by unfold wrap64; omega
  have fin := more_l0 (s := ⟨s0 % 40, s0 % 40 + 1 + s1 % 12⟩) h h7 (by dsimp only; omega) hm hsh ht (laneS l).length 0 (by omega)
  dsimp only
  simp only [Passes_f, Option.bind_some, e0, e1, e2]
  unfold passR
  simp only [if_pos (small_chk h), if_pos (show (([] : List S47).length + (laneS l).length < 8796093022208) by simp; omega), if_pos (show (([] : List S47) ++ laneS l).length + [(⟨s0 % 40, s0 % 40 + 1 + s1 % 12⟩ : S47)].length < 8796093022208 by simp; omega)]
  exact fin
end Go.Proofs.Ytegffliopblajaa.P
namespace Go.Proofs.Ytegffliopblajaa.Pure
open P Go.Proofs.YtegffliopblajaaW.PrintWords
theorem u8_of6 {a : Int} (w : (Lit.int .u8 a).wf = true) : 0 ≤ a ∧ a ≤ 255 := by
  have h : IntKind.u8.min ≤ a ∧ a ≤ IntKind.u8.max := by simpa [Lit.wf] using w
  exact ⟨h.1, h.2⟩
theorem PunchMore (a : Int) (l : List S82) (s0 s1 m sh t : Int) (wa : (Lit.int .u8 a).wf = true) (wl : ∀ s ∈ l, (Lit.int .u8 s.f0).wf = true ∧ (Lit.int .u8 s.f1).wf = true) (w0 : (Lit.int .u8 s0).wf = true) (w1 : (Lit.int .u8 s1).wf = true) (wm : (Lit.int .u8 m).wf = true) (ws : (Lit.int .u8 sh).wf = true) (wt : (Lit.int .u8 t).wf = true) : ∃ k, pianolalaw03_PunchMore.f k a l s0 s1 m sh t = some true :=
  (moreLaw_ev a s0 s1 m sh t l (u8_of6 wa) (fun s hs => ⟨u8_of6 (wl s hs).1, u8_of6 (wl s hs).2⟩) (u8_of6 w0) (u8_of6 w1) (u8_of6 wm) (u8_of6 ws) (u8_of6 wt)).rounds
end Go.Proofs.Ytegffliopblajaa.Pure
end
