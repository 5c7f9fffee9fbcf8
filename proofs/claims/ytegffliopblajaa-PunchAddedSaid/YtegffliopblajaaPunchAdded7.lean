/- Words and contracts for a claim. -/
import Derived.Test.YtegffliopblajaaPunchAdded6

section
namespace Go.Proofs.Ytegffliopblajaa.P
open Go.RowKit Go.Proofs.YtegffliopblajaaW.PrintWords Go.Proofs.YtegffliopblajaaW.PrintLast Go.Proofs.YtegffliopblajaaW.PrintMore
set_option linter.unusedVariables false
set_option linter.unusedSimpArgs false
def c52 (x : S47) : S52 := ⟨x.f0, x.f1⟩
theorem rd47_at {l : List S47} {i : Nat} (h : i < l.length) : rd_T47 l (i : Int) = l[i] := by
  unfold rd_T47
  rw [List.getD_eq_getElem?_getD, Int.toNat_natCast, List.getElem?_eq_getElem h]; rfl
theorem rdI_at {l : List Int} {i : Nat} (h : i < l.length) : rd l (i : Int) = l[i] := by
  unfold rd
  rw [List.getD_eq_getElem?_getD, Int.toNat_natCast, List.getElem?_eq_getElem h]; rfl
theorem w_succ (i : Nat) (h : i ≤ 1000000000) : wrap64 ((i : Int) + 1) = ((i + 1 : Nat) : Int) := by unfold wrap64; omega
def chk (rest : Int) (l : List S47) : Int := if btw 0 rest 1000 = true then (if l.length > 40 then 5 else if (l.any fun x => !good x) = true then 3 else 0) else 3
theorem check_f (rest : Int) (l : List S47) : punch_Check.f rest l = some (chk rest l) := by
  unfold punch_Check.f chk
  rw [btw_f]
  show (if btw 0 rest 1000 = true then _ else _) = _
  by_cases c : btw 0 rest 1000 = true
  · rw [if_pos c, if_pos c]
    by_cases c2 : l.length > 40
    · rw [if_pos (by omega), if_pos c2]
    · rw [if_neg (by omega), if_neg c2]
      unfold any_bad.f
      rw [if_pos (by omega)]
      show (if (l.any fun x => !good x) = true then _ else _) = _
      split <;> rfl
  · rw [if_neg c, if_neg c]
theorem chk_len {rest : Int} {l : List S47} (h : chk rest l = 0) : l.length ≤ 40 := by
  unfold chk at h
  split at h
  · split at h
    · cases h
    · omega
  · cases h
end Go.Proofs.Ytegffliopblajaa.P
end
section
namespace Go.Proofs.Ytegffliopblajaa.P
open Go.RowKit Go.Proofs.YtegffliopblajaaW.PrintWords Go.Proofs.YtegffliopblajaaW.PrintLast Go.Proofs.YtegffliopblajaaW.PrintMore
set_option linter.unusedVariables false
set_option linter.unusedSimpArgs false
def Cl (rest : Int) (x y : S47) : Bool := decide (x.f0 < wrap64 (y.f1 + rest)) && decide (y.f0 < wrap64 (x.f1 + rest))
theorem Cl_comm (rest : Int) (x y : S47) : Cl rest x y = Cl rest y x := by unfold Cl; rw [Bool.and_comm]
theorem clB_eq (x : S47) (p rest a b : Int) : clB x p rest a b = (Cl rest x ⟨a, b⟩ && decide (0 ≤ p)) := rfl
theorem mem_clashL (l : List S47) (ps : List Int) (rest a b p : Int) : ∀ (r f : Nat), p ∈ clashL l ps rest a b r f ↔ ∃ i, f ≤ i ∧ i < f + r ∧ ps.getD i 0 = p ∧ clB (rd_T47 l (i : Int)) (ps.getD i 0) rest a b = true
  | 0, f => by
    constructor
    · intro h; cases h
    · rintro ⟨i, h1, h2, _⟩; omega
  | r + 1, f => by
    rw [clashL]
    have ih := mem_clashL l ps rest a b p r (f + 1)
    constructor
    · intro h
      split at h
      · rename_i hc
        rcases List.mem_cons.1 h with h | h
        · exact ⟨f, Nat.le_refl _, by omega, h.symm, hc⟩
        · obtain ⟨i, h1, h2, h3⟩ := ih.1 h
          exact ⟨i, by omega, by omega, h3⟩
      · obtain ⟨i, h1, h2, h3⟩ := ih.1 h
        exact ⟨i, by omega, by omega, h3⟩
    · rintro ⟨i, h1, h2, h3, h4⟩
      by_cases e : i = f
      · subst e
        rw [if_pos h4, h3]
        exact List.mem_cons_self
      · have := ih.2 ⟨i, by omega, by omega, h3, h4⟩
        split
        · exact List.mem_cons_of_mem _ this
        · exact this
theorem least_of {P : Nat → Prop} (h : ∃ m, P m) : ∃ m, P m ∧ ∀ j, j < m → ¬ P j := by
  obtain ⟨m, hm⟩ := h
  induction m using Nat.strongRecOn with
  | ind m ih =>
    by_cases c : ∃ j, j < m ∧ P j
    · obtain ⟨j, hj, hp⟩ := c
      exact ih j hj hp
    · exact ⟨m, hm, fun j hj hp => c ⟨j, hj, hp⟩⟩
theorem mex_exists (cs : List Int) : ∃ m, IsMex cs m := by
  have ex : ∃ m : Nat, (m : Int) ∉ cs := Classical.byContradiction fun h => by
    have := cover_len (n := cs.length + 1) (cs := cs) (fun j _ => Classical.byContradiction fun hj => h ⟨j, hj⟩)
    omega
  obtain ⟨m, hm, hl⟩ := least_of ex
  exact ⟨m, hm, fun j hj => Classical.byContradiction (hl j hj)⟩
theorem mexL_is (cs : List Int) : IsMex cs (mexL cs) := by
  obtain ⟨m, h⟩ := mex_exists cs
  rw [← mexL_eq h]
  exact h
theorem mexL_le (cs : List Int) : mexL cs ≤ cs.length := cover_len (mexL_is cs).2
def passN (p : List Int) : Int := p.foldl (fun n x => max n (x + 1)) 0
theorem mx_max (a b : Int) : mx a b = max a b := by unfold mx; omega
theorem passes_l0 (p : List Int) (hb : ∀ x ∈ p, -1 ≤ x ∧ x ≤ 1000) (hl : p.length ≤ 1000) : ∀ (m i k : Nat) (n : Int), i + m = p.length → m < k → punch_passes.l0 k n p p.length i = some ((p.drop i).foldl (fun n x => max n (x + 1)) n)
  | 0, i, 0, n, h, hk => by omega
  | m + 1, i, 0, n, h, hk => by omega
  | 0, i, k + 1, n, h, hk => by
    rw [punch_passes.l0, if_neg (by omega), List.drop_eq_nil_of_le (by omega)]
    rfl
  | m + 1, i, k + 1, n, h, hk => by
    have hi : i < p.length := by omega
    have hx := hb p[i] (List.getElem_mem hi)
    have e : p.drop i = p[i] :: p.drop (i + 1) := List.drop_eq_getElem_cons hi
    rw [e, List.foldl_cons, punch_passes.l0, if_pos (by omega), if_pos (by omega), if_pos (by omega), rdI_at hi, w_succ i (by omega), mx_max, show wrap64 (p[i] + 1) = p[i] + 1 by unfold wrap64; omega]
    exact passes_l0 p hb hl m (i + 1) k (max n (p[i] + 1)) (by omega) (by omega)
theorem passes_f (p : List Int) (hb : ∀ x ∈ p, -1 ≤ x ∧ x ≤ 1000) (hl : p.length ≤ 1000) : punch_passes.f (p.length + 1) p = some (passN p) := by
  have := passes_l0 p hb hl p.length 0 (p.length + 1) 0 (by omega) (by omega)
  simpa [punch_passes.f, passN] using this
end Go.Proofs.Ytegffliopblajaa.P
end
section
namespace Go.Proofs.Ytegffliopblajaa.P
open Go.RowKit Go.Proofs.YtegffliopblajaaW.PrintWords Go.Proofs.YtegffliopblajaaW.PrintLast Go.Proofs.YtegffliopblajaaW.PrintMore
set_option linter.unusedVariables false
set_option linter.unusedSimpArgs false
theorem noPass_iff {p : Int} : noPass p = false ↔ 0 ≤ p ∧ p ≤ 39 := by
  unfold noPass
  rw [Bool.not_eq_false', btw_iff]
def apartB (rest : Int) (l : List S47) (pl : List Int) (i : Nat) : Bool := (List.range i).all fun k => !(decide (rd pl (i : Int) = rd pl (k : Int)) && Cl rest (rd_T47 l (i : Int)) (rd_T47 l (k : Int)))
def planB (rest : Int) (l : List S47) (pl : List Int) : Bool := (List.range l.length).all (apartB rest l pl)
theorem apartB_iff {rest : Int} {l : List S47} {pl : List Int} {i : Nat} : apartB rest l pl i = true ↔ ∀ k, k < i → rd pl (i : Int) = rd pl (k : Int) → Cl rest (rd_T47 l (i : Int)) (rd_T47 l (k : Int)) = false := by
  unfold apartB
  rw [List.all_eq_true]
  constructor
  · intro h k hk e
    have := h k (List.mem_range.2 hk)
    rw [e] at this
    simpa using this
  · intro h k hk
    rw [Bool.not_eq_true', Bool.and_eq_false_iff]
    by_cases c : rd pl (i : Int) = rd pl (k : Int)
    · exact .inr (h k (List.mem_range.1 hk) c)
    · exact .inl (decide_eq_false c)
theorem psT_lt {pl : List Int} {i j : Nat} (h : j < i) (hi : i ≤ pl.length) : (psT pl i).getD j 0 = rd pl (j : Int) := by
  unfold psT
  rw [List.getD_eq_getElem?_getD, List.getElem?_append_left (by rw [List.length_take]; omega), List.getElem?_take_of_lt h, rdI_at (by omega), List.getElem?_eq_getElem (by omega)]
  rfl
theorem psT_ge {pl : List Int} {i j : Nat} (h : i ≤ j) (hi : i ≤ pl.length) (hj : j < 40) : (psT pl i).getD j 0 = -1 := by
  unfold psT
  rw [List.getD_eq_getElem?_getD, List.getElem?_append_right (by rw [List.length_take]; omega), List.length_take, List.getElem?_replicate, if_pos (by omega)]
  rfl
theorem mem_clashT {rest : Int} {l : List S47} {pl : List Int} {i : Nat} {p a b : Int} (hp : 0 ≤ p) (hi : i ≤ pl.length) (hl : i ≤ l.length) (h40 : l.length ≤ 40) :
    p ∈ clashL l (psT pl i) rest a b l.length 0 ↔ ∃ j, j < i ∧ rd pl (j : Int) = p ∧ Cl rest (rd_T47 l (j : Int)) ⟨a, b⟩ = true := by
  rw [mem_clashL]
  constructor
  · rintro ⟨j, _, h2, h3, h4⟩
    by_cases c : j < i
    · rw [psT_lt c hi] at h3 h4
      rw [clB_eq, Bool.and_eq_true] at h4
      exact ⟨j, c, h3, h4.1⟩
    · rw [psT_ge (by omega) hi (by omega)] at h3
      omega
  · rintro ⟨j, h1, h2, h3⟩
    refine ⟨j, Nat.zero_le _, by omega, by rw [psT_lt h1 hi]; exact h2, ?_⟩
    rw [psT_lt h1 hi, clB_eq, h3, h2, decide_eq_true hp]
    rfl
theorem okAt_eq {rest : Int} {l : List S47} {pl : List Int} {i : Nat} (hi : i < l.length) (hl : pl.length = l.length) (h40 : l.length ≤ 40) (hp : 0 ≤ rd pl (i : Int)) : okAt rest l pl i = apartB rest l pl i := by
  rw [Bool.eq_iff_iff, apartB_iff]
  unfold okAt clashAt
  rw [Bool.not_eq_true', ← Bool.not_eq_true, List.contains_iff_mem, mem_clashT hp (by omega) (by omega) h40]
  constructor
  · intro h k hk e
    rw [← Bool.not_eq_true]
    intro hc
    exact h ⟨k, hk, e.symm, by rw [Cl_comm]; exact hc⟩
  · rintro h ⟨k, hk, e, hc⟩
    have := h k hk e.symm
    rw [Cl_comm] at this
    have hc' : Cl rest (rd_T47 l (k : Int)) (rd_T47 l (i : Int)) = true := hc
    rw [this] at hc'
    cases hc'
theorem all_range_congr {f g : Nat → Bool} : ∀ {n : Nat}, (∀ i, i < n → f i = g i) → (List.range n).all f = (List.range n).all g := by
  intro n h
  rw [Bool.eq_iff_iff, List.all_eq_true, List.all_eq_true]
  exact ⟨fun a i hi => by rw [← h i (List.mem_range.1 hi)]; exact a i hi, fun a i hi => by rw [h i (List.mem_range.1 hi)]; exact a i hi⟩
theorem planOk_eq {rest : Int} {l : List S47} {pl : List Int} (hl : pl.length = l.length) (h40 : l.length ≤ 40) (hp : pl.any noPass = false) : planOk rest l pl = planB rest l pl := by
  unfold planOk planB
  refine all_range_congr fun i hi => okAt_eq hi hl h40 ?_
  rw [List.any_eq_false] at hp
  have := hp (rd pl (i : Int)) (by rw [rdI_at (show i < pl.length by omega)]; exact List.getElem_mem _)
  exact (noPass_iff.1 (by simpa using this)).1
def perr (rest : Int) (l : List S47) (pl : List Int) : Int := if chk rest l = 0 then (if pl.length = l.length then (if pl.any noPass = true then 3 else if planB rest l pl = true then 0 else 14) else 6) else chk rest l
theorem planErr_f (rest : Int) (l : List S47) (pl : List Int) : planErr rest l pl = some (perr rest l pl) := by
  unfold planErr perr
  rw [check_f]
  show (if chk rest l = 0 then _ else _) = _
  by_cases c : chk rest l = 0
  · have h40 := chk_len c
    rw [if_pos c, if_pos c, if_pos h40]
    by_cases c2 : pl.length = l.length
    · rw [if_pos c2, if_pos c2]
      by_cases c3 : pl.any noPass = true
      · rw [if_pos c3, if_pos c3]
      · rw [if_neg c3, if_neg c3, planOk_eq c2 h40 (by simpa using c3)]
        split <;> rfl
    · rw [if_neg c2, if_neg c2]
  · rw [if_neg c, if_neg c]
theorem perr_ok {rest : Int} {l : List S47} {pl : List Int} (h : perr rest l pl = 0) : chk rest l = 0 ∧ l.length ≤ 40 ∧ pl.length = l.length ∧ (∀ x ∈ pl, 0 ≤ x ∧ x ≤ 39) ∧ planB rest l pl = true := by
  unfold perr at h
  split at h
  · rename_i c
    split at h
    · rename_i c2
      split at h
      · cases h
      · rename_i c3
        split at h
        · rename_i c4
          have c3' : pl.any noPass = false := by simpa using c3
          rw [List.any_eq_false] at c3'
          exact ⟨c, chk_len c, c2, fun x hx => noPass_iff.1 (by simpa using c3' x hx), c4⟩
        · cases h
    · cases h
  · exact absurd h (by assumption)
def verR (rest : Int) (l : List S47) (pl : List Int) : Int × Int := if perr rest l pl = 0 then (passN pl, 0) else (0, perr rest l pl)
theorem Verify_f (rest : Int) (l : List S47) (pl : List Int) : punch_Verify.f rest l pl = some (verR rest l pl) := by
  unfold punch_Verify.f verR
  rw [planErr_f]
  show (if perr rest l pl = 0 then _ else _) = _
  by_cases c : perr rest l pl = 0
  · obtain ⟨_, h2, h3, h4, _⟩ := perr_ok c
    rw [if_pos c, if_pos c, passes_f pl (fun x hx => by have := h4 x hx; omega) (by omega)]
    rfl
  · rw [if_neg c, if_neg c]
def addR (rest : Int) (l : List S47) (pl : List Int) (s : S47) : Int × Int := if perr rest l pl = 0 then (if good s = true then (nextPass rest l pl s.f0 s.f1, 0) else (0, 3)) else (0, perr rest l pl)
theorem Add_f (rest : Int) (l : List S47) (pl : List Int) (a b : Int) : punch_Add.f rest l pl a b = some (addR rest l pl ⟨a, b⟩) := by
  unfold punch_Add.f addR
  rw [planErr_f]
  show (if perr rest l pl = 0 then _ else _) = _
  by_cases c : perr rest l pl = 0
  · rw [if_pos c, if_pos c]
    split <;> rfl
  · rw [if_neg c, if_neg c]
end Go.Proofs.Ytegffliopblajaa.P
end
section
namespace Go.Proofs.Ytegffliopblajaa.P
open Go.RowKit Go.Proofs.YtegffliopblajaaW.PrintWords Go.Proofs.YtegffliopblajaaW.PrintLast Go.Proofs.YtegffliopblajaaW.PrintMore
set_option linter.unusedVariables false
set_option linter.unusedSimpArgs false
def oS (l : List S47) (r : Nat) : Nat := ((ordL l).getD r 0).toNat
theorem oS_lt {l : List S47} {r : Nat} (h : r < l.length) : oS l r < l.length := by
  have := ordL_mem h
  unfold oS
  omega
theorem ordF_perm (l : List S47) : (ordF l).Perm (List.finRange l.length) := List.mergeSort_perm _ _
theorem ordF_sorted (l : List S47) : (ordF l).Pairwise (fun x y => ltS l y x = false) := by
  have h1 : (ordF l).Pairwise (fun x y => (!ltS l y x) = true) := List.pairwise_mergeSort (fun a b c h1 h2 => by
    simp only [Bool.not_eq_true'] at *
    exact (ltS_swo l).ntrans c b a h2 h1) (fun a b => by
    cases h : ltS l b a
    · rfl
    · have : ltS l a b = false := by
        cases h2 : ltS l a b
        · rfl
        · have := (ltS_swo l).trans _ _ _ h h2
          rw [(ltS_swo l).irrefl] at this; cases this
      simp [this]) _
  exact h1.imp (fun h => by simpa using h)
theorem oS_at {l : List S47} {r : Nat} (h : r < l.length) : oS l r = ((ordF l)[r]'(by rw [ordF_len]; exact h)).1 := by
  unfold oS ordL
  rw [List.getD_eq_getElem?_getD, List.getElem?_map, List.getElem?_eq_getElem (by rw [ordF_len]; exact h)]
  simp
theorem oS_inj {l : List S47} {q r : Nat} (hq : q < l.length) (hr : r < l.length) (e : oS l q = oS l r) : q = r := by
  rw [oS_at hq, oS_at hr] at e
  have nd : (ordF l).Nodup := (ordF_perm l).nodup_iff.2 (List.nodup_finRange _)
  have np := List.pairwise_iff_getElem.1 nd
  rcases Nat.lt_trichotomy q r with h | h | h
  · exact absurd (Fin.ext e) (np q r (by rw [ordF_len]; omega) (by rw [ordF_len]; omega) h)
  · exact h
  · exact absurd (Fin.ext e.symm) (np r q (by rw [ordF_len]; omega) (by rw [ordF_len]; omega) h)
theorem oS_sur {l : List S47} {i : Nat} (h : i < l.length) : ∃ r, r < l.length ∧ oS l r = i := by
  have : (⟨i, h⟩ : Fin l.length) ∈ ordF l := (ordF_perm l).mem_iff.2 (List.mem_finRange _)
  obtain ⟨r, hr, e⟩ := List.mem_iff_getElem.1 this
  rw [ordF_len] at hr
  exact ⟨r, hr, by rw [oS_at hr, e]⟩
theorem oS_sorted {l : List S47} {q r : Nat} (h : q < r) (hr : r < l.length) : (rd_T47 l (oS l q : Nat)).f0 < (rd_T47 l (oS l r : Nat)).f0 ∨ (rd_T47 l (oS l q : Nat)).f0 = (rd_T47 l (oS l r : Nat)).f0 ∧ oS l q < oS l r := by
  have hs := List.pairwise_iff_getElem.1 (ordF_sorted l) q r (by rw [ordF_len]; omega) (by rw [ordF_len]; exact hr) h
  have hne : oS l q ≠ oS l r := fun e => by have := oS_inj (by omega) hr e; omega
  rw [oS_at (show q < l.length by omega), oS_at hr] at hne ⊢
  unfold ltS at hs
  have := of_decide_eq_false hs
  omega
def st (rest : Int) (l : List S47) (r : Nat) : List Int := fillL rest l ((ordL l).take r) (List.replicate 40 (-1))
def col (rest : Int) (l : List S47) (r : Nat) : Nat := mexL (clashL l (st rest l r) rest (rd_T47 l (oS l r : Nat)).f0 (rd_T47 l (oS l r : Nat)).f1 l.length 0)
theorem st_len (rest : Int) (l : List S47) (r : Nat) : (st rest l r).length = 40 := by unfold st; rw [fillL_len, List.length_replicate]
theorem st_succ (rest : Int) (l : List S47) {r : Nat} (h : r < l.length) : st rest l (r + 1) = (st rest l r).set (oS l r) (col rest l r) := by
  unfold st
  rw [fill_step rest l _ h]
  have := ordL_mem h
  unfold passOf col oS
  rw [show ((((ordL l).getD r 0).toNat : Nat) : Int) = (ordL l).getD r 0 by omega]
  rfl
theorem st_un (rest : Int) (l : List S47) (h40 : l.length ≤ 40) : ∀ (r : Nat), r ≤ l.length → ∀ j, j < l.length → (∀ q, q < r → oS l q ≠ j) → (st rest l r).getD j 0 = -1
  | 0, _, j, hj, _ => by
    unfold st
    rw [List.take_zero, fillL, List.getD_eq_getElem?_getD, List.getElem?_replicate, if_pos (by omega)]
    rfl
  | r + 1, hr, j, hj, hq => by
    rw [st_succ rest l (by omega), List.getD_eq_getElem?_getD, List.getElem?_set_ne (hq r (by omega)), ← List.getD_eq_getElem?_getD]
    exact st_un rest l h40 r (by omega) j hj (fun q h => hq q (by omega))
theorem st_at (rest : Int) (l : List S47) (h40 : l.length ≤ 40) : ∀ (r : Nat), r ≤ l.length → ∀ q, q < r → (st rest l r).getD (oS l q) 0 = col rest l q
  | 0, _, q, hq => by omega
  | r + 1, hr, q, hq => by
    rw [st_succ rest l (by omega), List.getD_eq_getElem?_getD]
    by_cases e : q = r
    · subst e
      rw [List.getElem?_set_self (by rw [st_len]; have := oS_lt (l := l) (r := q) (by omega); omega)]
      rfl
    · rw [List.getElem?_set_ne (fun h => e (oS_inj (by omega) (by omega) h.symm)), ← List.getD_eq_getElem?_getD]
      exact st_at rest l h40 r (by omega) q (by omega)
theorem st_cases (rest : Int) (l : List S47) (h40 : l.length ≤ 40) {r j : Nat} (hr : r ≤ l.length) (hj : j < l.length) : (∃ q, q < r ∧ oS l q = j ∧ (st rest l r).getD j 0 = col rest l q) ∨ ((∀ q, q < r → oS l q ≠ j) ∧ (st rest l r).getD j 0 = -1) := by
  by_cases c : ∃ q, q < r ∧ oS l q = j
  · obtain ⟨q, h1, h2⟩ := c
    exact .inl ⟨q, h1, h2, by rw [← h2]; exact st_at rest l h40 r hr q h1⟩
  · have : ∀ q, q < r → oS l q ≠ j := fun q h e => c ⟨q, h, e⟩
    exact .inr ⟨this, st_un rest l h40 r hr j hj this⟩
theorem mem_st (rest : Int) (l : List S47) (h40 : l.length ≤ 40) {r : Nat} (hr : r ≤ l.length) (s : S47) (p : Nat) :
    (p : Int) ∈ clashL l (st rest l r) rest s.f0 s.f1 l.length 0 ↔ ∃ q, q < r ∧ col rest l q = p ∧ Cl rest (rd_T47 l (oS l q : Nat)) s = true := by
  rw [mem_clashL]
  constructor
  · rintro ⟨j, _, h2, h3, h4⟩
    rcases st_cases rest l h40 hr (show j < l.length by omega) with ⟨q, h5, h6, h7⟩ | ⟨_, h7⟩
    · rw [clB_eq, Bool.and_eq_true] at h4
      exact ⟨q, h5, by omega, by rw [h6]; exact h4.1⟩
    · omega
  · rintro ⟨q, h1, h2, h3⟩
    have hlt := oS_lt (l := l) (r := q) (by omega)
    have := st_at rest l h40 r hr q h1
    refine ⟨oS l q, Nat.zero_le _, by omega, by rw [this, h2], ?_⟩
    rw [clB_eq, h3, this, decide_eq_true (by omega)]
    rfl
theorem col_mex (rest : Int) (l : List S47) (h40 : l.length ≤ 40) {r : Nat} (hr : r < l.length) :
    (∀ q, q < r → Cl rest (rd_T47 l (oS l q : Nat)) (rd_T47 l (oS l r : Nat)) = true → col rest l q ≠ col rest l r) ∧
    (∀ p, p < col rest l r → ∃ q, q < r ∧ col rest l q = p ∧ Cl rest (rd_T47 l (oS l q : Nat)) (rd_T47 l (oS l r : Nat)) = true) := by
  have h := mexL_is (clashL l (st rest l r) rest (rd_T47 l (oS l r : Nat)).f0 (rd_T47 l (oS l r : Nat)).f1 l.length 0)
  constructor
  · intro q hq hc e
    exact h.1 ((mem_st rest l h40 (by omega) _ _).2 ⟨q, hq, e, hc⟩)
  · intro p hp
    exact (mem_st rest l h40 (by omega) _ _).1 (h.2 p hp)
theorem col_le (rest : Int) (l : List S47) (h40 : l.length ≤ 40) {r : Nat} (hr : r < l.length) : col rest l r ≤ r := by
  have h := (col_mex rest l h40 hr).2
  have : ∀ j : Nat, j < col rest l r → (j : Int) ∈ (List.range r).map fun q => ((col rest l q : Nat) : Int) := fun j hj => by
    obtain ⟨q, h1, h2, _⟩ := h j hj
    exact List.mem_map.2 ⟨q, List.mem_range.2 h1, by rw [h2]⟩
  have := cover_len this
  simpa using this
theorem planL_len {rest : Int} {l : List S47} (h40 : l.length ≤ 40) : (planL rest l).length = l.length := by
  unfold planL
  rw [List.length_take, fillL_len, List.length_replicate]
  omega
theorem planL_eq (rest : Int) (l : List S47) : planL rest l = (st rest l l.length).take l.length := by
  unfold planL st
  rw [show (ordL l).take l.length = ordL l from List.take_of_length_le (by rw [ordL_len]; exact Nat.le_refl _)]
theorem take_getD {α : Type} {xs : List α} {n j : Nat} {d : α} (h : j < n) : (xs.take n).getD j d = xs.getD j d := by
  rw [List.getD_eq_getElem?_getD, List.getD_eq_getElem?_getD, List.getElem?_take_of_lt h]
theorem planL_at (rest : Int) (l : List S47) (h40 : l.length ≤ 40) {r : Nat} (hr : r < l.length) : rd (planL rest l) (oS l r : Nat) = col rest l r := by
  unfold rd
  rw [planL_eq, Int.toNat_natCast, take_getD (oS_lt hr)]
  exact st_at rest l h40 l.length (Nat.le_refl _) r hr
theorem planL_mem (rest : Int) (l : List S47) (h40 : l.length ≤ 40) {x : Int} (h : x ∈ planL rest l) : ∃ r, r < l.length ∧ x = col rest l r := by
  obtain ⟨i, hi, e⟩ := List.mem_iff_getElem.1 h
  rw [planL_len h40] at hi
  obtain ⟨r, hr, e2⟩ := oS_sur hi
  refine ⟨r, hr, ?_⟩
  rw [← planL_at rest l h40 hr, e2, rdI_at (by rw [planL_len h40]; exact hi)]
  exact e.symm
theorem planL_bd (rest : Int) (l : List S47) (h40 : l.length ≤ 40) {x : Int} (h : x ∈ planL rest l) : 0 ≤ x ∧ x ≤ 39 := by
  obtain ⟨r, hr, e⟩ := planL_mem rest l h40 h
  have := col_le rest l h40 hr
  omega
def passR (rest : Int) (l : List S47) : List Int × Int × Int := if chk rest l = 0 then (planL rest l, passN (planL rest l), 0) else ([], 0, chk rest l)
theorem Passes_f (rest : Int) (l : List S47) : punch_Passes.f rest l = some (passR rest l) := by
  unfold punch_Passes.f passR
  rw [check_f]
  show (if chk rest l = 0 then _ else _) = _
  by_cases c : chk rest l = 0
  · have h40 := chk_len c
    have := passes_f (planL rest l) (fun x hx => by have := planL_bd rest l h40 hx; omega) (by rw [planL_len h40]; omega)
    rw [planL_len h40] at this
    rw [if_pos c, if_pos c, if_pos h40, this]
    rfl
  · rw [if_neg c, if_neg c]
end Go.Proofs.Ytegffliopblajaa.P
end
section
namespace Go.Proofs.Ytegffliopblajaa.P
open Go.RowKit Go.Proofs.YtegffliopblajaaW.PrintWords Go.Proofs.YtegffliopblajaaW.PrintLast Go.Proofs.YtegffliopblajaaW.PrintMore
set_option linter.unusedVariables false
set_option linter.unusedSimpArgs false
theorem Cl_iff {rest : Int} {x y : S47} (h0 : 0 ≤ rest) (h1 : rest ≤ 1000) (h2 : 0 ≤ x.f1) (h3 : x.f1 ≤ 1000000) (h4 : 0 ≤ y.f1) (h5 : y.f1 ≤ 1000000) : Cl rest x y = true ↔ x.f0 < y.f1 + rest ∧ y.f0 < x.f1 + rest := by
  unfold Cl
  rw [show wrap64 (x.f1 + rest) = x.f1 + rest by unfold wrap64; omega, show wrap64 (y.f1 + rest) = y.f1 + rest by unfold wrap64; omega, Bool.and_eq_true, decide_eq_true_eq, decide_eq_true_eq]
theorem plan_ok {rest : Int} {l : List S47} (h : chk rest l = 0) : perr rest l (planL rest l) = 0 := by
  have h40 := chk_len h
  have hb : planB rest l (planL rest l) = true := by
    unfold planB
    rw [List.all_eq_true]
    intro i hi
    rw [apartB_iff]
    intro k hk e
    have hi' := List.mem_range.1 hi
    obtain ⟨q, hq, eq⟩ := oS_sur hi'
    obtain ⟨q', hq', eq'⟩ := oS_sur (show k < l.length by omega)
    subst eq eq'
    rw [planL_at rest l h40 hq, planL_at rest l h40 hq'] at e
    rw [← Bool.not_eq_true]
    intro hc
    rcases Nat.lt_trichotomy q q' with h1 | h1 | h1
    · exact (col_mex rest l h40 hq').1 q h1 hc (by omega)
    · subst h1; omega
    · rw [Cl_comm] at hc
      exact (col_mex rest l h40 hq).1 q' h1 hc (by omega)
  have hn : (planL rest l).any noPass = false := by
    rw [List.any_eq_false]
    intro x hx
    rw [noPass_iff.2 (planL_bd rest l h40 hx)]
    decide
  unfold perr
  rw [if_pos h, if_pos (planL_len h40), if_neg (by rw [hn]; decide), if_pos hb]
end Go.Proofs.Ytegffliopblajaa.P
end
section
namespace Go.Proofs.Ytegffliopblajaa.P
open Go.RowKit Go.Proofs.YtegffliopblajaaW.PrintWords Go.Proofs.YtegffliopblajaaW.PrintLast Go.Proofs.YtegffliopblajaaW.PrintMore
set_option linter.unusedVariables false
set_option linter.unusedSimpArgs false
def U8l (l : List S82) : Prop := ∀ s ∈ l, (0 ≤ s.f0 ∧ s.f0 ≤ 255) ∧ (0 ≤ s.f1 ∧ s.f1 ≤ 255)
def mkS (x : S82) : S47 := ⟨x.f0 % 40, x.f0 % 40 + 1 + x.f1 % 12⟩
def laneS (l : List S82) : List S47 := (l.take 7).map mkS
theorem laneS_len (l : List S82) : (laneS l).length ≤ 7 := by unfold laneS; rw [List.length_map, List.length_take]; omega
theorem rd82_at {l : List S82} {i : Nat} (h : i < l.length) : rd_T82 l (i : Int) = l[i] := by
  unfold rd_T82
  rw [List.getD_eq_getElem?_getD, Int.toNat_natCast, List.getElem?_eq_getElem h]; rfl
theorem lane_l0 (a b : Int) (l : List S82) (hu : U8l l) : ∀ (m i : Nat), i + m = min l.length 7 → Ev (fun k => pianolalaw03_Lane_made.l0 k i a l b ((l.take i).map mkS)) (b, laneS l)
  | 0, i, h => by
    have e : (l.take i).map mkS = laneS l := by
      unfold laneS
      by_cases c : l.length ≤ 7
      · rw [List.take_of_length_le (by omega), List.take_of_length_le (by omega)]
      · rw [show i = 7 by omega]
    rw [e]
    refine Ev.step (f := fun _ => some (b, laneS l)) (fun k => ?_) (Ev.now _)
    rw [pianolalaw03_Lane_made.l0]
    by_cases c : i < l.length
    · rw [if_pos (by omega), if_neg (by omega)]
    · rw [if_neg (by omega)]
  | m + 1, i, h => by
    have hi : i < l.length := by omega
    have h1 := hu l[i] (List.getElem_mem hi)
    refine Ev.step (fun k => ?_) (lane_l0 a b l hu m (i + 1) (by omega))
    rw [pianolalaw03_Lane_made.l0, if_pos (by omega), if_pos (by omega), if_pos (by omega), if_pos (by rw [List.length_map, List.length_take]; omega), w_succ i (by omega), rd82_at hi]
    congr 1
    rw [List.take_succ_eq_append_getElem hi, List.map_append]
    congr 1
    show [_] = [mkS l[i]]
    unfold mkS
    have e1 : wrap64 l[i].f0 = l[i].f0 := by unfold wrap64; omega
    have e2 : wrap64 l[i].f1 = l[i].f1 := by unfold wrap64; omega
    rw [e1, e2, Int.tmod_eq_emod_of_nonneg h1.1.1, Int.tmod_eq_emod_of_nonneg h1.2.1, show wrap64 (wrap64 (l[i].f0 % 40 + 1) + l[i].f1 % 12) = l[i].f0 % 40 + 1 + l[i].f1 % 12 by unfold wrap64; omega]
theorem lane_f (a : Int) (l : List S82) (ha : 0 ≤ a ∧ a ≤ 255) (hu : U8l l) : Ev (fun k => pianolalaw03_Lane_made.f k a l) (a % 8, laneS l) := by
  have := lane_l0 a (a % 8) l hu (min l.length 7) 0 (by omega)
  unfold pianolalaw03_Lane_made.f
  rw [show wrap64 a = a by unfold wrap64; omega, Int.tmod_eq_emod_of_nonneg ha.1]
  simpa using this
def Small (rest : Int) (l : List S47) : Prop := 0 ≤ rest ∧ rest ≤ 20 ∧ l.length ≤ 40 ∧ ∀ i : Nat, i < l.length → 0 ≤ (rd_T47 l (i : Int)).f0 ∧ (rd_T47 l (i : Int)).f0 ≤ 39 ∧ (rd_T47 l (i : Int)).f0 < (rd_T47 l (i : Int)).f1 ∧ (rd_T47 l (i : Int)).f1 ≤ 51
theorem lane_small (a : Int) (l : List S82) (ha : 0 ≤ a ∧ a ≤ 255) (hu : U8l l) : Small (a % 8) (laneS l) := by
  refine ⟨by omega, by omega, by have := laneS_len l; omega, fun i hi => ?_⟩
  rw [rd47_at hi]
  have hi' : i < (l.take 7).length := by unfold laneS at hi; simpa using hi
  have e : (laneS l)[i] = mkS (l.take 7)[i] := List.getElem_map (f := mkS) (l := l.take 7) (h := hi)
  rw [e]
  have h1 := hu (l.take 7)[i] (List.mem_of_mem_take (List.getElem_mem hi'))
  unfold mkS
  dsimp only
  omega
theorem small_chk {rest : Int} {l : List S47} (h : Small rest l) : chk rest l = 0 := by
  obtain ⟨h0, h1, h2, h3⟩ := h
  unfold chk
  have hb : btw 0 rest 1000 = true := btw_iff.2 ⟨h0, by omega⟩
  rw [if_pos hb, if_neg (by omega), if_neg]
  rw [Bool.not_eq_true, List.any_eq_false]
  intro x hx
  obtain ⟨i, hi, rfl⟩ := List.mem_iff_getElem.1 hx
  have := h3 i hi
  rw [rd47_at hi] at this
  have hg : good l[i] = true := by
    unfold good
    simp only [Bool.and_eq_true, decide_eq_true_eq]
    omega
  rw [hg]; decide
theorem near_l0 (x y : S47) (rest : Int) (h0 : 0 ≤ rest) (h1 : rest ≤ 20) (hx : 0 ≤ x.f0 ∧ x.f0 ≤ 39 ∧ x.f0 < x.f1 ∧ x.f1 ≤ 51) (hy : 0 ≤ y.f0 ∧ y.f0 ≤ 39 ∧ y.f0 < y.f1 ∧ y.f1 ≤ 51) :
    ∀ (m i : Nat), i + m = 80 → (∀ j : Nat, j < i → ¬ (x.f0 ≤ (j : Int) ∧ (j : Int) < x.f1 + rest ∧ y.f0 ≤ (j : Int) ∧ (j : Int) < y.f1 + rest)) → Ev (fun k => pianolalaw03_near.l0 k rest i x.f0 x.f1 y.f0 y.f1) (Cl rest x y)
  | 0, i, h, hj => by
    have hc : Cl rest x y = false := by
      rw [← Bool.not_eq_true, Cl_iff h0 (by omega) (by omega) (by omega) (by omega) (by omega)]
      intro hc
      exact hj (max x.f0 y.f0).toNat (by omega) (by omega)
    rw [hc]
    refine Ev.step (f := fun _ => some false) (fun k => ?_) (Ev.now _)
    rw [pianolalaw03_near.l0, if_neg (by omega)]
  | m + 1, i, h, hj => by
    have e : ∀ k, pianolalaw03_near.l0 (k + 1) rest i x.f0 x.f1 y.f0 y.f1 = if (x.f0 ≤ (i : Int) ∧ (i : Int) < x.f1 + rest ∧ y.f0 ≤ (i : Int) ∧ (i : Int) < y.f1 + rest) then some true else pianolalaw03_near.l0 k rest ((i + 1 : Nat) : Int) x.f0 x.f1 y.f0 y.f1 := fun k => by
      rw [pianolalaw03_near.l0, if_pos (by omega), w_succ i (by omega), show wrap64 (x.f1 + rest) = x.f1 + rest by unfold wrap64; omega, show wrap64 (y.f1 + rest) = y.f1 + rest by unfold wrap64; omega]
      by_cases c1 : x.f0 ≤ (i : Int)
      · rw [if_pos c1]
        by_cases c2 : (i : Int) < x.f1 + rest
        · rw [if_pos c2]
          by_cases c3 : y.f0 ≤ (i : Int)
          · rw [if_pos c3]
            by_cases c4 : (i : Int) < y.f1 + rest
            · rw [if_pos c4, if_pos ⟨c1, c2, c3, c4⟩]
            · rw [if_neg c4, if_neg (fun h => c4 h.2.2.2)]
          · rw [if_neg c3, if_neg (fun h => c3 h.2.2.1)]
        · rw [if_neg c2, if_neg (fun h => c2 h.2.1)]
      · rw [if_neg c1, if_neg (fun h => c1 h.1)]
    by_cases c : (x.f0 ≤ (i : Int) ∧ (i : Int) < x.f1 + rest ∧ y.f0 ≤ (i : Int) ∧ (i : Int) < y.f1 + rest)
    · have hc : Cl rest x y = true := by
        rw [Cl_iff h0 (by omega) (by omega) (by omega) (by omega) (by omega)]
        omega
      rw [hc]
      exact Ev.step (f := fun _ => some true) (fun k => (e k).trans (by rw [if_pos c])) (Ev.now _)
    · refine Ev.step (fun k => (e k).trans (by rw [if_neg c])) (near_l0 x y rest h0 h1 hx hy m (i + 1) (by omega) (fun j hj' => ?_))
      rcases Nat.lt_or_ge j i with h2 | h2
      · exact hj j h2
      · obtain rfl : j = i := by omega
        exact c
theorem near_f {rest : Int} {l : List S47} (h : Small rest l) {i j : Nat} (hi : i < l.length) (hj : j < l.length) : Ev (fun k => pianolalaw03_near.f k (rd_T47 l (i : Int)).f0 (rd_T47 l (i : Int)).f1 (rd_T47 l (j : Int)).f0 (rd_T47 l (j : Int)).f1 rest) (Cl rest (rd_T47 l (i : Int)) (rd_T47 l (j : Int))) := by
  have := near_l0 (rd_T47 l (i : Int)) (rd_T47 l (j : Int)) rest h.1 h.2.1 (h.2.2.2 i hi) (h.2.2.2 j hj) 80 0 (by omega) (fun j hj => by omega)
  simpa [pianolalaw03_near.f] using this
def planN (rest : Int) (l : List S47) (pl : List Int) (n : Nat) : Bool := (List.range n).all (apartB rest l pl)
theorem good_l1 {rest : Int} {l : List S47} (h : Small rest l) (pl : List Int) (hl : pl.length ≤ l.length) {i : Nat} (hi : i < pl.length) {r : Bool}
    (hr : apartB rest l pl i = true → Ev (fun k => pianolalaw03_good.l0 k pl pl.length ((i + 1 : Nat) : Int) rest l) r) (hb : apartB rest l pl i = false → r = false) :
    ∀ (m j : Nat), j + m = i → (∀ k, k < j → rd pl (i : Int) = rd pl (k : Int) → Cl rest (rd_T47 l (i : Int)) (rd_T47 l (k : Int)) = false) → Ev (fun k => pianolalaw03_good.l1 k pl i j pl.length i rest l) r
  | 0, j, hj, hk => by
    obtain rfl : j = i := by omega
    have h40 := h.2.2.1
    refine Ev.step (fun k => ?_) (hr (apartB_iff.2 hk))
    rw [pianolalaw03_good.l1, if_neg (by omega), w_succ j (by omega)]
  | m + 1, j, hj, hk => by
    have h40 := h.2.2.1
    have e : ∀ k, pianolalaw03_good.l1 (k + 1) pl i j pl.length i rest l = if rd pl (i : Int) = rd pl (j : Int) then ((pianolalaw03_near.f k (rd_T47 l (i : Int)).f0 (rd_T47 l (i : Int)).f1 (rd_T47 l (j : Int)).f0 (rd_T47 l (j : Int)).f1 rest).bind fun t => if t = true then some false else pianolalaw03_good.l1 k pl i ((j + 1 : Nat) : Int) pl.length i rest l) else pianolalaw03_good.l1 k pl i ((j + 1 : Nat) : Int) pl.length i rest l := fun k => by
      rw [pianolalaw03_good.l1, if_pos (by omega), if_pos (by omega), if_pos (by omega), if_pos (by omega), if_pos (by omega), w_succ j (by omega)]
      by_cases c : rd pl (i : Int) = rd pl (j : Int)
      · rw [if_pos c, if_pos c, if_pos (by omega), if_pos (by omega)]
      · rw [if_neg c, if_neg c]
    refine Ev.step e ?_
    have rec_ : (rd pl (i : Int) = rd pl (j : Int) → Cl rest (rd_T47 l (i : Int)) (rd_T47 l (j : Int)) = false) → Ev (fun k => pianolalaw03_good.l1 k pl i ((j + 1 : Nat) : Int) pl.length i rest l) r := fun hc =>
      good_l1 h pl hl hi hr hb m (j + 1) (by omega) (fun k hk' ek => by
        rcases Nat.lt_or_ge k j with h2 | h2
        · exact hk k h2 ek
        · obtain rfl : k = j := by omega
          exact hc ek)
    by_cases c : rd pl (i : Int) = rd pl (j : Int)
    · simp only [if_pos c]
      refine Ev.bind (near_f h (show i < l.length by omega) (show j < l.length by omega)) ?_
      cases hc : Cl rest (rd_T47 l (i : Int)) (rd_T47 l (j : Int)) with
      | true =>
        simp only [if_true]
        rw [hb (by rw [← Bool.not_eq_true, apartB_iff]; intro h2; rw [h2 j (by omega) c] at hc; cases hc)]
        exact Ev.now _
      | false =>
        simp only [Bool.false_eq_true, if_false]
        exact rec_ (fun _ => hc)
    · simp only [if_neg c]
      exact rec_ (fun hc => absurd hc c)
theorem good_l0 {rest : Int} {l : List S47} (h : Small rest l) (pl : List Int) (hl : pl.length ≤ l.length) : ∀ (m i : Nat), i + m = pl.length → (∀ k, k < i → apartB rest l pl k = true) → Ev (fun k => pianolalaw03_good.l0 k pl pl.length i rest l) (planN rest l pl pl.length)
  | 0, i, hi, hk => by
    have : planN rest l pl pl.length = true := by
      unfold planN
      rw [List.all_eq_true]
      exact fun k hk' => hk k (by have := List.mem_range.1 hk'; omega)
    rw [this]
    refine Ev.step (f := fun _ => some true) (fun k => ?_) (Ev.now _)
    rw [pianolalaw03_good.l0, if_neg (by omega)]
  | m + 1, i, hi, hk => by
    refine Ev.step (f := fun k => pianolalaw03_good.l1 k pl i 0 pl.length i rest l) (fun k => by rw [pianolalaw03_good.l0, if_pos (by omega)]) ?_
    refine good_l1 h pl hl (by omega) (fun hc => good_l0 h pl hl m (i + 1) (by omega) (fun k hk' => ?_)) (fun hc => ?_) i 0 (by omega) (fun k hk => by omega)
    · rcases Nat.lt_or_ge k i with h2 | h2
      · exact hk k h2
      · obtain rfl : k = i := by omega
        exact hc
    · unfold planN
      rw [← Bool.not_eq_true, List.all_eq_true]
      intro h2
      have := h2 i (List.mem_range.2 (by omega))
      rw [hc] at this; cases this
theorem goodp_f {rest : Int} {l : List S47} (h : Small rest l) (pl : List Int) (hl : pl.length ≤ l.length) : Ev (fun k => pianolalaw03_good.f k rest l pl) (planN rest l pl pl.length) := by
  have := good_l0 h pl hl pl.length 0 (by omega) (fun k hk => by omega)
  simpa [pianolalaw03_good.f] using this
theorem planN_iff {rest : Int} {l : List S47} {pl : List Int} {n : Nat} : planN rest l pl n = true ↔ ∀ i k, k < i → i < n → rd pl (i : Int) = rd pl (k : Int) → Cl rest (rd_T47 l (i : Int)) (rd_T47 l (k : Int)) = false := by
  unfold planN
  rw [List.all_eq_true]
  exact ⟨fun h i k hk hi => apartB_iff.1 (h i (List.mem_range.2 hi)) k hk, fun h i hi => apartB_iff.2 (fun k hk => h i k hk (List.mem_range.1 hi))⟩
end Go.Proofs.Ytegffliopblajaa.P
end
section
namespace Go.Proofs.Ytegffliopblajaa.P
open Go.RowKit Go.Proofs.YtegffliopblajaaW.PrintWords Go.Proofs.YtegffliopblajaaW.PrintLast Go.Proofs.YtegffliopblajaaW.PrintMore
set_option linter.unusedVariables false
set_option linter.unusedSimpArgs false
theorem rd_nat {xs : List Int} {a : Nat} (h : a < xs.length) : rd xs (a : Int) = xs[a] := by
  unfold rd
  rw [List.getD_eq_getElem?_getD, Int.toNat_natCast, List.getElem?_eq_getElem h]; rfl
theorem rd_l {xs : List Int} {y : Int} {a : Nat} (h : a < xs.length) : rd (xs ++ [y]) (a : Int) = rd xs (a : Int) := by
  rw [rd_nat (by rw [List.length_append]; omega), rd_nat h, List.getElem_append_left h]
theorem rd_r (xs : List Int) (y : Int) : rd (xs ++ [y]) (xs.length : Int) = y := by
  rw [rd_nat (by rw [List.length_append]; simp)]; simp
end Go.Proofs.Ytegffliopblajaa.P
end
section
namespace Go.Proofs.Ytegffliopblajaa.P
open Go.RowKit Go.Proofs.YtegffliopblajaaW.PrintWords Go.Proofs.YtegffliopblajaaW.PrintLast Go.Proofs.YtegffliopblajaaW.PrintMore
set_option linter.unusedVariables false
set_option linter.unusedSimpArgs false
def SortedX (l : List S47) (i k : Nat) : Prop := ∀ a b : Nat, a < b → b ≤ i → b ≠ k → (rd_T47 l (a : Int)).f0 ≤ (rd_T47 l (b : Int)).f0
def Sorted (l : List S47) (n : Nat) : Prop := ∀ a b : Nat, a < b → b < n → (rd_T47 l (a : Int)).f0 ≤ (rd_T47 l (b : Int)).f0
theorem rd_set {l : List S47} {k j : Nat} {x : S47} (hk : k < l.length) : rd_T47 (l.set k x) (j : Int) = if j = k then x else rd_T47 l (j : Int) := by
  unfold rd_T47
  rw [List.getD_eq_getElem?_getD, List.getD_eq_getElem?_getD, Int.toNat_natCast, List.getElem?_set]
  by_cases c : k = j
  · rw [if_pos c, if_pos (by omega), if_pos c.symm]; rfl
  · rw [if_neg c, if_neg (fun h => c h.symm)]
theorem rd_take {l : List S47} {i j : Nat} (h : j < i) : rd_T47 (l.take i) (j : Int) = rd_T47 l (j : Int) := by
  unfold rd_T47
  rw [Int.toNat_natCast, take_getD h]
theorem rdI_take {l : List Int} {i j : Nat} (h : j < i) : rd (l.take i) (j : Int) = rd l (j : Int) := by
  unfold rd
  rw [Int.toNat_natCast, take_getD h]
theorem small_take {rest : Int} {l : List S47} (h : Small rest l) (i : Nat) : Small rest (l.take i) := by
  obtain ⟨h0, h1, h2, h3⟩ := h
  refine ⟨h0, h1, by rw [List.length_take]; omega, fun j hj => ?_⟩
  rw [List.length_take] at hj
  rw [rd_take (by omega)]
  exact h3 j (by omega)
theorem rdS_l {l : List S47} {s : S47} {j : Nat} (h : j < l.length) : rd_T47 (l ++ [s]) (j : Int) = rd_T47 l (j : Int) := by
  unfold rd_T47
  rw [Int.toNat_natCast, List.getD_eq_getElem?_getD, List.getD_eq_getElem?_getD, List.getElem?_append_left h]
theorem rdS_r (l : List S47) (s : S47) : rd_T47 (l ++ [s]) (l.length : Int) = s := by
  unfold rd_T47
  rw [Int.toNat_natCast, List.getD_eq_getElem?_getD, List.getElem?_append_right (Nat.le_refl _)]
  simp
theorem small_app {rest : Int} {l : List S47} (h : Small rest l) {s : S47} (hs : 0 ≤ s.f0 ∧ s.f0 ≤ 39 ∧ s.f0 < s.f1 ∧ s.f1 ≤ 51) (hl : l.length < 40) : Small rest (l ++ [s]) := by
  obtain ⟨h0, h1, h2, h3⟩ := h
  refine ⟨h0, h1, by rw [List.length_append]; simp; omega, fun j hj => ?_⟩
  rw [List.length_append] at hj
  rcases Nat.lt_or_ge j l.length with c | c
  · rw [rdS_l c]; exact h3 j c
  · obtain rfl : j = l.length := by simp at hj; omega
    rw [rdS_r]; exact hs
def swapL (l : List S47) (k : Nat) : List S47 := (l.set k (rd_T47 l ((k - 1 : Nat) : Int))).set (k - 1) (rd_T47 l (k : Int))
theorem swap_at {l : List S47} {k j : Nat} (h0 : 0 < k) (hk : k < l.length) : rd_T47 (swapL l k) (j : Int) = if j = k - 1 then rd_T47 l (k : Int) else if j = k then rd_T47 l ((k - 1 : Nat) : Int) else rd_T47 l (j : Int) := by
  unfold swapL
  rw [rd_set (by rw [List.length_set]; omega), rd_set hk]
theorem swap_small {rest : Int} {l : List S47} (h : Small rest l) {k : Nat} (h0 : 0 < k) (hk : k < l.length) : Small rest (swapL l k) := by
  obtain ⟨g0, g1, g2, g3⟩ := h
  have hl : (swapL l k).length = l.length := by unfold swapL; rw [List.length_set, List.length_set]
  refine ⟨g0, g1, by omega, fun j hj => ?_⟩
  rw [swap_at h0 hk]
  split
  · exact g3 k hk
  · split
    · exact g3 (k - 1) (by omega)
    · exact g3 j (by omega)
theorem swap_sorted {l : List S47} {i k : Nat} (h0 : 0 < k) (hk : k < l.length) (hki : k ≤ i) (h : SortedX l i k) (hlt : (rd_T47 l (k : Int)).f0 < (rd_T47 l ((k - 1 : Nat) : Int)).f0) : SortedX (swapL l k) i (k - 1) := by
  intro a b hab hb hne
  rw [swap_at h0 hk, swap_at h0 hk, if_neg hne]
  by_cases c1 : b = k
  · rw [if_pos c1]
    by_cases c2 : a = k - 1
    · rw [if_pos c2]; omega
    · rw [if_neg c2, if_neg (by omega)]
      exact h a (k - 1) (by omega) (by omega) (by omega)
  · rw [if_neg c1]
    by_cases c2 : a = k - 1
    · rw [if_pos c2]
      exact h k b (by omega) hb c1
    · rw [if_neg c2]
      by_cases c3 : a = k
      · rw [if_pos c3]
        exact h (k - 1) b (by omega) hb c1
      · rw [if_neg c3]
        exact h a b hab hb c1
theorem sorted_end {l : List S47} {i k : Nat} (hki : k ≤ i) (h : SortedX l i k) (hk : k = 0 ∨ (rd_T47 l ((k - 1 : Nat) : Int)).f0 ≤ (rd_T47 l (k : Int)).f0) : Sorted l (i + 1) := by
  intro a b hab hb
  by_cases c : b = k
  · rcases hk with hk | hk
    · omega
    · subst c
      by_cases c2 : a = b - 1
      · subst c2; exact hk
      · exact Int.le_trans (h a (b - 1) (by omega) (by omega) (by omega)) hk
  · exact h a b hab (by omega) c
theorem oS_id {l : List S47} (h : Sorted l l.length) : ∀ r, r < l.length → oS l r = r := by
  have inc : ∀ q r, q < r → r < l.length → oS l q < oS l r := fun q r hqr hr => by
    rcases oS_sorted hqr hr with h1 | ⟨_, h1⟩
    · rcases Nat.lt_trichotomy (oS l q) (oS l r) with h2 | h2 | h2
      · exact h2
      · rw [h2] at h1; omega
      · have := h _ _ h2 (oS_lt (by omega)); omega
    · exact h1
  have lo : ∀ r, r < l.length → r ≤ oS l r := fun r => by
    induction r with
    | zero => intro _; omega
    | succ r ih =>
      intro hr
      have := ih (by omega)
      have := inc r (r + 1) (by omega) hr
      omega
  have hi : ∀ m r, r + m + 1 = l.length → oS l r ≤ r := fun m => by
    induction m with
    | zero => intro r hr; have := oS_lt (l := l) (r := r) (by omega); omega
    | succ m ih =>
      intro r hr
      have := ih (r + 1) (by omega)
      have := inc r (r + 1) (by omega) (by omega)
      omega
  intro r hr
  have := lo r hr
  have := hi (l.length - r - 1) r (by omega)
  omega
theorem next_spec {rest : Int} {l : List S47} {pl : List Int} (s : S47) (hl : pl.length = l.length) (h40 : l.length ≤ 40) : ∃ m : Nat, nextPass rest l pl s.f0 s.f1 = (m : Int) ∧ (∀ j, j < l.length → rd pl (j : Int) = (m : Int) → Cl rest (rd_T47 l (j : Int)) s = false) ∧ (∀ p : Nat, p < m → ∃ j, j < l.length ∧ rd pl (j : Int) = (p : Int) ∧ Cl rest (rd_T47 l (j : Int)) s = true) ∧ m ≤ l.length := by
  have h := mexL_is (clashL l (psT pl l.length) rest s.f0 s.f1 l.length 0)
  refine ⟨_, rfl, fun j hj e => ?_, fun p hp => ?_, Nat.le_trans (mexL_le _) (Nat.le_trans (clashL_len _ _ _ _ _ _ _) (by omega))⟩
  · rw [← Bool.not_eq_true]
    intro hc
    exact h.1 ((mem_clashT (by omega) (by omega) (Nat.le_refl _) h40).2 ⟨j, hj, e, hc⟩)
  · exact (mem_clashT (by omega) (by omega) (Nat.le_refl _) h40).1 (h.2 p hp)
theorem mex_unique {rest : Int} {l : List S47} {pl : List Int} {s : S47} {n m k : Nat}
    (h1 : ∀ j, j < n → rd pl (j : Int) = (m : Int) → Cl rest (rd_T47 l (j : Int)) s = false) (h2 : ∀ p : Nat, p < m → ∃ j, j < n ∧ rd pl (j : Int) = (p : Int) ∧ Cl rest (rd_T47 l (j : Int)) s = true)
    (h3 : ∀ j, j < n → rd pl (j : Int) = (k : Int) → Cl rest (rd_T47 l (j : Int)) s = false) (h4 : ∀ p : Nat, p < k → ∃ j, j < n ∧ rd pl (j : Int) = (p : Int) ∧ Cl rest (rd_T47 l (j : Int)) s = true) : m = k := by
  rcases Nat.lt_trichotomy m k with c | c | c
  · obtain ⟨j, hj, e, hc⟩ := h4 m c
    rw [h1 j hj e] at hc; cases hc
  · exact c
  · obtain ⟨j, hj, e, hc⟩ := h2 k c
    rw [h3 j hj e] at hc; cases hc
theorem perr_small {rest : Int} {l : List S47} {pl : List Int} (h : Small rest l) (hl : pl.length = l.length) (hb : ∀ x ∈ pl, 0 ≤ x ∧ x ≤ 39) (hp : planN rest l pl l.length = true) : perr rest l pl = 0 := by
  unfold perr
  rw [if_pos (small_chk h), if_pos hl, if_neg, if_pos (show planB rest l pl = true from hp)]
  rw [Bool.not_eq_true, List.any_eq_false]
  intro x hx
  rw [noPass_iff.2 (hb x hx)]; decide
theorem next_plan {rest : Int} {l : List S47} (h : Small rest l) (hs : Sorted l l.length) {i : Nat} (hi : i < l.length) : perr rest (l.take i) ((planL rest l).take i) = 0 ∧ nextPass rest (l.take i) ((planL rest l).take i) (rd_T47 l (i : Int)).f0 (rd_T47 l (i : Int)).f1 = rd (planL rest l) (i : Int) := by
  have h40 := h.2.2.1
  have hpl := planL_len (rest := rest) h40
  have hid := oS_id hs
  have hat : ∀ r, r < l.length → rd (planL rest l) (r : Int) = col rest l r := fun r hr => by
    have := planL_at rest l h40 hr
    rw [hid r hr] at this; exact this
  have hl1 : (l.take i).length = i := by rw [List.length_take]; omega
  have hl2 : ((planL rest l).take i).length = (l.take i).length := by rw [List.length_take, hl1]; omega
  have hok := perr_ok (plan_ok (small_chk h))
  refine ⟨perr_small (small_take h i) hl2 (fun x hx => hok.2.2.2.1 x (List.mem_of_mem_take hx)) ?_, ?_⟩
  · rw [planN_iff]
    intro a b hab ha e
    rw [hl1] at ha
    rw [rdI_take ha, rdI_take (by omega)] at e
    rw [rd_take ha, rd_take (by omega)]
    exact planN_iff.1 (show planN rest l (planL rest l) l.length = true from hok.2.2.2.2) a b hab (by omega) e
  · obtain ⟨m, e, g1, g2, _⟩ := next_spec (rest := rest) (rd_T47 l (i : Int)) hl2 (by omega)
    rw [e, hat i hi]
    rw [hl1] at g1 g2
    obtain ⟨k1, k2⟩ := col_mex rest l h40 hi
    rw [hid i hi] at k1 k2
    congr 1
    refine mex_unique (n := i) (rest := rest) (l := l) (pl := planL rest l) (s := rd_T47 l (i : Int)) (fun j hj e => ?_) (fun p hp => ?_) (fun j hj e => ?_) (fun p hp => ?_)
    · have := g1 j hj (by rw [rdI_take hj]; exact e)
      rw [rd_take hj] at this; exact this
    · obtain ⟨j, hj, e1, e2⟩ := g2 p hp
      rw [rdI_take hj] at e1
      rw [rd_take hj] at e2
      exact ⟨j, hj, e1, e2⟩
    · rw [hat j (by omega)] at e
      rw [← Bool.not_eq_true]
      intro hc
      have := k1 j hj
      rw [hid j (by omega)] at this
      exact this hc (by omega)
    · obtain ⟨j, hj, e1, e2⟩ := k2 p hp
      rw [hid j (by omega)] at e2
      exact ⟨j, hj, by rw [hat j (by omega), e1], e2⟩
end Go.Proofs.Ytegffliopblajaa.P
end
section
namespace Go.Proofs.Ytegffliopblajaa.P
open Go.RowKit Go.Proofs.YtegffliopblajaaW.PrintWords Go.Proofs.YtegffliopblajaaW.PrintLast Go.Proofs.YtegffliopblajaaW.PrintMore
set_option linter.unusedVariables false
set_option linter.unusedSimpArgs false
theorem good_small {rest : Int} {l : List S47} (h : Small rest l) {i : Nat} (hi : i < l.length) : good (rd_T47 l (i : Int)) = true := by
  have := h.2.2.2 i hi
  unfold good
  simp only [Bool.and_eq_true, decide_eq_true_eq]
  omega
theorem added_l1 {rest s0 s1 : Int} {n i : Nat} (hi : i < n) (hn : n ≤ 40) (go : ∀ l : List S47, Small rest l → l.length = n → Sorted l (i + 1) → Ev (fun k => pianolalaw03_PunchAdded.l0 k n ((i + 1 : Nat) : Int) s0 s1 rest l) true) :
    ∀ (k : Nat) (l : List S47), k ≤ i → Small rest l → l.length = n → SortedX l i k → Ev (fun f => pianolalaw03_PunchAdded.l1 f k n i s0 s1 rest l) true
  | 0, l, hk, hs, hl, hx => by
    refine Ev.step (fun f => ?_) (go l hs hl (sorted_end (by omega) hx (.inl rfl)))
    rw [pianolalaw03_PunchAdded.l1, if_neg (by omega), w_succ i (by omega)]
  | k + 1, l, hk, hs, hl, hx => by
    have ew : wrap64 (((k + 1 : Nat) : Int) - 1) = ((k : Nat) : Int) := by unfold wrap64; omega
    by_cases c : (rd_T47 l ((k + 1 : Nat) : Int)).f0 < (rd_T47 l ((k : Nat) : Int)).f0
    · have hlen : (swapL l (k + 1)).length = n := by unfold swapL; rw [List.length_set, List.length_set]; exact hl
      refine Ev.step (fun f => ?_) (added_l1 hi hn go k (swapL l (k + 1)) (by omega) (swap_small hs (by omega) (by omega)) hlen (swap_sorted (by omega) (by omega) hk hx c))
      rw [pianolalaw03_PunchAdded.l1, if_pos (by omega), if_pos (by omega), if_pos (by omega), ew, if_pos (by omega), if_pos (by omega), if_pos c, Int.toNat_natCast, Int.toNat_natCast]
      rfl
    · refine Ev.step (fun f => ?_) (go l hs hl (sorted_end hk hx (.inr (by show (rd_T47 l ((k : Nat) : Int)).f0 ≤ _; omega))))
      rw [pianolalaw03_PunchAdded.l1, if_pos (by omega), if_pos (by omega), if_pos (by omega), ew, if_pos (by omega), if_pos (by omega), if_neg c, w_succ i (by omega)]
theorem added_l0 {rest s0 s1 : Int} {n : Nat} (hn : n ≤ 40) (fin : ∀ l : List S47, Small rest l → l.length = n → Sorted l n → Ev (fun k => pianolalaw03_PunchAdded.l0 k n n s0 s1 rest l) true) :
    ∀ (m i : Nat) (l : List S47), i + m = n → Small rest l → l.length = n → Sorted l i → Ev (fun k => pianolalaw03_PunchAdded.l0 k n i s0 s1 rest l) true
  | 0, i, l, hi, hs, hl, hx => by
    obtain rfl : i = n := by omega
    exact fin l hs hl hx
  | m + 1, i, l, hi, hs, hl, hx => by
    refine Ev.step (fun k => ?_) (added_l1 (i := i) (by omega) hn (fun l' h1 h2 h3 => added_l0 hn fin m (i + 1) l' (by omega) h1 h2 h3) i l (Nat.le_refl _) hs hl (fun a b hab hb hne => hx a b hab (by omega)))
    rw [pianolalaw03_PunchAdded.l0, if_pos (by omega)]
theorem added_l3 {rest : Int} {l : List S47} {p : List Int} {s : S47} (h : Small rest (l ++ [s])) (hp : p.length = l.length) {m : Nat} (hm : m ≤ 40) (h40 : l.length ≤ 40)
    (hmin : ∀ q : Nat, q < m → ∃ j, j < l.length ∧ rd p (j : Int) = (q : Int) ∧ Cl rest (rd_T47 l (j : Int)) s = true) :
    ∀ (d q : Nat), q + d = m → Ev (fun k => pianolalaw03_PunchAdded.l3 k (p ++ [(m : Int)]) m q rest (l ++ [s])) true
  | 0, q, hq => by
    refine Ev.step (f := fun _ => some true) (fun k => ?_) (Ev.now _)
    rw [pianolalaw03_PunchAdded.l3, if_neg (by omega)]
    rfl
  | d + 1, q, hq => by
    have hl : (p ++ [(m : Int)]).length = l.length + 1 := by rw [List.length_append, hp]; rfl
    have ew : wrap64 (((p ++ [(m : Int)]).length : Int) - 1) = ((l.length : Nat) : Int) := by rw [hl]; unfold wrap64; omega
    have et : (p ++ [(m : Int)]).take l.length = p := by rw [← hp]; simp
    have hg := goodp_f h (p ++ [(q : Int)]) (by simp [hp])
    have hf : planN rest (l ++ [s]) (p ++ [(q : Int)]) (p ++ [(q : Int)]).length = false := by
      rw [← Bool.not_eq_true, planN_iff]
      intro hc
      obtain ⟨j, hj, e1, e2⟩ := hmin q (by omega)
      have := hc l.length j hj (by simp [hp]) (by rw [← hp, rd_r, rd_l (by omega), e1])
      rw [rdS_r, rdS_l hj, Cl_comm, e2] at this
      cases this
    rw [hf] at hg
    refine Ev.step (f := fun k => (pianolalaw03_good.f k rest (l ++ [s]) (p ++ [(q : Int)])).bind fun t => if t = true then some false else pianolalaw03_PunchAdded.l3 k (p ++ [(m : Int)]) m ((q + 1 : Nat) : Int) rest (l ++ [s])) (fun k => ?_) (Ev.bind hg ?_)
    · rw [pianolalaw03_PunchAdded.l3, if_pos (by omega)]
      simp only [Option.bind_some]
      rw [ew, if_pos (by omega), if_pos (by omega), Int.toNat_natCast, et, if_pos (by simp; omega), if_pos (by simp; omega), w_succ q (by omega)]
      rfl
    · simp only [Bool.false_eq_true, if_false]
      exact added_l3 h hp hm h40 hmin d (q + 1) (by omega)
theorem added_end {rest s0 s1 : Int} {l : List S47} (h : Small rest l) (hl : l.length ≤ 7) (h0 : 0 ≤ s0 ∧ s0 ≤ 255) (h1 : 0 ≤ s1 ∧ s1 ≤ 255) (p : List Int) (hp : perr rest l p = 0) (x8 : List Int) (x93 : List S47) :
  Ev (fun k => pianolalaw03_PunchAdded.l2 k x8 p x93 l.length l.length s0 s1 rest l) true := by
 obtain ⟨_, h40, hpl, hpb, hpp⟩ := perr_ok hp
 have e0 : Int.tmod (wrap64 s0) 40 = s0 % 40 := by rw [show wrap64 s0 = s0 by unfold wrap64; omega, Int.tmod_eq_emod_of_nonneg h0.1]
 have e1 : wrap64 (wrap64 (s0 % 40 + 1) + Int.tmod (wrap64 s1) 12) = s0 % 40 + 1 + s1 % 12 := by
  rw [show wrap64 s1 = s1 by unfold wrap64; omega, Int.tmod_eq_emod_of_nonneg h1.1]
  unfold wrap64; omega
 obtain ⟨s, hs⟩ : ∃ s : S47, s = ⟨s0 % 40, s0 % 40 + 1 + s1 % 12⟩ := ⟨_, rfl⟩
 have hsb : 0 ≤ s.f0 ∧ s.f0 ≤ 39 ∧ s.f0 < s.f1 ∧ s.f1 ≤ 51 := by subst hs; dsimp only; omega
 have hgs : good s = true := by
  unfold good
  simp only [Bool.and_eq_true, decide_eq_true_eq]
  omega
 obtain ⟨m, em, g1, g2, g3⟩ := next_spec (rest := rest) s hpl h40
 have ha : addR rest l p s = ((m : Int), 0) := by unfold addR; rw [if_pos hp, if_pos hgs, em]
 have hs' := small_app h hsb (by omega)
 have hl' : (l ++ [s]).length = l.length + 1 := by rw [List.length_append]; rfl
 have hp' : (p ++ [(m : Int)]).length = l.length + 1 := by rw [List.length_append, hpl]; rfl
 have hN : planN rest (l ++ [s]) (p ++ [(m : Int)]) (l ++ [s]).length = true := by
  rw [planN_iff]
  intro i k hk hi e
  rw [hl'] at hi
  rw [rd_l (show k < p.length by omega)] at e
  rw [rdS_l (show k < l.length by omega)]
  rcases Nat.lt_or_ge i l.length with c | c
  ·
   rw [rd_l (by omega)] at e
   rw [rdS_l c]
   exact planN_iff.1 (show planN rest l p l.length = true from hpp) i k hk c e
  ·
   obtain rfl : i = l.length := by omega
   rw [rdS_r, Cl_comm]
   rw [← hpl, rd_r] at e
   exact g1 k hk e.symm
 have hperr : perr rest (l ++ [s]) (p ++ [(m : Int)]) = 0 := perr_small hs' (by omega) (fun x hx => by
  rcases List.mem_append.1 hx with hx | hx
  ·
   exact hpb x hx
  ·
   have := List.mem_singleton.1 hx
   omega) hN
 have hv : verR rest (l ++ [s]) (p ++ [(m : Int)]) = (passN (p ++ [(m : Int)]), 0) := by unfold verR; rw [if_pos hperr]
 have hg := goodp_f hs' (p ++ [(m : Int)]) (by omega)
 rw [hp', ← hl', hN] at hg
 refine Ev.step (f := fun k => (pianolalaw03_good.f k rest (l ++ [s]) (p ++ [(m : Int)])).bind fun t => if t = true then pianolalaw03_PunchAdded.j4 k (p ++ [(m : Int)]) m (decide ((m : Int) < 0)) rest (l ++ [s]) else pianolalaw03_PunchAdded.j4 k (p ++ [(m : Int)]) m true rest (l ++ [s])) (fun k => ?_) (Ev.bind hg ?_)
 ·
  rw [pianolalaw03_PunchAdded.l2, if_neg (by omega), e0, e1, Add_f, ← hs, ha]
  simp only [Option.bind_some]
  rw [if_pos (by simp; omega), if_pos (by simp; omega), Verify_f, hv]
  simp only [Option.bind_some, if_true]
 ·
  simp only [if_true]
  rw [decide_eq_false (show ¬ (m : Int) < 0 by omega)]
  refine Ev.step (fun k => by rw [pianolalaw03_PunchAdded.j4, if_neg (by decide)]) ?_
  exact added_l3 hs' hpl (by omega) h40 g2 m 0 (by omega)
theorem added_l2 {rest s0 s1 : Int} {l : List S47} (h : Small rest l) (hl : l.length ≤ 7) (hs : Sorted l l.length) (h0 : 0 ≤ s0 ∧ s0 ≤ 255) (h1 : 0 ≤ s1 ∧ s1 ≤ 255) :
    ∀ (m i : Nat), i + m = l.length → Ev (fun k => pianolalaw03_PunchAdded.l2 k (planL rest l) ((planL rest l).take i) l l.length i s0 s1 rest (l.take i)) true
  | 0, i, hi => by
    obtain rfl : i = l.length := by omega
    have hpl := planL_len (rest := rest) (l := l) (by omega)
    have e : (planL rest l).take l.length = planL rest l := List.take_of_length_le (by omega)
    rw [e, List.take_length]
    exact added_end h hl h0 h1 _ (plan_ok (small_chk h)) _ _
  | m + 1, i, hi => by
    have hpl := planL_len (rest := rest) (l := l) (by omega)
    obtain ⟨n1, n2⟩ := next_plan h hs (i := i) (by omega)
    have ha : addR rest (l.take i) ((planL rest l).take i) (rd_T47 l (i : Int)) = (rd (planL rest l) (i : Int), 0) := by unfold addR; rw [if_pos n1, if_pos (good_small h (by omega)), n2]
    have t1 : l.take (i + 1) = l.take i ++ [rd_T47 l (i : Int)] := by rw [List.take_succ_eq_append_getElem (by omega), rd47_at (by omega)]
    have t2 : (planL rest l).take (i + 1) = (planL rest l).take i ++ [rd (planL rest l) (i : Int)] := by rw [List.take_succ_eq_append_getElem (by omega), rd_nat (by omega)]
    have rec_ := added_l2 h hl hs h0 h1 m (i + 1) (by omega)
    rw [t1, t2] at rec_
    refine Ev.step (fun k => ?_) rec_
    have ln1 : (l.take i).length ≤ 7 := by rw [List.length_take]; omega
    have ln2 : ((planL rest l).take i).length ≤ 7 := by rw [List.length_take]; omega
    rw [pianolalaw03_PunchAdded.l2, if_pos (by omega), if_pos (by omega), if_pos (by omega), Add_f]
    show ((some (addR rest (l.take i) ((planL rest l).take i) (rd_T47 l (i : Int)))).bind _) = _
    rw [ha]
    simp only [Option.bind_some]
    rw [if_pos trivial, if_pos (by omega), if_pos trivial, if_pos (by simp; omega), if_pos (by simp; omega), w_succ i (by omega)]
theorem addedLaw_ev (a s0 s1 : Int) (l : List S82) (ha : 0 ≤ a ∧ a ≤ 255) (hu : U8l l) (h0 : 0 ≤ s0 ∧ s0 ≤ 255) (h1 : 0 ≤ s1 ∧ s1 ≤ 255) : Ev (fun k => pianolalaw03_PunchAdded.f k a l s0 s1) true := by
  unfold pianolalaw03_PunchAdded.f
  refine Ev.bind (lane_f a l ha hu) ?_
  have hs := lane_small a l ha hu
  have h7 := laneS_len l
  refine added_l0 (rest := a % 8) (n := (laneS l).length) (by omega) (fun l' g1 g2 g3 => ?_) (laneS l).length 0 (laneS l) (by omega) hs rfl (fun x y hxy hy => by omega)
  have hpl := planL_len (rest := a % 8) (l := l') (by omega)
  rw [← g2] at g3 h7 ⊢
  have rec_ := added_l2 g1 h7 g3 h0 h1 l'.length 0 (by omega)
  refine Ev.step (f := fun k => pianolalaw03_PunchAdded.j2 k (planL (a % 8) l') false s0 s1 (a % 8) l') (fun k => ?_) (Ev.step (fun k => ?_) rec_)
  · rw [pianolalaw03_PunchAdded.l0, if_neg (by omega), Passes_f]
    unfold passR
    rw [if_pos (small_chk g1), Option.bind_some, if_pos rfl, hpl]
    simp
  · rw [pianolalaw03_PunchAdded.j2, if_neg (by decide)]
    rfl
end Go.Proofs.Ytegffliopblajaa.P
namespace Go.Proofs.Ytegffliopblajaa.Pure
open P Go.Proofs.YtegffliopblajaaW.PrintWords
theorem u8_of5 {a : Int} (w : (Lit.int .u8 a).wf = true) : 0 ≤ a ∧ a ≤ 255 := by
  have h : IntKind.u8.min ≤ a ∧ a ≤ IntKind.u8.max := by simpa [Lit.wf] using w
  exact ⟨h.1, h.2⟩
theorem PunchAdded (a : Int) (l : List S82) (s0 s1 : Int) (wa : (Lit.int .u8 a).wf = true) (wl : ∀ s ∈ l, (Lit.int .u8 s.f0).wf = true ∧ (Lit.int .u8 s.f1).wf = true) (w0 : (Lit.int .u8 s0).wf = true) (w1 : (Lit.int .u8 s1).wf = true) : ∃ k, pianolalaw03_PunchAdded.f k a l s0 s1 = some true :=
  (addedLaw_ev a s0 s1 l (u8_of5 wa) (fun s hs => ⟨u8_of5 (wl s hs).1, u8_of5 (wl s hs).2⟩) (u8_of5 w0) (u8_of5 w1)).rounds
end Go.Proofs.Ytegffliopblajaa.Pure
end
