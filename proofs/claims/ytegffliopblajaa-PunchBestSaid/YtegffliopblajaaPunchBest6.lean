/- Words and contracts for a claim. -/
import Derived.Test.YtegffliopblajaaPunchBest5

section
namespace Go.Proofs.Ytegffliopblajaa.P
open Go.RowKit Go.Proofs.YtegffliopblajaaW.PrintWords Go.Proofs.YtegffliopblajaaW.PrintLast Go.Proofs.YtegffliopblajaaW.PrintMore
set_option linter.unusedVariables false
set_option linter.unusedSimpArgs false
theorem rd_nat {xs : List Int} {a : Nat} (h : a < xs.length) : rd xs (a : Int) = xs[a] := by
  unfold rd
  rw [List.getD_eq_getElem?_getD, Int.toNat_natCast, List.getElem?_eq_getElem h]; rfl
theorem rd_l {xs : List Int} {y : Int} {a : Nat} (h : a < xs.length) : rd (xs ++ [y]) (a : Int) = rd xs (a : Int) := by
  rw [rd_nat (by rw [List.length_append]; omega), rd_nat h, List.getElem_append_left h]
theorem rd_r (xs : List Int) (y : Int) : rd (xs ++ [y]) (xs.length : Int) = y := by
  rw [rd_nat (by rw [List.length_append]; simp)]; simp
structure Rel (g : List Int) (M u : Int) (pl : List Int) (φ : Int → Int) : Prop where
  at_ : ∀ a : Nat, a < pl.length → 0 ≤ rd pl (a : Int) ∧ rd pl (a : Int) < u ∧ rd g (a : Int) = φ (rd pl (a : Int))
  inj : ∀ c d : Int, 0 ≤ c → c < u → 0 ≤ d → d < u → φ c = φ d → c = d
  to_ : ∀ c : Int, 0 ≤ c → c < u → 0 ≤ φ c ∧ φ c < M
theorem rel_le {g : List Int} {M u : Int} {pl : List Int} {φ : Int → Int} (h : Rel g M u pl φ) (hu : 0 ≤ u) (hM : 0 ≤ M) : u ≤ M := by
  have := nodup_bound M.toNat ((List.range u.toNat).map fun c : Nat => φ c) (by
    unfold List.Nodup
    rw [List.pairwise_map]
    refine List.Pairwise.imp_of_mem (fun {a b} ha hb hab e => ?_) List.nodup_range
    have ha := List.mem_range.1 ha
    have hb := List.mem_range.1 hb
    have := h.inj a b (by omega) (by omega) (by omega) (by omega) e
    exact hab (by omega)) (fun x hx => by
    obtain ⟨c, hc, rfl⟩ := List.mem_map.1 hx
    have hc := List.mem_range.1 hc
    have := h.to_ c (by omega) (by omega)
    omega)
  rw [List.length_map, List.length_range] at this
  omega
theorem rel_next {rest : Int} {l : List S47} {g : List Int} {M u : Int} {pl : List Int} {φ : Int → Int} (h : Rel g M u pl φ) (hu : 0 ≤ u) (hi : pl.length < l.length)
    (hg : planN rest l g l.length = true) (hb : ∀ a : Nat, a < l.length → 0 ≤ rd g (a : Int) ∧ rd g (a : Int) < M) :
    ∃ (p : Nat) (ψ : Int → Int), (p : Int) ≤ u ∧ Rel g M (max u (p + 1)) (pl ++ [(p : Int)]) ψ ∧ planN rest l (pl ++ [(p : Int)]) (pl.length + 1) = true := by
  have key : ∀ (u' : Int) (q : List Int) (ψ : Int → Int), Rel g M u' q ψ → q.length ≤ l.length → planN rest l q q.length = true := fun u' q ψ hr hq => by
    rw [planN_iff] at hg ⊢
    intro i k hk hi e
    exact hg i k hk (by omega) (by rw [(hr.at_ i hi).2.2, (hr.at_ k (by omega)).2.2, e])
  have fin : ∀ (p : Nat) (ψ : Int → Int), (p : Int) ≤ u → Rel g M (max u (p + 1)) (pl ++ [(p : Int)]) ψ → ∃ (p : Nat) (ψ : Int → Int), (p : Int) ≤ u ∧ Rel g M (max u (p + 1)) (pl ++ [(p : Int)]) ψ ∧ planN rest l (pl ++ [(p : Int)]) (pl.length + 1) = true := fun p ψ hp hr => by
    refine ⟨p, ψ, hp, hr, ?_⟩
    have := key _ _ _ hr (by rw [List.length_append]; simp; omega)
    rw [List.length_append] at this
    exact this
  by_cases c : ∃ c : Int, 0 ≤ c ∧ c < u ∧ φ c = rd g (pl.length : Int)
  · obtain ⟨c, h0, h1, e⟩ := c
    have ec : ((c.toNat : Nat) : Int) = c := by omega
    refine fin c.toNat φ (by omega) ?_
    rw [ec, show max u (c + 1) = u by omega]
    refine ⟨fun a ha => ?_, h.inj, h.to_⟩
    rw [List.length_append] at ha
    rcases Nat.lt_or_ge a pl.length with h2 | h2
    · rw [rd_l h2]; exact h.at_ a h2
    · obtain rfl : a = pl.length := by simp at ha; omega
      rw [rd_r]; exact ⟨h0, h1, e.symm⟩
  · have ec : ((u.toNat : Nat) : Int) = u := by omega
    refine fin u.toNat (fun c => if c = u then rd g (pl.length : Int) else φ c) (by omega) ?_
    rw [ec, show max u (u + 1) = u + 1 by omega]
    refine ⟨fun a ha => ?_, fun x y hx0 hx1 hy0 hy1 e => ?_, fun x hx0 hx1 => ?_⟩
    · rw [List.length_append] at ha
      rcases Nat.lt_or_ge a pl.length with h2 | h2
      · rw [rd_l h2]
        have := h.at_ a h2
        rw [if_neg (by omega)]
        exact ⟨this.1, by omega, this.2.2⟩
      · obtain rfl : a = pl.length := by simp at ha; omega
        rw [rd_r, if_pos rfl]; exact ⟨hu, by omega, rfl⟩
    · skip
      by_cases e1 : x = u
      · by_cases e2 : y = u
        · omega
        · rw [if_pos e1, if_neg e2] at e
          exact absurd ⟨y, hy0, by omega, e.symm⟩ c
      · by_cases e2 : y = u
        · rw [if_neg e1, if_pos e2] at e
          exact absurd ⟨x, hx0, by omega, e⟩ c
        · rw [if_neg e1, if_neg e2] at e
          exact h.inj x y hx0 (by omega) hy0 (by omega) e
    · skip
      by_cases e1 : x = u
      · rw [if_pos e1]; exact hb _ hi
      · rw [if_neg e1]; exact h.to_ x hx0 (by omega)
theorem few_l0 {rest : Int} {l : List S47} (h : Small rest l) (N M : Int) {u : Int} {pl : List Int} {R : Prop} (p0 : Nat) (hu : 0 ≤ u) (hul : u ≤ pl.length) (hi : pl.length < l.length)
  (hR : R → (p0 : Int) ≤ u ∧ u ≤ M ∧ planN rest l (pl ++ [(p0 : Int)]) (pl.length + 1) = true)
  (ih : ∀ p : Nat, (p : Int) ≤ u → planN rest l (pl ++ [(p : Int)]) (pl.length + 1) = true → ∃ v, Ev (fun k => pianolalaw03_fewest.f k rest l (pl ++ [(p : Int)]) (max u (p + 1))) v ∧ N ≤ v ∧ (R → p = p0 → v ≤ M)) :
  ∀ (m p : Nat) (b : Int), (p : Int) + m = u + 1 → N ≤ b → (R → p0 < p → b ≤ M) → ∃ v, Ev (fun k => pianolalaw03_fewest.l0 k pl u b p rest l) v ∧ N ≤ v ∧ (R → v ≤ M)
 | m, p, b, hp, hb, hx => by
  have h40 := h.2.2.1
  by_cases c : (p : Int) ≤ u ∧ (p : Int) < b
  ·
   obtain ⟨c1, c2⟩ := c
   obtain ⟨m, rfl⟩ : ∃ m', m = m' + 1 := ⟨m - 1, by omega⟩
   have e : ∀ k, pianolalaw03_fewest.l0 (k + 1) pl u b p rest l = pianolalaw03_fewest.j1 k pl u b p true rest l := fun k => by
    rw [pianolalaw03_fewest.l0, if_pos c1, decide_eq_true c2]
   have e2 : ∀ k, pianolalaw03_fewest.j1 (k + 1) pl u b p true rest l = ((pianolalaw03_good.f k rest l (pl ++ [(p : Int)])).bind fun t => if t = true then ((pianolalaw03_fewest.f k rest l (pl ++ [(p : Int)]) (max u (p + 1))).bind fun t => pianolalaw03_fewest.l0 k pl u (mn b t) ((p + 1 : Nat) : Int) rest l) else pianolalaw03_fewest.l0 k pl u b ((p + 1 : Nat) : Int) rest l) := fun k => by
    rw [pianolalaw03_fewest.j1, if_pos rfl, Option.bind_some, if_pos (by simp; omega), Option.bind_some, if_pos (by simp; omega), Option.bind_some, w_succ p (by omega), mx_max]
    rfl
   have hlen : (pl ++ [(p : Int)]).length = pl.length + 1 := by rw [List.length_append]; rfl
   have hgood := goodp_f h (pl ++ [(p : Int)]) (by omega)
   rw [hlen] at hgood
   cases hc : planN rest l (pl ++ [(p : Int)]) (pl.length + 1) with
   | true =>
    obtain ⟨v, hv, h1, h2⟩ := ih p c1 hc
    obtain ⟨r, hr, h3, h4⟩ := few_l0 h N M p0 hu hul hi hR ih m (p + 1) (mn b v) (by omega) (by unfold mn; omega) (fun hr hlt => by
     rcases Nat.lt_or_ge p0 p with h5 | h5
     ·
      have := hx hr h5
      unfold mn; omega
     ·
      have := h2 hr (by omega)
      unfold mn; omega)
    refine ⟨r, Ev.step e (Ev.step e2 ?_), h3, h4⟩
    rw [hc] at hgood
    refine Ev.bind hgood ?_
    simp only [if_true]
    exact Ev.bind hv hr
   | false =>
    obtain ⟨r, hr, h3, h4⟩ := few_l0 h N M p0 hu hul hi hR ih m (p + 1) b (by omega) hb (fun hr hlt => by
     rcases Nat.lt_or_ge p0 p with h5 | h5
     ·
      exact hx hr h5
     ·
      obtain rfl : p0 = p := by omega
      have := (hR hr).2.2
      rw [hc] at this; cases this)
    refine ⟨r, Ev.step e (Ev.step e2 ?_), h3, h4⟩
    rw [hc] at hgood
    refine Ev.bind hgood ?_
    simp only [Bool.false_eq_true, if_false]
    exact hr
  ·
   have e : ∀ k, pianolalaw03_fewest.l0 (k + 1) pl u b p rest l = pianolalaw03_fewest.j1 k pl u b p false rest l := fun k => by
    rw [pianolalaw03_fewest.l0]
    by_cases c1 : (p : Int) ≤ u
    ·
     rw [if_pos c1, decide_eq_false (fun c2 => c ⟨c1, c2⟩)]
    ·
     rw [if_neg c1]
   refine ⟨b, Ev.step e (Ev.step (f := fun _ => some b) (fun k => by rw [pianolalaw03_fewest.j1, if_neg (by decide)]) (Ev.now _)), hb, fun hr => ?_⟩
   have := hR hr
   by_cases c1 : p0 < p
   ·
    exact hx hr c1
   ·
    have : ¬ (p : Int) < b := fun c2 => c ⟨by omega, c2⟩
    omega
theorem few {rest : Int} {l : List S47} (h : Small rest l) (N M : Int) (g : List Int) (hM : 0 ≤ M) (hNl : N ≤ l.length)
    (hN : ∀ (pl : List Int) (u : Int), pl.length = l.length → planN rest l pl l.length = true → (∀ x ∈ pl, 0 ≤ x ∧ x < u) → 0 ≤ u → u ≤ l.length → N ≤ u)
    (hg : planN rest l g l.length = true) (hb : ∀ a : Nat, a < l.length → 0 ≤ rd g (a : Int) ∧ rd g (a : Int) < M) :
    ∀ (d : Nat) (pl : List Int) (u : Int), pl.length + d = l.length → (∀ x ∈ pl, 0 ≤ x ∧ x < u) → planN rest l pl pl.length = true → 0 ≤ u → u ≤ pl.length → ∃ v, Ev (fun k => pianolalaw03_fewest.f k rest l pl u) v ∧ N ≤ v ∧ ((∃ φ, Rel g M u pl φ) → v ≤ M)
  | 0, pl, u, hd, hp, hpl, hu, hul => by
    refine ⟨u, Ev.step (f := fun _ => some u) (fun k => ?_) (Ev.now _), hN pl u (by omega) (by rw [show l.length = pl.length by omega]; exact hpl) hp hu (by omega), fun ⟨φ, hr⟩ => rel_le hr hu hM⟩
    rw [pianolalaw03_fewest.f, if_pos (by omega)]
  | d + 1, pl, u, hd, hp, hpl, hu, hul => by
    have go : ∀ (p0 : Nat) (hR : (∃ φ, Rel g M u pl φ) → (p0 : Int) ≤ u ∧ u ≤ M ∧ planN rest l (pl ++ [(p0 : Int)]) (pl.length + 1) = true) (hn : (∃ φ, Rel g M u pl φ) → ∃ ψ, Rel g M (max u (p0 + 1)) (pl ++ [(p0 : Int)]) ψ), ∃ v, Ev (fun k => pianolalaw03_fewest.f k rest l pl u) v ∧ N ≤ v ∧ ((∃ φ, Rel g M u pl φ) → v ≤ M) := fun p0 hR hn => by
      obtain ⟨v, h1, h2, h3⟩ := few_l0 h N M (R := ∃ φ, Rel g M u pl φ) p0 hu hul (by omega) hR (fun p hpu hc => by
        obtain ⟨v, h1, h2, h3⟩ := few h N M g hM hNl hN hg hb d (pl ++ [(p : Int)]) (max u (p + 1)) (by rw [List.length_append]; simp; omega) (fun x hx => by
          rcases List.mem_append.1 hx with hx | hx
          · have := hp x hx; omega
          · have : x = p := List.mem_singleton.1 hx
            omega) (by rw [List.length_append]; exact hc) (by omega) (by rw [List.length_append]; simp; omega)
        exact ⟨v, h1, h2, fun hr e => h3 (by subst e; exact hn hr)⟩) (u + 1).toNat 0 l.length (by omega) hNl (fun _ h => by omega)
      refine ⟨v, Ev.step (fun k => ?_) h1, h2, h3⟩
      rw [pianolalaw03_fewest.f, if_neg (by omega)]
      rfl
    by_cases c : ∃ φ, Rel g M u pl φ
    · obtain ⟨φ, hr⟩ := c
      obtain ⟨p0, ψ, h1, h2, h3⟩ := rel_next hr hu (by omega) hg hb
      exact go p0 (fun _ => ⟨h1, rel_le hr hu hM, h3⟩) (fun _ => ⟨ψ, h2⟩)
    · exact go 0 (fun hr => absurd hr c) (fun hr => absurd hr c)
end Go.Proofs.Ytegffliopblajaa.P
end
section
namespace Go.Proofs.Ytegffliopblajaa.P
open Go.RowKit Go.Proofs.YtegffliopblajaaW.PrintWords Go.Proofs.YtegffliopblajaaW.PrintLast Go.Proofs.YtegffliopblajaaW.PrintMore
set_option linter.unusedVariables false
set_option linter.unusedSimpArgs false
theorem max_of (f : Int → Int) : ∀ L : List Int, L ≠ [] → ∃ x ∈ L, ∀ y ∈ L, f y ≤ f x
  | [], h => absurd rfl h
  | [a], _ => ⟨a, List.mem_cons_self, fun y hy => by rw [List.mem_singleton.1 hy]; exact Int.le_refl _⟩
  | a :: b :: L, _ => by
    obtain ⟨x, hx, h⟩ := max_of f (b :: L) (by simp)
    by_cases c : f x ≤ f a
    · refine ⟨a, List.mem_cons_self, fun y hy => ?_⟩
      rcases List.mem_cons.1 hy with rfl | hy
      · exact Int.le_refl _
      · exact Int.le_trans (h y hy) c
    · refine ⟨x, List.mem_cons_of_mem _ hx, fun y hy => ?_⟩
      rcases List.mem_cons.1 hy with rfl | hy
      · omega
      · exact h y hy
theorem first_most {rest : Int} {l : List S47} (h : Small rest l) (hN : (mostL rest l).2 ≠ 0) {t : Int} (ht : t < (mostL rest l).1) : cntAt rest l t < (mostL rest l).2 := by
  obtain ⟨h0, h1, h2⟩ := mostL_spec rest l
  have hc := small_chk h
  obtain ⟨g0, g1, hg⟩ := chk_good hc
  rcases h2 with h2 | ⟨h2, h3, h4⟩
  · exact absurd h2 hN
  · by_cases e : crowdL rest t l = []
    · unfold cntAt; rw [e]; show (0 : Int) < _; omega
    · obtain ⟨x, hx, hm⟩ := max_of (fun i => (rd_T47 l i).f0) _ e
      obtain ⟨i, hi, rfl, hb⟩ := mem_crowd.1 hx
      have hgi := hg i hi
      rw [inB_iff g0 g1 (by omega) hgi.2.2] at hb
      have h5 := h4 _ (mem_f0 hi) (by omega)
      refine Int.lt_of_le_of_lt ?_ h5
      unfold cntAt crowdL crowdTo
      rw [List.length_map, List.length_map, ← List.countP_eq_length_filter, ← List.countP_eq_length_filter]
      refine Int.ofNat_le.2 (List.countP_mono_left fun j hj hj' => ?_)
      have hj := List.mem_range.1 hj
      have hgj := hg j hj
      have h6 := hm _ (mem_crowd.2 ⟨j, hj, rfl, hj'⟩)
      rw [inB_iff g0 g1 (by omega) hgj.2.2] at hj' ⊢
      omega
theorem best_l0 {rest : Int} {l : List S47} (h : Small rest l) (hN : (mostL rest l).2 ≠ 0) : ∀ (m t : Nat), t + m = 70 → Ev (fun k => pianolalaw03_PunchBest.l0 k (mostL rest l).2 (mostL rest l).1 t rest l) true
  | 0, t, ht => by
    have hc := small_chk h
    refine Ev.step (f := fun _ => some true) (fun k => ?_) (Ev.now _)
    obtain ⟨h0, h1, h2⟩ := mostL_spec rest l
    rcases h2 with h2 | ⟨h2, _⟩
    · exact absurd h2 hN
    · obtain ⟨i, hi, e⟩ := f0_mem h2
      have := h.2.2.2 i hi
      rw [pianolalaw03_PunchBest.l0, if_neg (by omega), if_pos (by omega), if_pos (by omega)]
      rfl
  | m + 1, t, ht => by
    have hc := small_chk h
    have hle : ((crowdL rest t l).length : Int) ≤ (mostL rest l).2 := by rw [← pass_most hc]; exact crowd_le (plan_ok hc) t
    refine Ev.step (fun k => ?_) (best_l0 h hN m (t + 1) (by omega))
    rw [pianolalaw03_PunchBest.l0, if_pos (by omega), Crowd_f, Option.bind_some, w_succ t (by omega)]
    unfold crowdR
    rw [if_pos hc, if_pos rfl, if_neg (by dsimp only; omega)]
    by_cases c1 : ((crowdL rest t l).length : Int) = (mostL rest l).2
    · rw [if_pos c1, if_neg (fun c => by
        have := first_most h hN c
        unfold cntAt at this
        omega)]
      split <;> rfl
    · rw [if_neg c1, if_neg (fun c => by
        obtain ⟨_, _, h2⟩ := mostL_spec rest l
        rcases h2 with h2 | ⟨_, h3, _⟩
        · exact hN h2
        · rw [← c] at h3; exact c1 h3)]
theorem fewest_best {rest : Int} {l : List S47} (h : Small rest l) : Ev (fun k => pianolalaw03_fewest.f k rest l [] 0) (passN (planL rest l)) := by
  have hc := small_chk h
  have hp := perr_ok (plan_ok hc)
  have hnn := passN_nonneg (planL rest l)
  obtain ⟨v, h1, h2, h3⟩ := few h (passN (planL rest l)) (passN (planL rest l)) (planL rest l) hnn (by
      rcases passN_of (planL rest l) with e | ⟨x, hx, e⟩
      · omega
      · obtain ⟨r, hr, rfl⟩ := planL_mem rest l hp.2.1 hx
        have := col_le rest l hp.2.1 hr
        omega) (fun pl u hl hpl hx hu0 hul => by
      have he : perr rest l pl = 0 := by
        unfold perr
        have h40 := h.2.2.1
        rw [if_pos hc, if_pos hl, if_neg, if_pos (show planB rest l pl = true from hpl)]
        rw [Bool.not_eq_true, List.any_eq_false]
        intro x hx'
        have := hx x hx'
        rw [noPass_iff.2 ⟨this.1, by omega⟩]; decide
      have hu : passN pl ≤ u := by
        rcases passN_of pl with e | ⟨x, hx', e⟩
        · omega
        · have := hx x hx'; omega
      rw [pass_most hc]
      obtain ⟨_, _, h5⟩ := mostL_spec rest l
      rcases h5 with h5 | ⟨_, h5, _⟩
      · omega
      · have := crowd_le he (mostL rest l).1
        omega) hp.2.2.2.2 (fun a ha => by
      have hal : a < (planL rest l).length := by rw [hp.2.2.1]; exact ha
      rw [rd_nat hal]
      have := passN_le (List.getElem_mem hal)
      have := hp.2.2.2.1 _ (List.getElem_mem hal)
      omega) l.length [] 0 (by simp) (fun x hx => by cases hx) rfl (Int.le_refl _) (by simp)
  have := h3 ⟨fun x => x, ⟨fun a ha => by simp at ha, fun c d _ _ _ _ e => e, fun c h0 h1 => by omega⟩⟩
  have e : passN (planL rest l) = v := by omega
  rw [e]; exact h1
theorem bestLaw_ev (a : Int) (l : List S82) (ha : 0 ≤ a ∧ a ≤ 255) (hu : U8l l) : Ev (fun k => pianolalaw03_PunchBest.f k a l) true := by
  have h := lane_small a l ha hu
  have hc := small_chk h
  have hp := perr_ok (plan_ok hc)
  unfold pianolalaw03_PunchBest.f
  refine Ev.bind (lane_f a l ha hu) ?_
  dsimp only
  simp only [Passes_f, Prove_f, Verify_f, Option.bind_some]
  unfold passR proveR verR
  simp only [if_pos hc, if_pos (plan_ok hc), if_true, if_pos (show ((planL (a % 8) (laneS l)).length : Int) = ((laneS l).length : Int) by rw [hp.2.2.1])]
  have hg := goodp_f h (planL (a % 8) (laneS l)) (by rw [hp.2.2.1]; exact Nat.le_refl _)
  rw [hp.2.2.1, show planN (a % 8) (laneS l) (planL (a % 8) (laneS l)) (laneS l).length = true from hp.2.2.2.2] at hg
  refine Ev.bind hg ?_
  simp only [if_true]
  refine Ev.bind (fewest_best h) ?_
  refine Ev.step (f := fun k => if passN (planL (a % 8) (laneS l)) = 0 then some true else pianolalaw03_PunchBest.l0 k (mostL (a % 8) (laneS l)).2 (mostL (a % 8) (laneS l)).1 0 (a % 8) (laneS l)) (fun k => ?_) ?_
  · rw [pianolalaw03_PunchBest.j0, if_neg (by simp)]
    by_cases c : passN (planL (a % 8) (laneS l)) = 0
    · rw [if_pos c, if_pos c]
      rw [if_pos (by rw [pass_most hc] at c; rw [if_pos c]), if_pos (by
        have : (laneS l).length = 0 := by
          rw [← hp.2.2.1]
          rcases hpl : planL (a % 8) (laneS l) with _ | ⟨x, xs⟩
          · rfl
          · have h1 : x ∈ planL (a % 8) (laneS l) := by rw [hpl]; exact List.mem_cons_self
            have h2 := passN_le h1
            have h3 := hp.2.2.2.1 x h1
            omega
        omega)]
      rfl
    · rw [if_neg c, if_neg c]
      have c' : ¬ (mostL (a % 8) (laneS l)).2 = 0 := by rw [← pass_most hc]; exact c
      rw [if_pos (by rw [if_neg c']), if_neg c', pass_most hc]
  · by_cases c : passN (planL (a % 8) (laneS l)) = 0
    · simp only [if_pos c]; exact Ev.now _
    · simp only [if_neg c]
      exact best_l0 h (by rw [← pass_most hc]; exact c) 70 0 rfl
end Go.Proofs.Ytegffliopblajaa.P
namespace Go.Proofs.Ytegffliopblajaa.Pure
open P Go.Proofs.YtegffliopblajaaW.PrintWords
theorem u8_of {a : Int} (w : (Lit.int .u8 a).wf = true) : 0 ≤ a ∧ a ≤ 255 := by
  have h : IntKind.u8.min ≤ a ∧ a ≤ IntKind.u8.max := by simpa [Lit.wf] using w
  exact ⟨h.1, h.2⟩
theorem PunchBest (a : Int) (l : List S82) (wa : (Lit.int .u8 a).wf = true) (wl : ∀ s ∈ l, (Lit.int .u8 s.f0).wf = true ∧ (Lit.int .u8 s.f1).wf = true) : ∃ k, pianolalaw03_PunchBest.f k a l = some true := (bestLaw_ev a l (u8_of wa) (fun s hs => ⟨u8_of (wl s hs).1, u8_of (wl s hs).2⟩)).rounds
end Go.Proofs.Ytegffliopblajaa.Pure
end
