/- Words and contracts for a claim. -/
import Derived.Test.YtpfkfbbekfkcgaaVaultOrder4

section
namespace Go.Proofs.Ytpfkfbbekfkcgaa.P
open Go.RowKit Go.Proofs.YtpfkfbbekfkcgaaW.PrintWords Go.Proofs.YtpfkfbbekfkcgaaW.PrintLast Go.Proofs.YtpfkfbbekfkcgaaW.PrintMore
set_option linter.unusedVariables false
set_option linter.unusedSimpArgs false
theorem zipF_nil (F : Int → Int → Int) : zipF F [] [] = [] := rfl
theorem zipF_cons (F : Int → Int → Int) (a b : Int) (p q : List Int) : zipF F (a :: p) (b :: q) = F a b :: zipF F p q := by
  unfold zipF
  rw [List.length_cons, List.length_cons, Nat.succ_max_succ, List.range_succ_eq_map, List.map_cons, List.map_map]
  rfl
theorem zipF_left (F : Int → Int → Int) (a : Int) (p : List Int) : zipF F (a :: p) [] = F a 0 :: zipF F p [] := by
  unfold zipF
  rw [List.length_cons, List.length_nil, Nat.max_eq_left (Nat.zero_le _), Nat.max_eq_left (Nat.zero_le _), List.range_succ_eq_map, List.map_cons, List.map_map]
  rfl
theorem zipF_right (F : Int → Int → Int) (b : Int) (q : List Int) : zipF F [] (b :: q) = F 0 b :: zipF F [] q := by
  unfold zipF
  rw [List.length_cons, List.length_nil, Nat.max_eq_right (Nat.zero_le _), Nat.max_eq_right (Nat.zero_le _), List.range_succ_eq_map, List.map_cons, List.map_map]
  rfl
theorem eF_add : ∀ (p q : List Int) (x : K251), eF ((zipF addF p q).map fk) x = eF (p.map fk) x + eF (q.map fk) x
  | [], [], x => by rw [zipF_nil]; simp only [List.map_nil, eF]; grind
  | a :: p, [], x => by
    have ih := eF_add p [] x
    rw [zipF_left]
    simp only [List.map_cons, List.map_nil, eF, addF] at ih ⊢
    rw [ih, fk_mod, fk_add, fk_zero]
    grind
  | [], b :: q, x => by
    have ih := eF_add [] q x
    rw [zipF_right]
    simp only [List.map_cons, List.map_nil, eF, addF] at ih ⊢
    rw [ih, fk_mod, fk_add, fk_zero]
    grind
  | a :: p, b :: q, x => by
    have ih := eF_add p q x
    rw [zipF_cons]
    simp only [List.map_cons, eF, addF] at ih ⊢
    rw [ih, fk_mod, fk_add]
    grind
theorem eF_subF : ∀ (p q : List Int) (x : K251), eF ((zipF subF p q).map fk) x = eF (p.map fk) x - eF (q.map fk) x
  | [], [], x => by rw [zipF_nil]; simp only [List.map_nil, eF]; grind
  | a :: p, [], x => by
    have ih := eF_subF p [] x
    rw [zipF_left]
    simp only [List.map_cons, List.map_nil, eF, subF] at ih ⊢
    rw [ih, fk_mod, fk_sub, fk_zero]
    grind
  | [], b :: q, x => by
    have ih := eF_subF [] q x
    rw [zipF_right]
    simp only [List.map_cons, List.map_nil, eF, subF] at ih ⊢
    rw [ih, fk_mod, fk_sub, fk_zero]
    grind
  | a :: p, b :: q, x => by
    have ih := eF_subF p q x
    rw [zipF_cons]
    simp only [List.map_cons, eF, subF] at ih ⊢
    rw [ih, fk_mod, fk_sub]
    grind
theorem eF_scale (a : Int) (x : K251) : ∀ p : List Int, eF ((scale p a).map fk) x = fk a * eF (p.map fk) x
  | [] => by simp only [scale, List.map_nil, eF]; grind
  | c :: p => by
    have ih := eF_scale a x p
    simp only [scale, List.map_cons, eF] at ih ⊢
    rw [ih, fk_mod, fk_mul]
    grind
def prodK (l : List S61) (x : K251) : K251 := l.foldl (fun v s => v * (x - fk s.f0)) 1
theorem prodK_snoc (l : List S61) (a : S61) (x : K251) : prodK (l ++ [a]) x = prodK l x * (x - fk a.f0) := by
  unfold prodK
  rw [List.foldl_append]; rfl
theorem zero_mul' (a b : K251) (h : a = 0) : a * b = 0 := by subst h; grind
theorem prodK_zero {a : S61} {l : List S61} : a ∈ l → prodK l (fk a.f0) = 0 := by
  refine snoc_ind (P := fun l => a ∈ l → prodK l (fk a.f0) = 0) (fun h => by cases h) ?_ l
  intro l b ih h
  rw [prodK_snoc]
  rcases List.mem_append.1 h with h | h
  · exact zero_mul' _ _ (ih h)
  · rw [List.mem_singleton] at h
    subst h
    grind
theorem prodK_ne {x : K251} {l : List S61} : (∀ a ∈ l, x ≠ fk a.f0) → prodK l x ≠ 0 := by
  refine snoc_ind (P := fun l => (∀ a ∈ l, x ≠ fk a.f0) → prodK l x ≠ 0) (fun _ => show (1 : K251) ≠ 0 by decide) ?_ l
  intro l b ih h e
  rw [prodK_snoc] at e
  have h1 := ih (fun a ha => h a (List.mem_append_left _ ha))
  have h2 := mul_zero' e h1
  exact h b (List.mem_append_right _ (List.mem_singleton_self b)) (by grind)
theorem solved_two (l : List S61) (x : K251) : eF ((solved l).2.map fk) x = prodK l x := by
  refine snoc_ind (P := fun l => eF ((solved l).2.map fk) x = prodK l x) ?_ ?_ l
  · show eF ([1].map fk) x = 1
    simp only [List.map_cons, List.map_nil, eF, fk_one]
    grind
  · intro l a ih
    rw [solved_snoc, prodK_snoc]
    show eF ((zipF subF (0 :: (solved l).2) (scale (solved l).2 a.f0)).map fk) x = _
    rw [eF_subF, eF_scale, List.map_cons]
    simp only [eF, fk_zero]
    rw [ih]
    grind
theorem solved_len (l : List S61) : (solved l).1.length = l.length := by
  refine snoc_ind (P := fun l => (solved l).1.length = l.length) rfl ?_ l
  intro l a ih
  rw [solved_snoc]
  have h2 := (solved_in l).2.2.2
  simp only [solveStep, zipF_len, scale_len, List.length_append, List.length_singleton, ih, h2]
  omega
theorem solved_at (l : List S61) : KD l → ∀ a ∈ l, eF ((solved l).1.map fk) (fk a.f0) = fk a.f1 := by
  refine snoc_ind (P := fun l => KD l → ∀ a ∈ l, eF ((solved l).1.map fk) (fk a.f0) = fk a.f1) (fun _ a h => by cases h) ?_ l
  intro l b ih hk a ha
  have hl : KD l := hk.sub (List.sublist_append_left _ _)
  rw [solved_snoc]
  show eF ((zipF addF (solved l).1 (scale (solved l).2 _)).map fk) _ = _
  rw [eF_add, eF_scale, solved_two]
  rcases List.mem_append.1 ha with ha | ha
  · rw [ih hl a ha, prodK_zero ha]
    grind
  · rw [List.mem_singleton] at ha
    subst ha
    have hne : prodK l (fk a.f0) ≠ 0 := prodK_ne (fun c hc => by
      have hn := hk.nd
      rw [List.map_append, List.nodup_append] at hn
      exact fk_ne (hk.k a (by simp)) (hk.k c (by simp [hc])) (fun e => hn.2.2 c.f0 (List.mem_map_of_mem hc) a.f0 (by simp) e.symm))
    have h2 := inv_ex _ hne
    rw [fk_mod, fk_mul, fk_mod, fk_sub, fk_inv (ev_in _ _), fk_ev, fk_ev, solved_two]
    grind
def Fit (n : Nat) (l : List S61) : Prop := ∃ p : List K251, p.length = n ∧ ∀ a ∈ l, eF p (fk a.f0) = fk a.f1
theorem Fit.mono {n : Nat} {l m : List S61} (h : Fit n l) (hm : ∀ a ∈ m, a ∈ l) : Fit n m :=
  let ⟨p, hp, ha⟩ := h
  ⟨p, hp, fun a h => ha a (hm a h)⟩
theorem fit_unique {l : List S61} (h : KD l) {p q : List K251} (hp : p.length = q.length) (hl : p.length ≤ l.length)
    (h1 : ∀ a ∈ l, eF p (fk a.f0) = fk a.f1) (h2 : ∀ a ∈ l, eF q (fk a.f0) = fk a.f1) : p = q := by
  refine uniqueF p q (places l) hp (by simpa [places] using hl) (places_nd h) (fun x hx => ?_)
  obtain ⟨a, ha, rfl⟩ := List.mem_map.1 hx
  rw [h1 a ha, h2 a ha]
theorem all_fk {p q : List Int} (hp : all251 p) (hq : all251 q) (h : p.map fk = q.map fk) : p = q := by
  induction p generalizing q with
  | nil =>
    cases q with
    | nil => rfl
    | cons b q => simp at h
  | cons a p ih =>
    cases q with
    | nil => simp at h
    | cons b q =>
      simp only [List.map_cons, List.cons.injEq] at h
      have ha := hp a (by simp)
      have hb := hq b (by simp)
      rw [fk_inj ha.1 ha.2 hb.1 hb.2 h.1, ih (fun x hx => hp x (by simp [hx])) (fun x hx => hq x (by simp [hx])) h.2]
theorem agreeB_fit {n : Nat} {l : List S61} (h : KD l) : agreeB n l = true ↔ Fit n l := by
  unfold agreeB
  by_cases c : (l.length : Int) ≤ n
  · rw [if_pos c]
    obtain ⟨p, hp, he⟩ := lag_list l n (by omega)
    exact ⟨fun _ => ⟨p, hp, fun a ha => by rw [he, lagF_at h ha]⟩, fun _ => rfl⟩
  · rw [if_neg c, show (n : Int).toNat = n by omega]
    have ht : KD (l.take n) := h.sub (List.take_sublist _ _)
    obtain ⟨p, hp, he⟩ := lag_list (l.take n) n (by rw [List.length_take]; omega)
    have hlie : lieS (l.take n) (l.drop n) = true ↔ ∀ s ∈ l.drop n, lag (l.take n) s.f0 = s.f1 := by
      unfold lieS
      simp
    rw [hlie]
    constructor
    · intro hd
      refine ⟨p, hp, fun a ha => ?_⟩
      rw [he]
      rw [← List.take_append_drop n l] at ha
      rcases List.mem_append.1 ha with ha | ha
      · exact lagF_at ht ha
      · rw [← fk_lag, hd a ha]
    · rintro ⟨q, hq, hqa⟩ s hs
      have e : p = q := fit_unique ht (by omega) (by rw [List.length_take]; omega) (fun a ha => by rw [he, lagF_at ht ha]) (fun a ha => hqa a (List.mem_of_mem_take ha))
      have hs' := List.mem_of_mem_drop hs
      have h1 := hqa s hs'
      rw [← e, he, ← fk_lag] at h1
      have hv := h.v s hs'
      exact fk_inj (lag_in _ _).1 (lag_in _ _).2 hv.1 hv.2 h1
theorem ev_eq {p : List Int} {s : S61} (hv : F251 s.f1) : ev p s.f0 = s.f1 ↔ eF (p.map fk) (fk s.f0) = fk s.f1 := by
  rw [← fk_ev]
  exact ⟨fun e => by rw [e], fun e => fk_inj (ev_in _ _).1 (ev_in _ _).2 hv.1 hv.2 e⟩
theorem lieP_iff {p : List Int} {l : List S61} (h : ∀ s ∈ l, F251 s.f1) : lieP p l = true ↔ ∀ s ∈ l, eF (p.map fk) (fk s.f0) = fk s.f1 := by
  unfold lieP
  simp only [Bool.not_eq_true', List.any_eq_false, bne_iff_ne, ne_eq, Decidable.not_not]
  exact ⟨fun hh s hs => (ev_eq (h s hs)).1 (hh s hs), fun hh s hs => (ev_eq (h s hs)).2 (hh s hs)⟩
def itp (n : Nat) (l : List S61) : List Int := (solved (l.take n)).1
theorem itp_len {n : Nat} {l : List S61} (hn : n ≤ l.length) : (itp n l).length = n := by
  unfold itp
  rw [solved_len, List.length_take]
  omega
theorem itp_in (n : Nat) (l : List S61) : all251 (itp n l) := (solved_in _).1
theorem itp_only {n : Nat} {l : List S61} (h : KD l) (hn : n ≤ l.length) {p : List K251} (hp : p.length = n) (ha : ∀ a ∈ l.take n, eF p (fk a.f0) = fk a.f1) : (itp n l).map fk = p := by
  have ht : KD (l.take n) := h.sub (List.take_sublist _ _)
  exact fit_unique ht (by rw [List.length_map, itp_len hn, hp]) (by rw [List.length_map, itp_len hn, List.length_take]; omega) (solved_at _ ht) ha
theorem lieP_fit {n : Nat} {l : List S61} (h : KD l) (hn : n ≤ l.length) : lieP (itp n l) l = true ↔ Fit n l := by
  rw [lieP_iff h.v]
  constructor
  · exact fun hh => ⟨(itp n l).map fk, by rw [List.length_map, itp_len hn], hh⟩
  · rintro ⟨p, hp, ha⟩
    rw [itp_only h hn hp (fun a hm => ha a (List.mem_of_mem_take hm))]
    exact ha
theorem lag_itp {n : Nat} {l : List S61} (h : KD l) (hn : n ≤ l.length) (x : Int) : lag (l.take n) x = ev (itp n l) x := by
  have ht : KD (l.take n) := h.sub (List.take_sublist _ _)
  obtain ⟨p, hp, he⟩ := lag_list (l.take n) n (by rw [List.length_take]; omega)
  have e := itp_only h hn hp (fun a ha => by rw [he, lagF_at ht ha])
  refine fk_inj (lag_in _ _).1 (lag_in _ _).2 (ev_in _ _).1 (ev_in _ _).2 ?_
  rw [fk_lag, fk_ev, e, he]
end Go.Proofs.Ytpfkfbbekfkcgaa.P
end
section
namespace Go.Proofs.Ytpfkfbbekfkcgaa.P
open Go.RowKit Go.Proofs.YtpfkfbbekfkcgaaW.PrintWords Go.Proofs.YtpfkfbbekfkcgaaW.PrintLast Go.Proofs.YtpfkfbbekfkcgaaW.PrintMore
set_option linter.unusedVariables false
set_option linter.unusedSimpArgs false
theorem Ev.pos {α : Type} {c : Prop} [Decidable c] {f g : Nat → Option α} {r : α} (h : c) (H : Ev f r) : Ev (fun k => if c then f k else g k) r := by
  simpa only [if_pos h] using H
theorem Ev.neg {α : Type} {c : Prop} [Decidable c] {f g : Nat → Option α} {r : α} (h : ¬ c) (H : Ev g r) : Ev (fun k => if c then f k else g k) r := by
  simpa only [if_neg h] using H
theorem Ev.have {α : Type} {x : Option α} {r : α} (h : x = some r) : Ev (fun _ => x) r := ⟨0, fun _ _ => h⟩
theorem w_nat (n : Nat) (h : n ≤ 4611686018427387904) : wrap64 ((n : Int) + 1) = ((n + 1 : Nat) : Int) := by unfold wrap64; omega
theorem rd_at (l : List Int) (n : Nat) (h : n < l.length) : rd l (n : Int) = l[n] := by
  unfold rd
  rw [Int.toNat_natCast, List.getD_eq_getElem?_getD, List.getElem?_eq_getElem h]; rfl
theorem drop_at {α : Type} (l : List α) (n : Nat) (h : n < l.length) : l.drop n = l[n] :: l.drop (n + 1) := List.drop_eq_getElem_cons h
theorem take_at {α : Type} (l : List α) (n : Nat) (h : n < l.length) : l.take (n + 1) = l.take n ++ [l[n]] := by rw [List.take_succ_eq_append_getElem h]
theorem rd61_at (l : List S61) (n : Nat) (h : n < l.length) : rd_T61 l (n : Int) = l[n] := by
  unfold rd_T61
  rw [Int.toNat_natCast, List.getD_eq_getElem?_getD, List.getElem?_eq_getElem h]; rfl
theorem rd91_at (l : List S91) (n : Nat) (h : n < l.length) : rd_T91 l (n : Int) = l[n] := by
  unfold rd_T91
  rw [Int.toNat_natCast, List.getD_eq_getElem?_getD, List.getElem?_eq_getElem h]; rfl
def g91 (s : S61) : S91 := ⟨s.f0, s.f1⟩
theorem rd91_g (l : List S61) (n : Nat) (h : n < l.length) : rd_T91 (l.map g91) (n : Int) = g91 l[n] := by
  rw [rd91_at _ _ (by simpa using h), List.getElem_map]
theorem is_f (a b c : Int) : pianolaref09_is.f a b c = some (btw b a c) := by
  unfold pianolaref09_is.f pianolaref01_Is.f btw
  by_cases h : b ≤ a
  · have : a ≥ b := h
    simp [h, this]
  · have : ¬ a ≥ b := h
    simp [h, this]
theorem mod_f (a : Int) (h0 : -1000000000000000 ≤ a) (h1 : a ≤ 1000000000000000) : pianolaref09_mod.f a = some (a % 251) := of_f a h0 h1
theorem ref_inv_all : ∀ n : Fin 251, n.val ≠ 0 → pianolaref09_inverse.f 252 (n.val : Int) = some (inv (n.val : Int)) := by decide +kernel
theorem ref_inv (a : Int) (ha : F251 a) (h : a ≠ 0) : Ev (fun k => pianolaref09_inverse.f k a) (inv a) := by
  obtain ⟨a0, a1⟩ := ha
  have := ref_inv_all ⟨a.toNat, by omega⟩ (by simp; omega)
  exact Ev.of (fun k => pianolaref09_inverse.mono _ k) (by simpa [Int.toNat_of_nonneg a0] using this)
theorem value_ev (l : List Int) (x : Int) (hx : F251 x) (hl : all251 l) (hn : l.length ≤ 1000000) : Ev (fun k => pianolaref09_value.f k l x) (ev l x) := by
  have key : ∀ (d n : Nat) (s p : Int), n + d = l.length → F251 s → F251 p → fk (ev l x) = fk s + fk p * eF ((l.drop n).map fk) (fk x) → Ev (fun k => pianolaref09_value.l0 k l x s p (n : Int)) (ev l x) := by
    intro d
    induction d with
    | zero =>
      intro n s p hd hs hp he
      refine Ev.step (fun k => by rw [pianolaref09_value.l0]) ?_
      refine Ev.neg (by omega) (Ev.have ?_)
      rw [List.drop_of_length_le (by omega)] at he
      simp only [List.map_nil, eF] at he
      rw [fk_inj (ev_in l x).1 (ev_in l x).2 hs.1 hs.2 (by rw [he]; grind)]
    | succ d ih =>
      intro n s p hd hs hp he
      have hlt : n < l.length := by omega
      have hc := hl _ (List.getElem_mem hlt)
      obtain ⟨m0, m1⟩ := mul_bd _ _ hc hp
      obtain ⟨q0, q1⟩ := mul_bd _ _ hp hx
      obtain ⟨s0, s1⟩ := hs
      refine Ev.step (fun k => by rw [pianolaref09_value.l0]) ?_
      refine Ev.pos (by omega) (Ev.pos (by omega) ?_)
      rw [rd_at l n hlt, show wrap64 (l[n] * p) = l[n] * p by unfold wrap64; omega, show wrap64 (s + l[n] * p) = s + l[n] * p by unfold wrap64; omega, show wrap64 (p * x) = p * x by unfold wrap64; omega]
      rw [mod_f _ (by omega) (by omega), mod_f _ (by omega) (by omega), w_nat n (by omega)]
      refine Ev.bind (Ev.now _) (Ev.bind (Ev.now _) ?_)
      refine ih (n + 1) _ _ (by omega) (mod_in _) (mod_in _) ?_
      rw [he, drop_at l n hlt, fk_mod, fk_mod, fk_add, fk_mul, fk_mul]
      simp only [List.map_cons, eF]
      grind
  refine key l.length 0 0 1 (by omega) ⟨by omega, by omega⟩ ⟨by omega, by omega⟩ ?_
  rw [fk_ev, fk_zero, fk_one, List.drop_zero]
  grind
end Go.Proofs.Ytpfkfbbekfkcgaa.P
end
section
namespace Go.Proofs.Ytpfkfbbekfkcgaa.P
open Go.RowKit Go.Proofs.YtpfkfbbekfkcgaaW.PrintWords Go.Proofs.YtpfkfbbekfkcgaaW.PrintLast Go.Proofs.YtpfkfbbekfkcgaaW.PrintMore
set_option linter.unusedVariables false
set_option linter.unusedSimpArgs false
theorem any_at (l : List S61) (n : Nat) (h : n < l.length) (P : S61 → Bool) : (l.take (n + 1)).any P = ((l.take n).any P || P l[n]) := by
  rw [take_at l n h, List.any_append]; simp
theorem refcheck_inner (l : List S61) (hl : l.length ≤ 20) (n : Nat) (hn : n < l.length) (R : Int)
    (H : (l.take n).any (fun t => t.f0 == l[n].f0) = false → Ev (fun k => pianolaref09_check.l0 k (l.map g91) ((n + 1 : Nat) : Int)) R)
    (H' : (l.take n).any (fun t => t.f0 == l[n].f0) = true → R = 9) :
    ∀ (d m : Nat), m + d = n → (l.take m).any (fun t => t.f0 == l[n].f0) = false → Ev (fun k => pianolaref09_check.l1 k (l.map g91) (n : Int) (m : Int)) R := by
  intro d
  induction d with
  | zero =>
    intro m hm ha
    refine Ev.step (fun k => by rw [pianolaref09_check.l1]) ?_
    refine Ev.neg (by omega) ?_
    obtain rfl : m = n := by omega
    rw [w_nat m (by omega)]
    exact H ha
  | succ d ih =>
    intro m hm ha
    have hlt : m < l.length := by omega
    refine Ev.step (fun k => by rw [pianolaref09_check.l1]) ?_
    refine Ev.pos (by omega) (Ev.pos (by omega) (Ev.pos (by simp; omega) (Ev.pos (by omega) (Ev.pos (by simp; omega) ?_))))
    rw [rd91_g l m hlt, rd91_g l n hn, w_nat m (by omega)]
    by_cases c : l[m].f0 = l[n].f0
    · refine Ev.pos c (Ev.have ?_)
      rw [H']
      rw [List.any_eq_true]
      exact ⟨l[m], by rw [List.mem_take_iff_getElem]; exact ⟨m, by omega, rfl⟩, by simpa using c⟩
    · refine Ev.neg c (ih (m + 1) (by omega) ?_)
      rw [any_at l m hlt, ha]
      simpa using c
theorem refcheck_ev (need : Int) (l : List S61) : Ev (fun k => pianolaref09_check.f k need (l.map g91)) (checkE need l) := by
  unfold pianolaref09_check.f checkE
  rw [is_f]
  refine Ev.bind (Ev.now _) ?_
  by_cases b : btw 1 need 8 = true
  · refine Ev.pos b ?_
    simp only [b, Bool.true_eq_false, if_false]
    by_cases hl : l.length > 20
    · refine Ev.pos (by simp; omega) (Ev.have ?_)
      rw [if_pos hl]
    · refine Ev.neg (by simp; omega) ?_
      rw [if_neg hl]
      have key : ∀ (d n : Nat), n + d = l.length → Ev (fun k => pianolaref09_check.l0 k (l.map g91) (n : Int)) (scan (l.take n) (l.drop n)) := by
        intro d
        induction d with
        | zero =>
          intro n hd
          refine Ev.step (fun k => by rw [pianolaref09_check.l0]) ?_
          refine Ev.neg (by simp; omega) (Ev.have ?_)
          rw [List.drop_of_length_le (by omega)]; rfl
        | succ d ih =>
          intro n hd
          have hlt : n < l.length := by omega
          refine Ev.step (fun k => by rw [pianolaref09_check.l0]) ?_
          refine Ev.pos (by simp; omega) (Ev.pos (by omega) ?_)
          rw [rd91_g l n hlt, is_f, is_f, drop_at l n hlt]
          refine Ev.bind (Ev.now _) ?_
          have hi : Ev (fun k => pianolaref09_check.j1 k (l.map g91) (n : Int) (!(btw 1 l[n].f0 20 && btw 0 l[n].f1 250))) (scan (l.take n) (l[n] :: l.drop (n + 1))) := by
            refine Ev.step (fun k => by rw [pianolaref09_check.j1]) ?_
            unfold scan
            by_cases c : (btw 1 l[n].f0 20 && btw 0 l[n].f1 250) = true
            · refine Ev.neg (by simp [c]) ?_
              rw [if_neg (by simp [c])]
              refine refcheck_inner l (by omega) n hlt _ (fun ha => ?_) (fun ha => ?_) n 0 (by omega) rfl
              · rw [if_neg (by rw [ha]; simp), ← take_at l n hlt]
                exact ih (n + 1) (by omega)
              · rw [if_pos ha]
            · rw [Bool.not_eq_true] at c
              refine Ev.pos (by rw [c]; rfl) (Ev.have ?_)
              rw [if_pos c]
          by_cases c1 : btw 1 l[n].f0 20 = true
          · refine Ev.pos c1 (Ev.bind (Ev.now _) ?_)
            have := hi
            rw [c1, Bool.true_and] at this
            exact this
          · refine Ev.neg c1 ?_
            have := hi
            rw [Bool.not_eq_true] at c1
            rw [c1, Bool.false_and] at this
            exact this
      have := key l.length 0 (by omega)
      exact this
  · refine Ev.neg b (Ev.have ?_)
    simp [b]
theorem scan_nd : ∀ (l b : List S61), scan b l = 0 → (b.map S61.f0).Nodup → ((b ++ l).map S61.f0).Nodup
  | [], b, _, hb => by rwa [List.append_nil]
  | s :: r, b, h, hb => by
    unfold scan at h
    by_cases c1 : (btw 1 s.f0 20 && btw 0 s.f1 250) = false
    · rw [if_pos c1] at h; omega
    · rw [if_neg c1] at h
      by_cases c2 : (b.any fun t => t.f0 == s.f0) = true
      · rw [if_pos c2] at h; omega
      · rw [if_neg c2] at h
        have := scan_nd r (b ++ [s]) h (by
          rw [List.map_append, List.nodup_append]
          refine ⟨hb, by simp, fun x hx y hy e => c2 ?_⟩
          obtain ⟨t, ht, rfl⟩ := List.mem_map.1 hx
          simp only [List.map_cons, List.map_nil, List.mem_singleton] at hy
          exact List.any_eq_true.2 ⟨t, ht, by simp [e, hy]⟩)
        rwa [List.append_assoc, List.singleton_append] at this
structure Fine (need : Int) (l : List S61) : Prop where
  n0 : 1 ≤ need
  n1 : need ≤ 8
  len : l.length ≤ 20
  good : ∀ s ∈ l, Good s
  kd : KD l
theorem checkE_fine {need : Int} {l : List S61} (h : checkE need l = 0) : Fine need l := by
  obtain ⟨a, b, c, d, e⟩ := checkE_ok h
  refine ⟨a, b, c, d, ?_, fun s hs => ?_, fun s hs => ?_⟩
  · have := scan_nd l [] e List.nodup_nil
    simpa using this
  · have := d s hs
    exact ⟨by have := this.1; omega, by have := this.2.1; omega⟩
  · have := d s hs
    exact ⟨this.2.2.1, this.2.2.2⟩
theorem scan_zero : ∀ (l b : List S61), (∀ s ∈ l, Good s) → ((b ++ l).map S61.f0).Nodup → scan b l = 0
  | [], b, _, _ => rfl
  | s :: r, b, h, hn => by
    have hs := h s (by simp)
    unfold scan
    rw [if_neg (by simp only [Bool.not_eq_false, Bool.and_eq_true, btw_iff]; exact ⟨⟨hs.1, hs.2.1⟩, hs.2.2⟩)]
    have hnb : ¬ (b.any fun t => t.f0 == s.f0) = true := by
      intro hc
      obtain ⟨t, ht, e⟩ := List.any_eq_true.1 hc
      rw [List.map_append, List.nodup_append] at hn
      exact hn.2.2 t.f0 (List.mem_map_of_mem ht) s.f0 (by simp) (by simpa using e)
    rw [if_neg hnb]
    refine scan_zero r (b ++ [s]) (fun t ht => h t (by simp [ht])) ?_
    rwa [List.append_assoc, List.singleton_append]
theorem checkE_zero {need : Int} {l : List S61} (n0 : 1 ≤ need) (n1 : need ≤ 8) (hl : l.length ≤ 20) (h : ∀ s ∈ l, Good s) (hn : (l.map S61.f0).Nodup) : checkE need l = 0 := by
  unfold checkE
  rw [if_neg (by rw [Bool.not_eq_false, btw_iff]; exact ⟨n0, n1⟩), if_neg (by omega)]
  exact scan_zero l [] h (by simpa using hn)
theorem set_mid {α : Type} (a : List α) (b v : α) (c : List α) : (a ++ b :: c).set a.length v = a ++ v :: c := by simp
theorem rd_mid (a : List Int) (b : Int) (c : List Int) : rd (a ++ b :: c) (a.length : Int) = b := by
  rw [rd_at _ _ (by simp)]
  simp
def mulTI (k d : Int) : Int → List Int → List Int
  | _, [] => []
  | c, b :: q => (c - ((b * k) % 251) * d) % 251 :: mulTI k d ((0 + b * d) % 251) q
def tailZ (c : Int) : List Int → List Int
  | [] => []
  | _ :: q => c :: List.replicate q.length 0
theorem tailZ_len (c : Int) (q : List Int) : (tailZ c q).length = q.length := by cases q <;> simp [tailZ]
theorem mulTI_len (k d : Int) : ∀ (c : Int) (q : List Int), (mulTI k d c q).length = q.length
  | _, [] => rfl
  | c, b :: q => by simp [mulTI, mulTI_len k d _ q]
theorem mulTI_in (k d : Int) : ∀ (c : Int) (q : List Int), all251 (mulTI k d c q)
  | _, [] => fun _ h => by cases h
  | c, b :: q => fun x hx => by
    cases hx with
    | head => exact mod_in _
    | tail _ hx => exact mulTI_in k d _ q x hx
theorem through_l2 (l : List S61) (x3 x5 : List Int) (x4 m : Nat) (d R' : Int) (R : List Int) (hm : m < l.length) (hk : F251 l[m].f0) (hd : F251 d) (hx5 : all251 x5) (h20 : x5.length ≤ 1000) :
    ∀ (rem pre done : List Int) (c : Int), x5 = pre ++ rem → done.length = pre.length → F251 c →
    Ev (fun k => pianolaref09_through.l1 k (l.map g91) x3 (x4 : Int) (done ++ mulTI l[m].f0 d c rem) ((m + 1 : Nat) : Int)) R →
    m ≤ 1000000 →
    Ev (fun k => pianolaref09_through.l2 k (l.map g91) x3 (x4 : Int) x5 (m : Int) d (done ++ tailZ c rem) (pre.length : Int)) R := by
  intro rem
  induction rem with
  | nil =>
    intro pre done c e hl hc H hm1
    refine Ev.step (fun k => by rw [pianolaref09_through.l2]) ?_
    refine Ev.neg (by rw [e, List.append_nil]; omega) ?_
    rw [w_nat m (by omega)]
    exact H
  | cons b q ih =>
    intro pre done c e hl hc H hm1
    have hb : F251 b := hx5 b (by rw [e]; simp)
    obtain ⟨p0, p1⟩ := mul_bd _ _ hb hk
    obtain ⟨q0, q1⟩ := mul_bd _ _ (mod_in (b * l[m].f0)) hd
    obtain ⟨s0, s1⟩ := mul_bd _ _ hb hd
    obtain ⟨c0, c1⟩ := hc
    have hlen : x5.length = pre.length + (q.length + 1) := by rw [e]; simp
    refine Ev.step (fun k => by rw [pianolaref09_through.l2]) ?_
    refine Ev.pos (by omega) (Ev.pos (by omega) (Ev.pos (by rw [List.length_append, tailZ_len]; simp; omega) (Ev.pos (by omega) (Ev.pos (by simp; omega) ?_))))
    have e5 : rd x5 (pre.length : Int) = b := by rw [e]; exact rd_mid pre b q
    have e8 : rd (done ++ tailZ c (b :: q)) (pre.length : Int) = c := by rw [← hl]; exact rd_mid done c _
    rw [e5, e8, rd91_g l m hm]
    simp only [g91]
    rw [show wrap64 (b * l[m].f0) = b * l[m].f0 by unfold wrap64; omega, Int.tmod_eq_emod_of_nonneg p0, show wrap64 ((b * l[m].f0) % 251 * d) = (b * l[m].f0) % 251 * d by unfold wrap64; omega,
      show wrap64 (c - (b * l[m].f0) % 251 * d) = c - (b * l[m].f0) % 251 * d by unfold wrap64; omega, mod_f _ (by omega) (by omega)]
    refine Ev.bind (Ev.now _) (Ev.bind (Ev.now _) ?_)
    rw [w_nat pre.length (by omega), Int.toNat_natCast, ← hl]
    have es : (done ++ tailZ c (b :: q)).set done.length ((c - (b * l[m].f0) % 251 * d) % 251) = done ++ (c - (b * l[m].f0) % 251 * d) % 251 :: List.replicate q.length 0 := set_mid _ _ _ _
    rw [es]
    have hpre : ((pre ++ [b]).length : Int) = ((done.length + 1 : Nat) : Int) := by rw [List.length_append, hl]; simp
    have hdone : (done ++ [(c - (b * l[m].f0) % 251 * d) % 251]).length = (pre ++ [b]).length := by simp [hl]
    cases q with
    | nil =>
      refine Ev.neg (by rw [hlen]; simp; omega) ?_
      have := ih (pre ++ [b]) (done ++ [(c - (b * l[m].f0) % 251 * d) % 251]) 0 (by rw [e]; simp) hdone ⟨by omega, by omega⟩ (by simpa [mulTI] using H) hm1
      rw [hpre] at this
      simpa [tailZ] using this
    | cons b2 q2 =>
      refine Ev.pos (by rw [hlen]; simp; omega) (Ev.pos (by omega) (Ev.pos (by rw [List.length_append, tailZ_len]; simp; omega) ?_))
      have er : rd (done ++ (c - (b * l[m].f0) % 251 * d) % 251 :: List.replicate (b2 :: q2).length 0) ((done.length + 1 : Nat) : Int) = 0 := by
        have := rd_mid (done ++ [(c - (b * l[m].f0) % 251 * d) % 251]) 0 (List.replicate q2.length 0)
        rw [List.length_append] at this
        simpa [List.replicate_succ] using this
      rw [er, show wrap64 (b * d) = b * d by unfold wrap64; omega, show wrap64 (0 + b * d) = 0 + b * d by unfold wrap64; omega, mod_f _ (by omega) (by omega)]
      refine Ev.bind (Ev.now _) ?_
      have := ih (pre ++ [b]) (done ++ [(c - (b * l[m].f0) % 251 * d) % 251]) ((0 + b * d) % 251) (by rw [e]; simp) hdone (mod_in _) (by
        rw [List.append_assoc, List.singleton_append]
        exact H) hm1
      rw [hpre] at this
      have e9 : (done ++ (c - (b * l[m].f0) % 251 * d) % 251 :: List.replicate (b2 :: q2).length 0).set (((done.length + 1 : Nat) : Int)).toNat ((0 + b * d) % 251) = done ++ [(c - (b * l[m].f0) % 251 * d) % 251] ++ tailZ ((0 + b * d) % 251) (b2 :: q2) := by
        simp [List.replicate_succ, tailZ]
      rw [e9]
      exact this
def mulT (k d : K251) : K251 → List K251 → List K251
  | _, [] => []
  | c, b :: q => (c - b * k * d) :: mulT k d (b * d) q
def mulD (k d : K251) : K251 → List K251 → List K251
  | c, [] => [c]
  | c, b :: q => (c - b * k * d) :: mulD k d (b * d) q
theorem mulTI_fk (k d : Int) : ∀ (c : Int) (q : List Int), (mulTI k d c q).map fk = mulT (fk k) (fk d) (fk c) (q.map fk)
  | _, [] => rfl
  | c, b :: q => by
    simp only [mulTI, List.map_cons, mulT]
    rw [mulTI_fk k d _ q, fk_mod, fk_sub, fk_mul, fk_mod, fk_mul, fk_mod, fk_add, fk_mul, fk_zero, show (0 : K251) + fk b * fk d = fk b * fk d by grind]
theorem mulT_zeros (k d : K251) : ∀ m : Nat, mulT k d 0 (List.replicate m 0) = List.replicate m 0
  | 0 => rfl
  | m + 1 => by
    rw [List.replicate_succ]
    simp only [mulT]
    rw [show (0 : K251) * d = 0 by grind, mulT_zeros k d m, show (0 : K251) - 0 * k * d = 0 by grind]
theorem mulT_mulD (k d : K251) (m : Nat) : ∀ (c : K251) (q : List K251), mulT k d c (q ++ List.replicate (m + 1) 0) = mulD k d c q ++ List.replicate m 0
  | c, [] => by
    rw [List.nil_append, List.replicate_succ]
    simp only [mulT, mulD]
    rw [show (0 : K251) * d = 0 by grind, mulT_zeros k d m, show c - 0 * k * d = c by grind]
    rfl
  | c, b :: q => by
    simp only [List.cons_append, mulT, mulD]
    rw [mulT_mulD k d m _ q]
theorem mulD_len (k d : K251) : ∀ (c : K251) (q : List K251), (mulD k d c q).length = q.length + 1
  | _, [] => rfl
  | _, b :: q => by simp [mulD, mulD_len k d _ q]
theorem mulD_eF (k d x : K251) : ∀ (c : K251) (q : List K251), eF (mulD k d c q) x = c + d * (x - k) * eF q x
  | c, [] => by simp only [mulD, eF]; grind
  | c, b :: q => by
    simp only [mulD, eF]
    rw [mulD_eF k d x _ q]
    grind
theorem prodF_snoc (x : K251) (a b : S61) : ∀ l : List S61, prodF x a (l ++ [b]) = prodF x a l * facF x a b
  | [] => by show facF x a b * 1 = 1 * facF x a b; grind
  | c :: l => by
    show facF x a c * prodF x a (l ++ [b]) = facF x a c * prodF x a l * facF x a b
    rw [prodF_snoc x a b l]
    grind
theorem sumF_snoc (f : S61 → K251) (b : S61) : ∀ l : List S61, sumF f (l ++ [b]) = sumF f l + f b
  | [] => by show f b + 0 = 0 + f b; grind
  | c :: l => by
    show f c + sumF f (l ++ [b]) = f c + sumF f l + f b
    rw [sumF_snoc f b l]
    grind
theorem kd_at {l : List S61} (h : KD l) {i j : Nat} (hi : i < l.length) (hj : j < l.length) : l[i].f0 = l[j].f0 ↔ i = j := by
  constructor
  · intro e
    have hn := h.nd
    have hp := List.pairwise_iff_getElem.1 hn
    rcases Nat.lt_trichotomy i j with c | c | c
    · exact absurd (by rw [List.getElem_map, List.getElem_map]; exact e) (hp i j (by simpa using hi) (by simpa using hj) c)
    · exact c
    · exact absurd (by rw [List.getElem_map, List.getElem_map]; exact e.symm) (hp j i (by simpa using hj) (by simpa using hi) c)
  · rintro rfl; rfl
theorem through_l1 (l : List S61) (hk : KD l) (h20 : l.length ≤ 1000) (x3 : List Int) (i : Nat) (hi : i < l.length) (R : List Int)
    (H : ∀ one : List Int, one.length = l.length → all251 one → (∀ x, eF (one.map fk) x = prodF x l[i] l) → Ev (fun k => pianolaref09_through.l3 k (l.map g91) x3 (i : Int) one 0) R) :
    ∀ (d m : Nat) (x5 : List Int) (q : List K251), m + d = l.length → x5.length = l.length → all251 x5 → x5.map fk = q ++ List.replicate (l.length - q.length) 0 → q.length = 1 + (if m ≤ i then m else m - 1) → (∀ x, eF q x = prodF x l[i] (l.take m)) →
    Ev (fun k => pianolaref09_through.l1 k (l.map g91) x3 (i : Int) x5 (m : Int)) R := by
  intro d
  induction d with
  | zero =>
    intro m x5 q hm hl5 ha hq hql he
    refine Ev.step (fun k => by rw [pianolaref09_through.l1]) ?_
    refine Ev.neg (by simp; omega) ?_
    refine H x5 hl5 ha (fun x => ?_)
    rw [hq, eF_zeros, he x, List.take_of_length_le (by omega)]
  | succ d ih =>
    intro m x5 q hm hl5 ha hq hql he
    have hlt : m < l.length := by omega
    refine Ev.step (fun k => by rw [pianolaref09_through.l1]) ?_
    refine Ev.pos (by simp; omega) ?_
    by_cases c : m = i
    · subst c
      refine Ev.pos rfl ?_
      rw [w_nat m (by omega)]
      refine ih (m + 1) x5 q (by omega) hl5 ha hq (by rw [hql, if_pos (Nat.le_refl _), if_neg (by omega)]; omega) (fun x => ?_)
      rw [take_at l m hlt, prodF_snoc, he x]
      unfold facF
      rw [if_pos rfl]
      grind
    · have ne : ¬ l[i].f0 = l[m].f0 := fun e => c ((kd_at hk hi hlt).1 e).symm
      refine Ev.neg (by omega) (Ev.pos (by omega) (Ev.pos (by simp; omega) (Ev.pos (by omega) ?_)))
      have h1 := hk.k l[i] (List.getElem_mem hi)
      have h2 := hk.k l[m] (List.getElem_mem hlt)
      obtain ⟨h10, h11⟩ := h1
      obtain ⟨h20', h21⟩ := h2
      rw [rd91_g l i hi, rd91_g l m hlt]
      simp only [g91]
      rw [show wrap64 (l[i].f0 - l[m].f0) = l[i].f0 - l[m].f0 by unfold wrap64; omega, mod_f _ (by omega) (by omega)]
      refine Ev.bind (Ev.now _) (Ev.bind (ref_inv _ (mod_in _) (by omega)) ?_)
      refine Ev.pos (by omega) (Ev.pos (by simp; omega) ?_)
      obtain ⟨b5, q5, e5⟩ : ∃ b q', x5 = b :: q' := by
        cases x5 with
        | nil => simp at hl5; omega
        | cons b q' => exact ⟨b, q', rfl⟩
      have hqlt : q.length + 1 ≤ l.length := by
        rw [hql]
        split <;> omega
      have := through_l2 l x3 x5 i m (inv ((l[i].f0 - l[m].f0) % 251)) 0 R hlt ⟨h20', h21⟩ (inv_in _) ha (by omega) x5 [] [] 0 rfl rfl ⟨by omega, by omega⟩ ?_ (by omega)
      · simp only [List.nil_append, List.length_nil] at this
        have e8 : tailZ 0 x5 = List.replicate ((l.map g91).length : Int).toNat 0 := by
          rw [e5]
          show 0 :: List.replicate q5.length 0 = _
          rw [← List.replicate_succ]
          congr 1
          rw [e5] at hl5
          simp at hl5 ⊢
          omega
        rw [e8] at this
        exact this
      · rw [List.nil_append]
        refine ih (m + 1) _ (mulD (fk l[m].f0) (fk (inv ((l[i].f0 - l[m].f0) % 251))) 0 q) (by omega) (by rw [mulTI_len, hl5]) (mulTI_in _ _ _ _) ?_ ?_ (fun x => ?_)
        · rw [mulTI_fk, hq, mulD_len, show l.length - q.length = (l.length - (q.length + 1)) + 1 by omega, fk_zero]
          exact mulT_mulD _ _ _ _ _
        · rw [mulD_len, hql]
          split <;> split <;> omega
        · rw [mulD_eF, he x, take_at l m hlt, prodF_snoc]
          unfold facF
          rw [if_neg ne, fk_inv (mod_in _), fk_mod, fk_sub]
          grind
def addI (v : Int) (a b : List Int) : List Int := List.zipWith (fun o e => (o + e * v) % 251) a b
theorem through_l3 (l : List S61) (h20 : l.length ≤ 1000) (i : Nat) (hi : i < l.length) (hv : F251 l[i].f1) (x5 : List Int) (h5 : all251 x5) (h5l : x5.length ≤ 1000) (R : List Int) :
    ∀ (r5 pre done r3 : List Int), x5 = pre ++ r5 → done.length = pre.length → r3.length = r5.length → (∀ c ∈ r3, F251 c) →
    Ev (fun k => pianolaref09_through.l0 k (l.map g91) (done ++ addI l[i].f1 r3 r5) ((i + 1 : Nat) : Int)) R →
    Ev (fun k => pianolaref09_through.l3 k (l.map g91) (done ++ r3) (i : Int) x5 (pre.length : Int)) R := by
  intro r5
  induction r5 with
  | nil =>
    intro pre done r3 e hl h3 hin H
    refine Ev.step (fun k => by rw [pianolaref09_through.l3]) ?_
    refine Ev.neg (by rw [e, List.append_nil]; omega) ?_
    rw [w_nat i (by omega)]
    cases r3 with
    | nil => exact H
    | cons => simp at h3
  | cons b q ih =>
    intro pre done r3 e hl h3 hin H
    cases r3 with
    | nil => simp at h3
    | cons c r3 =>
      have hb : F251 b := h5 b (by rw [e]; simp)
      obtain ⟨p0, p1⟩ := mul_bd _ _ hb hv
      obtain ⟨c0, c1⟩ := hin c (by simp)
      have hlen : x5.length = pre.length + (q.length + 1) := by rw [e]; simp
      refine Ev.step (fun k => by rw [pianolaref09_through.l3]) ?_
      refine Ev.pos (by omega) (Ev.pos (by omega) (Ev.pos (by simp; omega) (Ev.pos (by omega) (Ev.pos (by simp; omega) ?_))))
      have e5 : rd x5 (pre.length : Int) = b := by rw [e]; exact rd_mid pre b q
      have e8 : rd (done ++ c :: r3) (pre.length : Int) = c := by rw [← hl]; exact rd_mid done c _
      rw [e5, e8, rd91_g l i hi]
      simp only [g91]
      rw [show wrap64 (b * l[i].f1) = b * l[i].f1 by unfold wrap64; omega, show wrap64 (c + b * l[i].f1) = c + b * l[i].f1 by unfold wrap64; omega, mod_f _ (by omega) (by omega)]
      refine Ev.bind (Ev.now _) ?_
      rw [w_nat pre.length (by omega), Int.toNat_natCast, ← hl, set_mid]
      have := ih (pre ++ [b]) (done ++ [(c + b * l[i].f1) % 251]) r3 (by rw [e]; simp) (by simp [hl]) (by simpa using h3) (fun x hx => hin x (by simp [hx])) (by
        rw [List.append_assoc, List.singleton_append]
        exact H)
      rw [List.length_append, ← hl] at this
      simpa using this
theorem addI_len (v : Int) (a b : List Int) (h : a.length = b.length) : (addI v a b).length = b.length := by simp [addI, h]
theorem addI_in (v : Int) : ∀ (a b : List Int), all251 (addI v a b)
  | [], _ => fun _ h => by cases h
  | _ :: _, [] => fun _ h => by cases h
  | a :: p, b :: q => fun x hx => by
    cases hx with
    | head => exact mod_in _
    | tail _ hx => exact addI_in v p q x hx
theorem addI_eF (v : Int) (x : K251) : ∀ (a b : List Int), a.length = b.length → eF ((addI v a b).map fk) x = eF (a.map fk) x + eF (b.map fk) x * fk v
  | [], [], _ => by simp only [addI, List.zipWith_nil_left, List.map_nil, eF]; grind
  | [], _ :: _, h => by simp at h
  | _ :: _, [], h => by simp at h
  | a :: p, b :: q, h => by
    have ih := addI_eF v x p q (by simpa using h)
    simp only [addI, List.zipWith_cons_cons, List.map_cons, eF] at ih ⊢
    rw [ih, fk_mod, fk_add, fk_mul]
    grind
theorem through_ev (l : List S61) (hk : KD l) (h20 : l.length ≤ 1000) : Ev (fun k => pianolaref09_through.f k (l.map g91)) (solved l).1 := by
  unfold pianolaref09_through.f
  refine Ev.pos (by omega) (Ev.pos (by simp; omega) ?_)
  have key : ∀ (d i : Nat) (out : List Int), i + d = l.length → out.length = l.length → all251 out → (∀ x, eF (out.map fk) x = sumF (fun a => fk a.f1 * prodF x a l) (l.take i)) →
      Ev (fun k => pianolaref09_through.l0 k (l.map g91) out (i : Int)) (solved l).1 := by
    intro d
    induction d with
    | zero =>
      intro i out hd ho ha he
      refine Ev.step (fun k => by rw [pianolaref09_through.l0]) ?_
      refine Ev.neg (by simp; omega) (Ev.have ?_)
      congr 1
      refine all_fk ha (solved_in l).1 ?_
      refine fit_unique hk (by simp [ho, solved_len]) (by simp [ho]) (fun a hm => ?_) (solved_at l hk)
      rw [he, List.take_of_length_le (by omega)]
      exact lagF_at hk hm
    | succ d ih =>
      intro i out hd ho ha he
      have hi : i < l.length := by omega
      have hv := hk.v l[i] (List.getElem_mem hi)
      refine Ev.step (fun k => by rw [pianolaref09_through.l0]) ?_
      refine Ev.pos (by simp; omega) (Ev.pos (by omega) (Ev.pos (by simp; omega) (Ev.bind (Ev.now _) (Ev.pos (by simp; omega) ?_))))
      have e0 : (List.replicate ((l.map g91).length : Int).toNat (0 : Int)).set (0 : Int).toNat 1 = 1 :: List.replicate (l.length - 1) 0 := by
        rw [List.length_map, Int.toNat_natCast, show l.length = (l.length - 1) + 1 by omega, List.replicate_succ]
        rfl
      rw [e0]
      refine through_l1 l hk h20 out i hi _ (fun one h1 h2 h3 => ?_) l.length 0 _ [1] (by omega) (by simp; omega) ?_ ?_ ?_ ?_
      · refine through_l3 l h20 i hi hv one h2 (by omega) _ one [] [] out rfl rfl (by omega) ha ?_
        rw [List.nil_append]
        refine ih (i + 1) _ (by omega) (by rw [addI_len _ _ _ (by omega)]; exact h1) (addI_in _ _ _) (fun x => ?_)
        rw [addI_eF _ _ _ _ (by omega), he, h3, take_at l i hi, sumF_snoc]
        grind
      · intro c hc
        rw [List.mem_cons, List.mem_replicate] at hc
        rcases hc with rfl | ⟨_, rfl⟩
        · exact ⟨by omega, by omega⟩
        · exact ⟨by omega, by omega⟩
      · simp [fk_zero, fk_one]
      · simp
      · intro x
        show 1 + x * 0 = 1
        grind
  refine key l.length 0 _ (by omega) (by simp) ?_ (fun x => ?_)
  · intro c hc
    rw [List.mem_replicate] at hc
    rw [hc.2]
    exact ⟨by omega, by omega⟩
  · have := eF_zeros x ((l.map g91).length : Int).toNat []
    rw [List.map_replicate, fk_zero]
    exact this
theorem lieP_cons (p : List Int) (a : S61) (m : List S61) : lieP p (a :: m) = ((ev p a.f0 == a.f1) && lieP p m) := by
  unfold lieP
  rw [List.any_cons, Bool.not_or]
  simp [bne]
theorem lie_ev (p : List Int) (l : List S61) (hp : all251 p) (hpl : p.length ≤ 1000) (hl : ∀ s ∈ l, F251 s.f0) (hll : l.length ≤ 1000000) : Ev (fun k => pianolaref09_lie.f k p (l.map g91)) (lieP p l) := by
  unfold pianolaref09_lie.f
  have key : ∀ (d n : Nat), n + d = l.length → Ev (fun k => pianolaref09_lie.l0 k p (l.map g91) (n : Int)) (lieP p (l.drop n)) := by
    intro d
    induction d with
    | zero =>
      intro n hd
      refine Ev.step (fun k => by rw [pianolaref09_lie.l0]) ?_
      refine Ev.neg (by simp; omega) (Ev.have ?_)
      rw [List.drop_of_length_le (by omega)]; rfl
    | succ d ih =>
      intro n hd
      have hlt : n < l.length := by omega
      refine Ev.step (fun k => by rw [pianolaref09_lie.l0]) ?_
      refine Ev.pos (by simp; omega) (Ev.pos (by omega) ?_)
      rw [rd91_g l n hlt]
      simp only [g91]
      refine Ev.bind (value_ev p _ (hl _ (List.getElem_mem hlt)) hp (by omega)) ?_
      rw [w_nat n (by omega), drop_at l n hlt]
      by_cases c : ev p l[n].f0 = l[n].f1
      · refine Ev.pos c ?_
        have := ih (n + 1) (by omega)
        rw [lieP_cons, beq_iff_eq.2 c, Bool.true_and]
        exact this
      · refine Ev.neg c (Ev.have ?_)
        rw [lieP_cons, beq_eq_false_iff_ne.2 c, Bool.false_and]
  exact key l.length 0 (by omega)
theorem agree_same {need : Int} {l : List S61} (h : Fine need l) (hl : need < l.length) : lieP (solved (l.take need.toNat)).1 l = agreeB need l := by
  have hn : ((need.toNat : Nat) : Int) = need := by have := h.n0; omega
  have h1 := agreeB_fit (n := need.toNat) h.kd
  have h2 := lieP_fit (n := need.toNat) h.kd (by omega)
  rw [hn] at h1
  rw [Bool.eq_iff_iff]
  exact h2.trans h1.symm
theorem map_take' (l : List S61) (n : Nat) : (l.map g91).take n = (l.take n).map g91 := (List.map_take).symm
theorem refagree_ev {need : Int} {l : List S61} (h : Fine need l) : Ev (fun k => pianolaref09_agree.f k need (l.map g91)) (agreeB need l) := by
  unfold pianolaref09_agree.f
  have n0 := h.n0
  have n1 := h.n1
  have hl := h.len
  by_cases c : (l.length : Int) ≤ need
  · refine Ev.pos (by simpa using c) (Ev.have ?_)
    unfold agreeB
    rw [if_pos c]
  · refine Ev.neg (by simpa using c) (Ev.pos (by omega) (Ev.pos (by simp; omega) ?_))
    rw [map_take']
    refine Ev.bind (through_ev _ (h.kd.sub (List.take_sublist _ _)) (by simp; omega)) ?_
    refine Ev.bind (lie_ev _ l (solved_in _).1 (by rw [solved_len]; simp; omega) h.kd.k (by omega)) (Ev.have ?_)
    rw [agree_same h (by omega)]
def agreeR (need : Int) (l : List S61) : Bool × Int := if checkE need l = 0 then (agreeB need l, 0) else (false, checkE need l)
theorem okSB_of {l : List S61} (h : ∀ s ∈ l, Good s) : okSB l = true := by
  unfold okSB
  rw [List.all_eq_true]
  intro a ha
  have := h a ha
  unfold Good at this
  simp only [Bool.and_eq_true, decide_eq_true_eq]
  omega
theorem agree_f {need : Int} {l : List S61} (h : Fine need l) : vault_agree.f need l = some (agreeB need l) := by
  unfold vault_agree.f
  have := h.n0
  have := h.len
  rw [if_pos (by simp only [Bool.and_eq_true, decide_eq_true_eq]; exact ⟨⟨okSB_of h.good, by omega⟩, by omega⟩)]
theorem vcheck_f (need : Int) (l : List S61) : vault_check.f need l = some (checkE need l) := rfl
theorem Agree_f (need : Int) (l : List S61) : vault_Agree.f need l = some (agreeR need l) := by
  unfold vault_Agree.f agreeR
  rw [vcheck_f, Option.bind_some]
  by_cases h : checkE need l = 0
  · rw [if_pos h, if_pos h, agree_f (checkE_fine h)]; rfl
  · rw [if_neg h, if_neg h]
theorem numbers_ev (a b : List Int) (h : a.length ≤ 1000000) : Ev (fun k => pianolalaw09_numbers.f k a b) (decide (a = b)) := by
  unfold pianolalaw09_numbers.f
  by_cases hl : a.length = b.length
  · refine Ev.pos (by omega) ?_
    have key : ∀ (d n : Nat), n + d = a.length → Ev (fun k => pianolalaw09_numbers.l0 k a b (n : Int)) (decide (a.drop n = b.drop n)) := by
      intro d
      induction d with
      | zero =>
        intro n hd
        refine Ev.step (fun k => by rw [pianolalaw09_numbers.l0]) ?_
        refine Ev.neg (by omega) (Ev.have ?_)
        rw [List.drop_of_length_le (by omega), List.drop_of_length_le (by omega)]
        simp
      | succ d ih =>
        intro n hd
        have h1 : n < a.length := by omega
        have h2 : n < b.length := by omega
        refine Ev.step (fun k => by rw [pianolalaw09_numbers.l0]) ?_
        refine Ev.pos (by omega) (Ev.pos (by omega) (Ev.pos (by omega) ?_))
        rw [rd_at a n h1, rd_at b n h2, w_nat n (by omega), drop_at a n h1, drop_at b n h2]
        by_cases c : a[n] = b[n]
        · refine Ev.pos c ?_
          have := ih (n + 1) (by omega)
          rw [show decide (a[n] :: a.drop (n + 1) = b[n] :: b.drop (n + 1)) = decide (a.drop (n + 1) = b.drop (n + 1)) from decide_eq_decide.2 (by rw [List.cons.injEq]; exact ⟨fun h => h.2, fun h => ⟨c, h⟩⟩)]
          exact this
        · refine Ev.neg c (Ev.have ?_)
          rw [decide_eq_false (fun e => c (List.cons.inj e).1)]
    exact key a.length 0 (by omega)
  · refine Ev.neg (by omega) (Ev.have ?_)
    rw [decide_eq_false]
    intro e
    rw [e] at hl
    exact hl rfl
def restoreR (need : Int) (l : List S61) : List Int × Int :=
  if checkE need l ≠ 0 then ([], checkE need l) else if (l.length : Int) < need then ([], 8) else if lieP (solved (l.take need.toNat)).1 l = false then ([], 15) else ((solved (l.take need.toNat)).1, 0)
theorem Restore_f (need : Int) (l : List S61) : vault_Restore.f need l = some (restoreR need l) := rfl
theorem lieP_full {need : Int} {l : List S61} (h : Fine need l) (e : (l.length : Int) = need) : lieP (solved (l.take need.toNat)).1 l = true := by
  have h2 := lieP_fit (n := need.toNat) h.kd (by omega)
  refine h2.2 ?_
  have h1 := agreeB_fit (n := need.toNat) h.kd
  refine h1.1 ?_
  unfold agreeB
  rw [if_pos (by omega)]
theorem agree_le {need : Int} {l : List S61} (h : Fine need l) (e : need ≤ (l.length : Int)) : lieP (solved (l.take need.toNat)).1 l = agreeB need l := by
  by_cases c : need < l.length
  · exact agree_same h c
  · rw [lieP_full h (by omega)]
    unfold agreeB
    rw [if_pos (by omega)]
end Go.Proofs.Ytpfkfbbekfkcgaa.P
end
section
namespace Go.Proofs.Ytpfkfbbekfkcgaa.P
open Go.RowKit Go.Proofs.YtpfkfbbekfkcgaaW.PrintWords Go.Proofs.YtpfkfbbekfkcgaaW.PrintLast Go.Proofs.YtpfkfbbekfkcgaaW.PrintMore
set_option linter.unusedVariables false
set_option linter.unusedSimpArgs false
def powN : Nat → Int
  | 0 => 1
  | n + 1 => mn (powN n * 251) 4503599627370496
theorem powN_bd : ∀ n, 1 ≤ powN n ∧ powN n ≤ 4503599627370496
  | 0 => by unfold powN; omega
  | n + 1 => by
    have := powN_bd n
    unfold powN mn
    split <;> omega
theorem ev_zero {p : List Int} (h : all251 p) (hl : 0 < p.length) : ev p 0 = rd p 0 := by
  cases p with
  | nil => simp at hl
  | cons c p =>
    obtain ⟨c0, c1⟩ := h c (by simp)
    show ((ev p 0 * 0) % 251 + c) % 251 = c
    omega
def countR (need : Int) (l : List S61) (s : Int) : Int :=
  if (l.length : Int) < need then powN (need.toNat - 1 - l.length) else if agreeB need l = true then (if rd (itp need.toNat l) 0 = s then 1 else 0) else 0
theorem countR_bd (need : Int) (l : List S61) (s : Int) : 0 ≤ countR need l s := by
  unfold countR
  split
  · have := powN_bd (need.toNat - 1 - l.length); omega
  · split
    · split <;> omega
    · omega
theorem counted_ev {need : Int} {l : List S61} (h : Fine need l) (s : Int) : Ev (fun k => vault_counted.f k need l s) (countR need l s) := by
  have n0 := h.n0
  have n1 := h.n1
  have hl := h.len
  unfold vault_counted.f countR
  by_cases c : (l.length : Int) < need
  · refine Ev.pos c ?_
    rw [if_pos c, show wrap64 (wrap64 (need - 1) - (l.length : Int)) = need - 1 - l.length by unfold wrap64; omega]
    have key : ∀ (d n : Nat), n + d = need.toNat - 1 - l.length → Ev (fun k => vault_counted.l0 k (powN n) (need - 1 - l.length) (n : Int)) (powN (need.toNat - 1 - l.length)) := by
      intro d
      induction d with
      | zero =>
        intro n hd
        refine Ev.step (fun k => by rw [vault_counted.l0]) ?_
        refine Ev.neg (by omega) (Ev.have ?_)
        rw [show n = need.toNat - 1 - l.length by omega]
      | succ d ih =>
        intro n hd
        have := powN_bd n
        refine Ev.step (fun k => by rw [vault_counted.l0]) ?_
        refine Ev.pos (by omega) ?_
        rw [show wrap64 (powN n * 251) = powN n * 251 by unfold wrap64; omega, w_nat n (by omega)]
        exact ih (n + 1) (by omega)
    exact key (need.toNat - 1 - l.length) 0 (by omega)
  · refine Ev.neg c ?_
    rw [if_neg c, agree_f h]
    refine Ev.bind (Ev.now _) ?_
    by_cases a : agreeB need l = true
    · refine Ev.pos a ?_
      rw [if_pos a]
      refine Ev.pos (by omega) (Ev.pos (by omega) ?_)
      have e : vault_span_at.f (l.take need.toNat) 0 = some (rd (itp need.toNat l) 0) := by
        unfold vault_span_at.f
        rw [if_pos (by
          simp only [Bool.and_eq_true, decide_eq_true_eq]
          exact ⟨⟨⟨okSB_of (fun s hs => h.good s (List.mem_of_mem_take hs)), by omega⟩, by omega⟩, by rw [List.length_take]; omega⟩)]
        rw [lag_itp h.kd (by omega), ev_zero (itp_in _ _) (by rw [itp_len (by omega)]; omega)]
      rw [e]
      refine Ev.bind (Ev.now _) ?_
      by_cases q : rd (itp need.toNat l) 0 = s
      · exact Ev.pos q (Ev.have (by rw [if_pos q]))
      · exact Ev.neg q (Ev.have (by rw [if_neg q]))
    · exact Ev.neg a (Ev.have (by rw [if_neg a]))
def countE (need : Int) (l : List S61) (s : Int) : Int × Int := if checkE need l = 0 then (if btw 0 s 250 = true then (countR need l s, 0) else (0, 3)) else (0, checkE need l)
theorem Count_ev (need : Int) (l : List S61) (s : Int) : Ev (fun k => vault_Count.f k need l s) (countE need l s) := by
  unfold vault_Count.f countE
  rw [vcheck_f]
  refine Ev.bind (Ev.now _) ?_
  by_cases h : checkE need l = 0
  · rw [if_pos h]
    refine Ev.pos h ?_
    rw [btw_f]
    refine Ev.bind (Ev.now _) ?_
    by_cases c : btw 0 s 250 = true
    · exact Ev.pos c (Ev.bind (counted_ev (checkE_fine h) s) (Ev.have (by rw [if_pos c])))
    · exact Ev.neg c (Ev.have (by rw [if_neg c]))
  · exact Ev.neg h (Ev.have (by rw [if_neg h]))
end Go.Proofs.Ytpfkfbbekfkcgaa.P
end
section
namespace Go.Proofs.Ytpfkfbbekfkcgaa.P
open Go.RowKit Go.Proofs.YtpfkfbbekfkcgaaW.PrintWords Go.Proofs.YtpfkfbbekfkcgaaW.PrintLast Go.Proofs.YtpfkfbbekfkcgaaW.PrintMore
set_option linter.unusedVariables false
set_option linter.unusedSimpArgs false
theorem wf_u8 {x : Int} (h : (Lit.int .u8 x).wf = true) : 0 ≤ x ∧ x ≤ 255 := by
  simp only [Lit.wf, IntKind.min, IntKind.max, IntKind.signed, IntKind.bits, Bool.and_eq_true, decide_eq_true_eq, if_true] at h
  simpa using h
theorem nodup_len {α : Type} [DecidableEq α] : ∀ {l m : List α}, l.Nodup → (∀ x ∈ l, x ∈ m) → l.length ≤ m.length
  | [], _, _, _ => Nat.zero_le _
  | a :: l, m, h, hm => by
    rw [List.nodup_cons] at h
    have h1 := nodup_len (m := m.erase a) h.2 (fun x hx => (List.mem_erase_of_ne (fun e : x = a => h.1 (by rw [← e]; exact hx))).2 (hm x (List.mem_cons_of_mem _ hx)))
    have ha := hm a (List.mem_cons_self ..)
    have := List.length_pos_of_mem ha
    rw [List.length_erase_of_mem ha] at h1
    rw [List.length_cons]
    omega
def metL (m : List Int) : List Bool := (List.range 21).map fun j : Nat => decide ((j : Int) ∈ m)
theorem metL_rd (m : List Int) (k : Int) (k0 : 0 ≤ k) (k1 : k ≤ 20) : rdOf false (metL m) k = decide (k ∈ m) := by
  unfold rdOf metL
  rw [List.getD_eq_getElem?_getD, List.getElem?_map, List.getElem?_range (by omega)]
  simp [Int.toNat_of_nonneg k0]
theorem metL_set (m : List Int) (k : Int) (k0 : 0 ≤ k) : (metL m).set k.toNat true = metL (m ++ [k]) := by
  unfold metL
  refine List.ext_getElem (by simp) (fun j h1 h2 => ?_)
  rw [List.getElem_set]
  simp only [List.getElem_map, List.getElem_range, List.mem_append, List.mem_singleton]
  by_cases c : k.toNat = j
  · rw [if_pos c]
    have : (j : Int) = k := by omega
    simp [this]
  · rw [if_neg c]
    have : ¬ (j : Int) = k := by omega
    simp [this]
theorem metL_nil : metL [] = List.replicate 21 false := by decide
theorem fine_check {need : Int} {l : List S61} (h : Fine need l) : checkE need l = 0 := checkE_zero h.n0 h.n1 h.len h.good h.kd.nd
end Go.Proofs.Ytpfkfbbekfkcgaa.P
end
section
namespace Go.Proofs.Ytpfkfbbekfkcgaa.P
open Go.RowKit Go.Proofs.YtpfkfbbekfkcgaaW.PrintWords Go.Proofs.YtpfkfbbekfkcgaaW.PrintLast Go.Proofs.YtpfkfbbekfkcgaaW.PrintMore
set_option linter.unusedVariables false
set_option linter.unusedSimpArgs false
def offN (p : List K251) (l : List S61) : List Nat := (List.range l.length).filter fun j : Nat => !decide (eF p (fk (rd_T61 l j).f0) = fk (rd_T61 l j).f1)
def offL (p : List K251) (l : List S61) : List Int := (offN p l).map fun j : Nat => (j : Int)
theorem rest_all (l : List S61) : ((List.range l.length).map fun j : Nat => rd_T61 l j) = l := by
  refine List.ext_getElem (by simp) (fun i h1 h2 => ?_)
  rw [List.getElem_map, List.getElem_range, rd61_at l i h2]
theorem restOf_sub (x : List Int) (l : List S61) : (restOf x l l.length).Sublist l := by
  have h : (restOf x l l.length).Sublist ((List.range l.length).map fun j : Nat => rd_T61 l j) := List.filter_sublist.map _
  rwa [rest_all] at h
theorem restOf_mem (x : List Int) (l : List S61) (a : S61) : a ∈ restOf x l l.length ↔ ∃ j : Nat, j < l.length ∧ ¬ (j : Int) ∈ x ∧ rd_T61 l j = a := by
  unfold restOf
  rw [List.mem_map]
  constructor
  · rintro ⟨j, hj, rfl⟩
    rw [List.mem_filter, List.mem_range] at hj
    exact ⟨j, hj.1, by simpa using hj.2, rfl⟩
  · rintro ⟨j, hj, hx, rfl⟩
    exact ⟨j, by rw [List.mem_filter, List.mem_range]; exact ⟨hj, by simpa using hx⟩, rfl⟩
theorem fit_rest {n : Nat} {l : List S61} {x : List Int} : Fit n (restOf x l l.length) ↔ ∃ p : List K251, p.length = n ∧ ∀ i ∈ offL p l, i ∈ x := by
  constructor
  · rintro ⟨p, hp, ha⟩
    refine ⟨p, hp, fun i hi => ?_⟩
    obtain ⟨j, hj, rfl⟩ := List.mem_map.1 hi
    unfold offN at hj
    rw [List.mem_filter, List.mem_range] at hj
    by_cases c : (j : Int) ∈ x
    · exact c
    · have := ha (rd_T61 l j) ((restOf_mem x l _).2 ⟨j, hj.1, c, rfl⟩)
      have h2 := hj.2
      simp [this] at h2
  · rintro ⟨p, hp, ha⟩
    refine ⟨p, hp, fun a hm => ?_⟩
    obtain ⟨j, hj, hx, rfl⟩ := (restOf_mem x l a).1 hm
    by_cases c : eF p (fk (rd_T61 l j).f0) = fk (rd_T61 l j).f1
    · exact c
    · exact absurd (ha (j : Int) (List.mem_map.2 ⟨j, by unfold offN; rw [List.mem_filter, List.mem_range]; exact ⟨hj, by simpa using c⟩, rfl⟩)) hx
theorem tryB_fit {n : Nat} {l : List S61} (h : KD l) (x : List Int) : tryB (n : Int) l x = true ↔ ∃ p : List K251, p.length = n ∧ ∀ i ∈ offL p l, i ∈ x := by
  unfold tryB
  rw [agreeB_fit (h.sub (restOf_sub x l)), fit_rest]
structure Asc (n : Nat) (x : List Int) : Prop where
  lt : x.Pairwise (· < ·)
  r : ∀ i ∈ x, 0 ≤ i ∧ i < (n : Int)
theorem asc_ext {x y : List Int} (hx : x.Pairwise (· < ·)) (hy : y.Pairwise (· < ·)) (h : ∀ i, i ∈ x ↔ i ∈ y) : x = y := by
  induction x generalizing y with
  | nil =>
    cases y with
    | nil => rfl
    | cons b y => exact absurd ((h b).2 (List.mem_cons_self ..)) (by simp)
  | cons a x ih =>
    cases y with
    | nil => exact absurd ((h a).1 (List.mem_cons_self ..)) (by simp)
    | cons b y =>
      rw [List.pairwise_cons] at hx hy
      have e : a = b := by
        rcases List.mem_cons.1 ((h a).1 (List.mem_cons_self ..)) with e | ha
        · exact e
        · rcases List.mem_cons.1 ((h b).2 (List.mem_cons_self ..)) with e | hb
          · exact e.symm
          · have := hy.1 a ha
            have := hx.1 b hb
            omega
      subst e
      congr 1
      refine ih hx.2 hy.2 (fun i => ?_)
      constructor
      · intro hi
        rcases List.mem_cons.1 ((h i).1 (List.mem_cons_of_mem _ hi)) with e | hi'
        · have := hx.1 i hi; omega
        · exact hi'
      · intro hi
        rcases List.mem_cons.1 ((h i).2 (List.mem_cons_of_mem _ hi)) with e | hi'
        · have := hy.1 i hi; omega
        · exact hi'
theorem asc_nodup {x : List Int} (hx : x.Pairwise (· < ·)) : x.Nodup := hx.imp (fun h => by omega)
theorem asc_sub {x y : List Int} (hx : x.Pairwise (· < ·)) (hy : y.Pairwise (· < ·)) (h : ∀ i ∈ x, i ∈ y) (hl : y.length ≤ x.length) : x = y := by
  refine asc_ext hx hy (fun i => ⟨h i, fun hi => ?_⟩)
  by_cases c : i ∈ x
  · exact c
  · have := nodup_len (l := i :: x) (m := y) (List.nodup_cons.2 ⟨c, asc_nodup hx⟩) (fun j hj => by
      rcases List.mem_cons.1 hj with e | hj
      · rw [e]; exact hi
      · exact h j hj)
    simp at this
    omega
theorem offL_asc (p : List K251) (l : List S61) : Asc l.length (offL p l) := by
  constructor
  · unfold offL
    rw [List.pairwise_map]
    have : (offN p l).Pairwise (· < ·) := List.Pairwise.filter _ List.pairwise_lt_range
    exact this.imp (fun h => by omega)
  · intro i hi
    obtain ⟨j, hj, rfl⟩ := List.mem_map.1 hi
    unfold offN at hj
    rw [List.mem_filter, List.mem_range] at hj
    omega
theorem combos_iff : ∀ (d r : Nat) (f : Int) (b x : List Int), x ∈ combos d r f b ↔ ∃ y, x = b ++ y ∧ y.length = d ∧ y.Pairwise (· < ·) ∧ ∀ i ∈ y, f ≤ i ∧ i < f + r
  | 0, r, f, b, x => by
    have e : combos 0 r f b = [b] := by cases r <;> rfl
    rw [e, List.mem_singleton]
    constructor
    · rintro rfl; exact ⟨[], by simp, rfl, List.Pairwise.nil, fun _ h => by cases h⟩
    · rintro ⟨y, rfl, hy, _⟩
      rw [List.length_eq_zero_iff] at hy
      subst hy; simp
  | d + 1, 0, f, b, x => by
    simp only [combos, List.not_mem_nil, false_iff]
    rintro ⟨y, _, hy, _, hr⟩
    cases y with
    | nil => simp at hy
    | cons a y => have := hr a (List.mem_cons_self ..); omega
  | d + 1, r + 1, f, b, x => by
    unfold combos
    rw [List.mem_append, combos_iff d r (f + 1) (b ++ [f]) x, combos_iff (d + 1) r (f + 1) b x]
    constructor
    · rintro (⟨y, rfl, hy, hp, hr⟩ | ⟨y, rfl, hy, hp, hr⟩)
      · refine ⟨f :: y, by simp, by simp [hy], List.pairwise_cons.2 ⟨fun i hi => by have := hr i hi; omega, hp⟩, fun i hi => ?_⟩
        rcases List.mem_cons.1 hi with e | hi
        · omega
        · have := hr i hi; omega
      · exact ⟨y, rfl, hy, hp, fun i hi => by have := hr i hi; omega⟩
    · rintro ⟨y, rfl, hy, hp, hr⟩
      cases y with
      | nil => simp at hy
      | cons a y =>
        rw [List.pairwise_cons] at hp
        by_cases c : a = f
        · subst c
          exact .inl ⟨y, by simp, by simpa using hy, hp.2, fun i hi => by have := hp.1 i hi; have := hr i (List.mem_cons_of_mem _ hi); omega⟩
        · refine .inr ⟨a :: y, rfl, hy, List.pairwise_cons.2 hp, fun i hi => ?_⟩
          have ha := hr a (List.mem_cons_self ..)
          rcases List.mem_cons.1 hi with e | hi'
          · omega
          · have := hp.1 i hi'; have := hr i hi; omega
theorem all_iff (n s : Nat) (x : List Int) : x ∈ allCombos n s ↔ x.length = s ∧ Asc n x := by
  unfold allCombos
  rw [combos_iff]
  constructor
  · rintro ⟨y, rfl, hy, hp, hr⟩
    exact ⟨by simpa using hy, ⟨by simpa using hp, fun i hi => by have := hr i (by simpa using hi); omega⟩⟩
  · rintro ⟨hl, hp, hr⟩
    exact ⟨x, rfl, hl, hp, fun i hi => by have := hr i hi; omega⟩
theorem wrongFrom_some (need : Int) (l : List S61) : ∀ (k s : Nat) (x : List Int), wrongFrom need l k s = some x → ∃ s', s ≤ s' ∧ s' < s + k ∧ x ∈ allCombos l.length s' ∧ tryB need l x = true ∧ ∀ s'', s ≤ s'' → s'' < s' → ∀ y ∈ allCombos l.length s'', tryB need l y = false
  | 0, s, x, h => by simp [wrongFrom] at h
  | k + 1, s, x, h => by
    unfold wrongFrom at h
    cases hf : (allCombos l.length s).find? (tryB need l) with
    | some y =>
      rw [hf] at h
      injection h with h
      subst h
      exact ⟨s, Nat.le_refl _, by omega, List.mem_of_find?_eq_some hf, List.find?_some hf, fun s'' h1 h2 => by omega⟩
    | none =>
      rw [hf] at h
      obtain ⟨s', h1, h2, h3, h4, h5⟩ := wrongFrom_some need l k (s + 1) x h
      refine ⟨s', by omega, by omega, h3, h4, fun s'' g1 g2 y hy => ?_⟩
      by_cases c : s'' = s
      · subst c
        have := List.find?_eq_none.1 hf y hy
        simpa using this
      · exact h5 s'' (by omega) g2 y hy
theorem wrongFrom_none (need : Int) (l : List S61) : ∀ (k s : Nat), wrongFrom need l k s = none → ∀ s'', s ≤ s'' → s'' < s + k → ∀ y ∈ allCombos l.length s'', tryB need l y = false
  | 0, s, _, s'', h1, h2, _, _ => by omega
  | k + 1, s, h, s'', h1, h2, y, hy => by
    unfold wrongFrom at h
    cases hf : (allCombos l.length s).find? (tryB need l) with
    | some y => rw [hf] at h; cases h
    | none =>
      rw [hf] at h
      by_cases c : s'' = s
      · subst c
        have := List.find?_eq_none.1 hf y hy
        simpa using this
      · exact wrongFrom_none need l k (s + 1) h s'' (by omega) (by omega) y hy
theorem off_unique {n most : Nat} {l : List S61} (h : KD l) (hl : n + 2 * most ≤ l.length) {p q : List K251} (hp : p.length = n) (hq : q.length = n) {x y : List Int}
    (hx : ∀ i ∈ offL p l, i ∈ x) (hy : ∀ i ∈ offL q l, i ∈ y) (lx : x.length ≤ most) (ly : y.length ≤ most) : p = q := by
  have hk := h.sub (restOf_sub (x ++ y) l)
  have on : ∀ (r : List K251), (∀ i ∈ offL r l, i ∈ x ++ y) → ∀ a ∈ restOf (x ++ y) l l.length, eF r (fk a.f0) = fk a.f1 := by
    intro r hr a ha
    obtain ⟨j, hj, hn, rfl⟩ := (restOf_mem _ l a).1 ha
    by_cases c : eF r (fk (rd_T61 l j).f0) = fk (rd_T61 l j).f1
    · exact c
    · exact absurd (hr (j : Int) (List.mem_map.2 ⟨j, by unfold offN; rw [List.mem_filter, List.mem_range]; exact ⟨hj, by simpa using c⟩, rfl⟩)) hn
  have hlen : n ≤ (restOf (x ++ y) l l.length).length := by
    unfold restOf
    rw [List.length_map]
    have h1 := nodup_len (l := (List.range l.length).map fun j : Nat => (j : Int)) (m := (((List.range l.length).filter fun j : Nat => !decide ((j : Int) ∈ x ++ y)).map fun j : Nat => (j : Int)) ++ (x ++ y))
      (nodup_map List.nodup_range (fun a _ b _ e => by omega)) (fun i hi => by
        obtain ⟨j, hj, rfl⟩ := List.mem_map.1 hi
        rw [List.mem_range] at hj
        by_cases c : (j : Int) ∈ x ++ y
        · exact List.mem_append_right _ c
        · exact List.mem_append_left _ (List.mem_map.2 ⟨j, by rw [List.mem_filter, List.mem_range]; exact ⟨hj, by rw [decide_eq_false c]; rfl⟩, rfl⟩))
    simp only [List.length_append, List.length_map, List.length_range] at h1
    omega
  exact fit_unique hk (by omega) (by omega) (on p (fun i hi => List.mem_append_left _ (hx i hi))) (on q (fun i hi => List.mem_append_right _ (hy i hi)))
theorem wrong_is {n most : Nat} {l : List S61} (h : KD l) (hl : n + 2 * most ≤ l.length) {p : List K251} (hp : p.length = n) (ho : (offL p l).length ≤ most) : wrongFrom (n : Int) l (most + 1) 0 = some (offL p l) := by
  have hmem : offL p l ∈ allCombos l.length (offL p l).length := (all_iff _ _ _).2 ⟨rfl, offL_asc p l⟩
  have htry : tryB (n : Int) l (offL p l) = true := (tryB_fit h _).2 ⟨p, hp, fun i hi => hi⟩
  cases hw : wrongFrom (n : Int) l (most + 1) 0 with
  | none =>
    have := wrongFrom_none _ l _ _ hw (offL p l).length (by omega) (by omega) _ hmem
    rw [htry] at this
    cases this
  | some x =>
    obtain ⟨s', h1, h2, h3, h4, h5⟩ := wrongFrom_some _ l _ _ x hw
    obtain ⟨hxl, hxa⟩ := (all_iff _ _ _).1 h3
    obtain ⟨q, hq, hqx⟩ := (tryB_fit h x).1 h4
    have e : p = q := off_unique h hl hp hq (x := offL p l) (y := x) (fun i hi => hi) hqx ho (by omega)
    subst e
    have hle : x.length ≤ (offL p l).length := by
      by_cases c : x.length ≤ (offL p l).length
      · exact c
      · have := h5 (offL p l).length (by omega) (by omega) _ hmem
        rw [htry] at this
        cases this
    rw [asc_sub (offL_asc p l).lt hxa.lt hqx hle]
theorem wrong_none {n most : Nat} {l : List S61} (h : KD l) (hno : ∀ p : List K251, p.length = n → most < (offL p l).length) : wrongFrom (n : Int) l (most + 1) 0 = none := by
  cases hw : wrongFrom (n : Int) l (most + 1) 0 with
  | none => rfl
  | some x =>
    obtain ⟨s', h1, h2, h3, h4, h5⟩ := wrongFrom_some _ l _ _ x hw
    obtain ⟨hxl, hxa⟩ := (all_iff _ _ _).1 h3
    obtain ⟨q, hq, hqx⟩ := (tryB_fit h x).1 h4
    have := hno q hq
    have := nodup_len (asc_nodup (offL_asc q l).lt) hqx
    omega
def wrongR (need most : Int) (l : List S61) : List Int × Int :=
  if checkE need l ≠ 0 then ([], checkE need l) else if btw 0 most 3 = false then ([], 3) else if (l.length : Int) < need + 2 * most then ([], 8) else
    match wrongFrom need l (most.toNat + 1) 0 with | some x => (sortI (keeps x l), 0) | none => ([], 15)
theorem Wrong_f (need most : Int) (l : List S61) : vault_Wrong.f need most l = some (wrongR need most l) := rfl
theorem sorted_eq {x y : List Int} (hx : x.Pairwise (· ≤ ·)) (hy : y.Pairwise (· ≤ ·)) (h : x.Perm y) : x = y := by
  induction x generalizing y with
  | nil => rw [List.nil_perm.1 h]
  | cons a x ih =>
    cases y with
    | nil => exact absurd h.length_eq (by simp)
    | cons b y =>
      rw [List.pairwise_cons] at hx hy
      have e : a = b := by
        have h1 : b ∈ a :: x := h.mem_iff.2 (List.mem_cons_self ..)
        have h2 : a ∈ b :: y := h.mem_iff.1 (List.mem_cons_self ..)
        rcases List.mem_cons.1 h1 with e | h1
        · exact e.symm
        · rcases List.mem_cons.1 h2 with e | h2
          · exact e
          · have := hx.1 b h1
            have := hy.1 a h2
            omega
      subst e
      rw [ih hx.2 hy.2 (List.perm_cons a |>.1 h)]
theorem sortI_perm (x : List Int) : (sortI x).Perm x := List.mergeSort_perm _ _
theorem sortI_sorted (x : List Int) : (sortI x).Pairwise (· ≤ ·) := by
  have := List.pairwise_mergeSort (le := fun a b : Int => decide (a ≤ b)) (fun a b c h1 h2 => by simp at *; omega) (fun a b => by simp; omega) x
  exact this.imp (fun h => by simpa using h)
theorem sortI_eq {x y : List Int} (hy : y.Pairwise (· ≤ ·)) (h : y.Perm x) : sortI x = y := sorted_eq (sortI_sorted x) hy ((sortI_perm x).trans h.symm)
end Go.Proofs.Ytpfkfbbekfkcgaa.P
end
section
namespace Go.Proofs.Ytpfkfbbekfkcgaa.P
open Go.RowKit Go.Proofs.YtpfkfbbekfkcgaaW.PrintWords Go.Proofs.YtpfkfbbekfkcgaaW.PrintLast Go.Proofs.YtpfkfbbekfkcgaaW.PrintMore
set_option linter.unusedVariables false
set_option linter.unusedSimpArgs false
theorem Fine.perm {need : Int} {s t : List S61} (h : Fine need s) (p : s.Perm t) : Fine need t :=
  ⟨h.n0, h.n1, by rw [← p.length_eq]; exact h.len, fun a ha => h.good a (p.mem_iff.2 ha), h.kd.perm p⟩
theorem fit_perm {n : Nat} {s t : List S61} (p : s.Perm t) : Fit n s ↔ Fit n t :=
  ⟨fun h => h.mono (fun a ha => p.mem_iff.2 ha), fun h => h.mono (fun a ha => p.mem_iff.1 ha)⟩
theorem agreeB_perm {need : Int} {s t : List S61} (h : Fine need s) (p : s.Perm t) : agreeB need s = agreeB need t := by
  have n0 := h.n0
  have hn : ((need.toNat : Nat) : Int) = need := by omega
  have h1 := agreeB_fit (n := need.toNat) h.kd
  have h2 := agreeB_fit (n := need.toNat) (h.kd.perm p)
  rw [hn] at h1 h2
  rw [Bool.eq_iff_iff]
  exact h1.trans ((fit_perm p).trans h2.symm)
theorem agreeR_perm {need : Int} {s t : List S61} (h : Fine need s) (p : s.Perm t) : agreeR need s = agreeR need t := by
  unfold agreeR
  rw [if_pos (fine_check h), if_pos (fine_check (h.perm p)), agreeB_perm h p]
theorem itp_perm {need : Int} {s t : List S61} (h : Fine need s) (p : s.Perm t) (hl : need ≤ s.length) (ha : agreeB need s = true) : itp need.toNat s = itp need.toNat t := by
  have n0 := h.n0
  have hn : ((need.toNat : Nat) : Int) = need := by omega
  have h1 := agreeB_fit (n := need.toNat) h.kd
  rw [hn] at h1
  obtain ⟨q, hq, hqa⟩ := h1.1 ha
  have e1 := itp_only h.kd (n := need.toNat) (by omega) hq (fun a hm => hqa a (List.mem_of_mem_take hm))
  have e2 := itp_only (h.kd.perm p) (n := need.toNat) (by rw [← p.length_eq]; omega) hq (fun a hm => hqa a (p.mem_iff.2 (List.mem_of_mem_take hm)))
  exact all_fk (itp_in _ _) (itp_in _ _) (e1.trans e2.symm)
theorem restoreR_perm {need : Int} {s t : List S61} (h : Fine need s) (p : s.Perm t) : restoreR need s = restoreR need t := by
  have ht := h.perm p
  unfold restoreR
  rw [if_neg (show ¬ checkE need s ≠ 0 from fun hh => hh (fine_check h)), if_neg (show ¬ checkE need t ≠ 0 from fun hh => hh (fine_check ht)), ← p.length_eq]
  by_cases c : (s.length : Int) < need
  · rw [if_pos c, if_pos c]
  · rw [if_neg c, if_neg c, agree_le h (by omega), agree_le ht (by rw [← p.length_eq]; omega), ← agreeB_perm h p]
    by_cases a : agreeB need s = true
    · rw [if_neg (by simp [a]), if_neg (by simp [a])]
      have := itp_perm h p (by omega) a
      unfold itp at this
      rw [this]
    · rw [if_pos (by simpa using a), if_pos (by simpa using a)]
theorem countE_perm {need : Int} {s t : List S61} (h : Fine need s) (p : s.Perm t) (x : Int) : countE need s x = countE need t x := by
  have ht := h.perm p
  unfold countE
  rw [if_pos (fine_check h), if_pos (fine_check ht)]
  have e : countR need s x = countR need t x := by
    unfold countR
    rw [← p.length_eq, ← agreeB_perm h p]
    by_cases c : (s.length : Int) < need
    · rw [if_pos c, if_pos c]
    · rw [if_neg c, if_neg c]
      by_cases a : agreeB need s = true
      · rw [if_pos a, if_pos a, itp_perm h p (by omega) a]
      · rw [if_neg a, if_neg a]
  rw [e]
def offS (p : List K251) (l : List S61) : List S61 := l.filter fun a => !decide (eF p (fk a.f0) = fk a.f1)
theorem keeps_off (p : List K251) (l : List S61) : keeps (offL p l) l = (offS p l).map S61.f0 := by
  unfold keeps offL offN
  rw [List.map_map]
  have h : ∀ m : List S61, offS p m = ((List.range m.length).filter fun j : Nat => !decide (eF p (fk (rd_T61 m j).f0) = fk (rd_T61 m j).f1)).map fun j : Nat => rd_T61 m j := by
    intro m
    have e := rest_all m
    have : offS p m = ((List.range m.length).map fun j : Nat => rd_T61 m j).filter fun a => !decide (eF p (fk a.f0) = fk a.f1) := by rw [e]; rfl
    rw [this, List.filter_map]
    rfl
  rw [h l, List.map_map]
  rfl
theorem offL_len (p : List K251) (l : List S61) : (offL p l).length = (offS p l).length := by
  have := keeps_off p l
  have := congrArg List.length this
  unfold keeps at this
  simpa using this
theorem offS_perm (q : List K251) {s t : List S61} (p : s.Perm t) : (offS q s).Perm (offS q t) := p.filter _
theorem sortI_perm_eq {x y : List Int} (h : x.Perm y) : sortI x = sortI y := sortI_eq (sortI_sorted y) ((sortI_perm y).trans h.symm)
theorem wrongR_perm {need most : Int} {s t : List S61} (h : Fine need s) (p : s.Perm t) (m0 : 0 ≤ most) : wrongR need most s = wrongR need most t := by
  have ht := h.perm p
  have n0 := h.n0
  have hn : ((need.toNat : Nat) : Int) = need := by omega
  have hm : ((most.toNat : Nat) : Int) = most := by omega
  unfold wrongR
  rw [if_neg (show ¬ checkE need s ≠ 0 from fun hh => hh (fine_check h)), if_neg (show ¬ checkE need t ≠ 0 from fun hh => hh (fine_check ht)), ← p.length_eq]
  by_cases c1 : btw 0 most 3 = false
  · rw [if_pos c1, if_pos c1]
  · rw [if_neg c1, if_neg c1]
    by_cases c : (s.length : Int) < need + 2 * most
    · rw [if_pos c, if_pos c]
    · rw [if_neg c, if_neg c]
      by_cases e : ∃ q : List K251, q.length = need.toNat ∧ (offL q s).length ≤ most.toNat
      · obtain ⟨q, hq, ho⟩ := e
        have hot : (offL q t).length ≤ most.toNat := by rw [offL_len] at ho ⊢; rw [← (offS_perm q p).length_eq]; exact ho
        have w1 := wrong_is (n := need.toNat) (most := most.toNat) h.kd (by omega) hq ho
        have w2 := wrong_is (n := need.toNat) (most := most.toNat) ht.kd (by rw [← p.length_eq]; omega) hq hot
        rw [hn] at w1 w2
        rw [w1, w2]
        show (sortI (keeps (offL q s) s), (0 : Int)) = (sortI (keeps (offL q t) t), 0)
        rw [keeps_off, keeps_off, sortI_perm_eq ((offS_perm q p).map S61.f0)]
      · have w1 := wrong_none (n := need.toNat) (most := most.toNat) h.kd (fun q hq => by
          by_cases g : most.toNat < (offL q s).length
          · exact g
          · exact absurd ⟨q, hq, by omega⟩ e)
        have w2 := wrong_none (n := need.toNat) (most := most.toNat) ht.kd (fun q hq => by
          by_cases g : most.toNat < (offL q t).length
          · exact g
          · refine absurd ⟨q, hq, ?_⟩ e
            rw [offL_len] at g ⊢
            rw [(offS_perm q p).length_eq]
            omega)
        rw [hn] at w1 w2
        rw [w1, w2]
theorem turn_perm (s : List S61) (r : Nat) (hr : r ≤ s.length) : s.Perm (s.drop r ++ s.take r) := by
  have h1 : (s.take r ++ s.drop r).Perm (s.drop r ++ s.take r) := List.perm_append_comm
  rwa [List.take_append_drop] at h1
end Go.Proofs.Ytpfkfbbekfkcgaa.P
end
section
namespace Go.Proofs.Ytpfkfbbekfkcgaa.Pure
open Go.RowKit Go.Proofs.Ytpfkfbbekfkcgaa.P Go.Proofs.YtpfkfbbekfkcgaaW.PrintWords Go.Proofs.YtpfkfbbekfkcgaaW.PrintLast
theorem rd64_at (l : List S64) (n : Nat) (h : n < l.length) : rd_T64 l (n : Int) = l[n] := by
  unfold rd_T64
  rw [Int.toNat_natCast, List.getD_eq_getElem?_getD, List.getElem?_eq_getElem h]; rfl
def turned (s : List S61) (t i : Nat) : List S61 := (List.range i).map fun j : Nat => rd_T61 s (((j + t) % s.length : Nat) : Int)
theorem turned_eq (s : List S61) (t : Nat) (h : 0 < s.length) : turned s t s.length = s.drop (t % s.length) ++ s.take (t % s.length) := by
  have hr := Nat.mod_lt t h
  rw [show turned s t s.length = (List.range s.length).map fun j : Nat => rd_T61 s (((j + t) % s.length : Nat) : Int) from rfl]
  refine List.ext_getElem (by simp; omega) (fun j h1 h2 => ?_)
  have hj : j < s.length := by simpa using h1
  have e : (j + t) % s.length = if j + t % s.length < s.length then j + t % s.length else j + t % s.length - s.length := by
    rw [← Nat.add_mod_mod]
    split
    · exact Nat.mod_eq_of_lt (by assumption)
    · rw [Nat.mod_eq_sub_mod (by omega), Nat.mod_eq_of_lt (by omega)]
  rw [List.getElem_map, List.getElem_range, rd61_at _ _ (Nat.mod_lt _ h), List.getElem_append]
  split
  · rename_i c
    rw [List.length_drop] at c
    rw [List.getElem_drop]
    congr 1
    rw [e, if_pos (by omega)]; omega
  · rename_i c
    rw [List.length_drop] at c
    rw [List.getElem_take]
    congr 1
    rw [e, if_neg (by omega), List.length_drop]; omega
theorem order_end {need : Int} {s t : List S61} (hf : Fine need s) (p : s.Perm t) (x3 : Int) : Ev (fun k => (vault_Agree.f need s).bind fun bt668 => ((vault_Agree.f need t).bind fun bt670 => ((vault_Restore.f need s).bind fun bt672 => ((vault_Restore.f need t).bind fun bt676 => ((vault_Count.f k need s x3).bind fun bt680 => ((vault_Count.f k need t x3).bind fun bt682 => ((vault_Wrong.f need 1 s).bind fun bt684 => ((vault_Wrong.f need 1 t).bind fun bt688 => (if (bt668.1 == bt670.1) = true then (if bt668.2 = bt670.2 then ((pianolalaw09_numbers.f k bt672.1 bt676.1).bind fun t692 => (if t692 = true then (if bt672.2 = bt676.2 then (if bt680.1 = bt682.1 then (if bt680.2 = bt682.2 then ((pianolalaw09_numbers.f k bt684.1 bt688.1).bind fun t693 => (if t693 = true then (if bt684.2 = bt688.2 then ((pianolalaw09_works.f).bind fun t694 => (some t694)) else (some false)) else (some false))) else (some false)) else (some false)) else (some false)) else (some false))) else (some false)) else (some false)))))))))) true := by
  have hl := hf.len
  have r1 : (restoreR need s).1.length ≤ 60 := by
    unfold restoreR
    split
    · simp
    · split
      · simp
      · split
        · simp
        · show (solved (s.take need.toNat)).1.length ≤ 60
          rw [solved_len, List.length_take]; omega
  have r2 : (wrongR need 1 s).1.length ≤ 60 := by
    unfold wrongR
    split
    · simp
    · split
      · simp
      · split
        · simp
        · split
          · rename_i x hx
            obtain ⟨s', _, h2, h3, _, _⟩ := wrongFrom_some _ _ _ _ _ hx
            obtain ⟨h4, _⟩ := (all_iff _ _ _).1 h3
            show (sortI (keeps x s)).length ≤ 60
            rw [(sortI_perm _).length_eq]
            unfold keeps
            rw [List.length_map]
            have : (1 : Int).toNat = 1 := rfl
            omega
          · simp
  rw [Agree_f, Agree_f, Restore_f, Restore_f, Wrong_f, Wrong_f, ← agreeR_perm hf p, ← restoreR_perm hf p, ← wrongR_perm hf p (by omega)]
  have c2 := Count_ev need t x3
  rw [← countE_perm hf p x3] at c2
  refine Ev.bind (Ev.now _) (Ev.bind (Ev.now _) (Ev.bind (Ev.now _) (Ev.bind (Ev.now _) (Ev.bind (Count_ev need s x3) (Ev.bind c2 (Ev.bind (Ev.now _) (Ev.bind (Ev.now _) ?_)))))))
  refine Ev.pos (by simp) (Ev.pos rfl (Ev.bind (numbers_ev _ _ (by omega)) (Ev.pos (by simp) (Ev.pos rfl (Ev.pos rfl (Ev.pos rfl (Ev.bind (numbers_ev _ _ (by omega)) (Ev.pos (by simp) (Ev.pos rfl (Ev.have rfl))))))))))
theorem order_l1 {need : Int} {s : List S61} (hf : Fine need s) (x1 x3 : Int) (h10 : 0 ≤ x1) (h11 : x1 ≤ 255) :
    ∀ (d n : Nat), n + d = s.length → Ev (fun k => pianolalaw09_VaultOrder.l1 k x1 x3 need s (turned s x1.toNat n) (s.length : Int) (n : Int)) true := by
  have hl := hf.len
  intro d
  induction d with
  | zero =>
    intro n hd
    have : n = s.length := by omega
    subst this
    refine Ev.step (fun k => by rw [pianolalaw09_VaultOrder.l1]) ?_
    refine Ev.neg (by omega) ?_
    refine order_end hf ?_ _
    by_cases c : 0 < s.length
    · rw [turned_eq s _ c]
      exact turn_perm s _ (Nat.le_of_lt (Nat.mod_lt _ c))
    · have e : s = [] := List.length_eq_zero_iff.1 (by omega)
      subst e
      exact List.Perm.refl _
  | succ d ih =>
    intro n hd
    have hn : n < s.length := by omega
    have h1 := ih (n + 1) (by omega)
    have e1 : Int.tmod (wrap64 ((n : Int) + (wrap64 x1))) (s.length : Int) = (((n + x1.toNat) % s.length : Nat) : Int) := by
      rw [show wrap64 x1 = x1 by unfold wrap64; omega, show wrap64 ((n : Int) + x1) = ((n + x1.toNat : Nat) : Int) by unfold wrap64; omega, Int.tmod_eq_emod_of_nonneg (by omega)]
      simp
    have hm := Nat.mod_lt (n + x1.toNat) (show 0 < s.length by omega)
    refine Ev.step (fun k => by rw [pianolalaw09_VaultOrder.l1]) ?_
    rw [e1]
    refine Ev.pos (by omega) (Ev.neg (by omega) (Ev.pos (by omega) (Ev.pos (by omega) (Ev.pos (by simp [turned]; omega) ?_))))
    have e2 : turned s x1.toNat (n + 1) = turned s x1.toNat n ++ [rd_T61 s (((n + x1.toNat) % s.length : Nat) : Int)] := by
      unfold turned
      rw [List.range_succ, List.map_append]; rfl
    rw [e2] at h1
    rw [w_nat n (by omega)]
    exact h1
theorem VaultOrder (l : List S64) (a1 a2 a3 : Int) (wl : ∀ s ∈ l, (Lit.int .u8 s.f0).wf = true ∧ (Lit.int .u8 s.f1).wf = true) (w1 : (Lit.int .u8 a1).wf = true) (w2 : (Lit.int .u8 a2).wf = true) (_ : (Lit.int .u8 a3).wf = true) :
    ∃ k, pianolalaw09_VaultOrder.f k l a1 a2 a3 = some true := by
  obtain ⟨a10, a11⟩ := wf_u8 w1
  obtain ⟨a20, a21⟩ := wf_u8 w2
  refine Ev.rounds ?_
  unfold pianolalaw09_VaultOrder.f
  refine Ev.pos (by omega) ?_
  have en : wrap64 (1 + (Int.tmod (wrap64 a2) 5)) = 1 + a2 % 5 := by
    rw [show wrap64 a2 = a2 by unfold wrap64; omega, Int.tmod_eq_emod_of_nonneg a20]; unfold wrap64; omega
  rw [en, ← metL_nil]
  have stop : ∀ (i : Nat) (m : List Int) (s : List S61), s.map S61.f0 = m → m.Nodup → (∀ a ∈ s, P.Good a) → s.length ≤ 8 → Ev (fun k => pianolalaw09_VaultOrder.j1 k l a1 a3 (1 + a2 % 5) (metL m) s ([] : List S61) (i : Int) false) true := by
    intro i m s hm hn hg hs
    refine Ev.step (fun k => by rw [pianolalaw09_VaultOrder.j1]) ?_
    refine Ev.neg (by simp) ?_
    refine order_l1 ⟨by omega, by omega, by omega, hg, ⟨by rw [hm]; exact hn, fun a ha => ?_, fun a ha => ?_⟩⟩ a1 a3 a10 a11 s.length 0 (by omega)
    · have := hg a ha; exact ⟨by have := this.1; omega, by have := this.2.1; omega⟩
    · have := hg a ha; exact ⟨this.2.2.1, this.2.2.2⟩
  have key : ∀ (d i : Nat) (m : List Int) (s : List S61), i + d = 8 → s.map S61.f0 = m → m.Nodup → (∀ a ∈ s, P.Good a) → s.length ≤ i → Ev (fun k => pianolalaw09_VaultOrder.l0 k l a1 a3 (1 + a2 % 5) (metL m) s (i : Int)) true := by
    intro d
    induction d with
    | zero =>
      intro i m s hd hm hn hg hs
      refine Ev.step (fun k => by rw [pianolalaw09_VaultOrder.l0]) ?_
      by_cases c : i < l.length
      · refine Ev.pos (by omega) ?_
        rw [decide_eq_false (show ¬ (i : Int) < 8 by omega)]
        exact stop i m s hm hn hg (by omega)
      · exact Ev.neg (by omega) (stop i m s hm hn hg (by omega))
    | succ d ih =>
      intro i m s hd hm hn hg hs
      refine Ev.step (fun k => by rw [pianolalaw09_VaultOrder.l0]) ?_
      by_cases c : i < l.length
      · refine Ev.pos (by omega) ?_
        rw [decide_eq_true (show (i : Int) < 8 by omega)]
        refine Ev.step (fun k => by rw [pianolalaw09_VaultOrder.j1]) ?_
        have hw := wl _ (List.getElem_mem c)
        obtain ⟨p0, p1⟩ := wf_u8 hw.1
        obtain ⟨q0, q1⟩ := wf_u8 hw.2
        refine Ev.pos rfl (Ev.pos (by omega) (Ev.pos (by omega) ?_))
        have e1 : wrap64 (1 + (Int.tmod (wrap64 l[i].f0) 20)) = 1 + l[i].f0 % 20 := by
          rw [show wrap64 l[i].f0 = l[i].f0 by unfold wrap64; omega, Int.tmod_eq_emod_of_nonneg p0]; unfold wrap64; omega
        have e2 : Int.tmod (wrap64 l[i].f1) 251 = l[i].f1 % 251 := by
          rw [show wrap64 l[i].f1 = l[i].f1 by unfold wrap64; omega, Int.tmod_eq_emod_of_nonneg q0]
        rw [rd64_at l i c, e1, e2]
        refine Ev.pos (by omega) (Ev.pos (by simp [metL]; omega) ?_)
        rw [metL_rd m _ (by omega) (by omega), w_nat i (by omega)]
        by_cases cm : (1 + l[i].f0 % 20) ∈ m
        · exact Ev.pos (by simpa using cm) (ih (i + 1) m s (by omega) hm hn hg (by omega))
        · refine Ev.neg (by simpa using cm) (Ev.pos (by omega) ?_)
          rw [metL_set m _ (by omega)]
          refine ih (i + 1) (m ++ [1 + l[i].f0 % 20]) _ (by omega) (by rw [List.map_append, hm]; rfl) (List.nodup_append.2 ⟨hn, by simp, fun a ha b hb e => by rw [List.mem_singleton] at hb; subst hb; subst e; exact cm ha⟩) (fun a ha => ?_) (by simp; omega)
          rcases List.mem_append.1 ha with h | h
          · exact hg a h
          · rw [List.mem_singleton] at h
            subst h
            exact ⟨by show 1 ≤ 1 + l[i].f0 % 20; omega, by show 1 + l[i].f0 % 20 ≤ 20; omega, by show 0 ≤ l[i].f1 % 251; omega, by show l[i].f1 % 251 ≤ 250; omega⟩
      · exact Ev.neg (by omega) (stop i m s hm hn hg (by omega))
  exact key 8 0 [] [] (by omega) rfl List.nodup_nil (fun a h => by cases h) (by simp)
end Go.Proofs.Ytpfkfbbekfkcgaa.Pure
end
