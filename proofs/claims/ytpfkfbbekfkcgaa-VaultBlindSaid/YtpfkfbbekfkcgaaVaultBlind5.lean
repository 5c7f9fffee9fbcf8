/- Words and contracts for a claim. -/
import Derived.Test.YtpfkfbbekfkcgaaVaultBlind4

section
namespace Go.Proofs.Ytpfkfbbekfkcgaa.Pure
open Go.RowKit Go.Proofs.Ytpfkfbbekfkcgaa.P Go.Proofs.YtpfkfbbekfkcgaaW.PrintWords Go.Proofs.YtpfkfbbekfkcgaaW.PrintLast
def cntN (P : Nat → Bool) (n : Nat) : Nat := (List.range n).countP P
theorem cntN_succ (P : Nat → Bool) (n : Nat) : cntN P (n + 1) = if P n = true then cntN P n + 1 else cntN P n := by
  unfold cntN
  rw [List.range_succ, List.countP_append, List.countP_singleton]
  split <;> simp
theorem cntN_le (P : Nat → Bool) (n : Nat) : cntN P n ≤ n := by
  unfold cntN
  have := List.countP_le_length (p := P) (l := List.range n)
  simpa using this
theorem cntN_all {P : Nat → Bool} : ∀ {n : Nat}, (∀ i, i < n → P i = true) → cntN P n = n
  | 0, _ => rfl
  | n + 1, h => by
    rw [cntN_succ, if_pos (h n (by omega)), cntN_all (fun i hi => h i (by omega))]
theorem cntN_none {P : Nat → Bool} : ∀ {n : Nat}, (∀ i, i < n → P i = false) → cntN P n = 0
  | 0, _ => rfl
  | n + 1, h => by
    rw [cntN_succ, if_neg (by rw [h n (by omega)]; simp), cntN_none (fun i hi => h i (by omega))]
theorem cntN_one {P : Nat → Bool} {j : Nat} : ∀ {n : Nat}, j < n → P j = true → (∀ i, i < n → P i = true → i = j) → cntN P n = 1
  | 0, h, _, _ => by omega
  | n + 1, h, hj, hu => by
    rw [cntN_succ]
    by_cases c : j = n
    · subst c
      rw [if_pos hj, cntN_none (fun i hi => by
        cases hp : P i with
        | false => rfl
        | true => have := hu i (by omega) hp; omega)]
    · rw [if_neg (fun hp => c (hu n (by omega) hp).symm), cntN_one (by omega) hj (fun i hi hp => hu i (by omega) hp)]
def goodB (s : List S61) (a b : Nat) : Bool := s.all fun x => decide (((a : Int) + (b : Int) * x.f0) % 251 = x.f1)
theorem goodB_iff {s : List S61} (h : KD s) (a b : Nat) : goodB s a b = true ↔ ∀ x ∈ s, eF [fk (a : Int), fk (b : Int)] (fk x.f0) = fk x.f1 := by
  unfold goodB
  rw [List.all_eq_true]
  have e : ∀ x ∈ s, (decide (((a : Int) + (b : Int) * x.f0) % 251 = x.f1) = true ↔ eF [fk (a : Int), fk (b : Int)] (fk x.f0) = fk x.f1) := by
    intro x hx
    rw [decide_eq_true_iff]
    have hv := h.v x hx
    have h1 : eF [fk (a : Int), fk (b : Int)] (fk x.f0) = fk (((a : Int) + (b : Int) * x.f0) % 251) := by
      rw [fk_mod, fk_add, fk_mul]
      simp only [eF]
      grind
    rw [h1]
    exact ⟨fun e => by rw [e], fun e => fk_inj (mod_in _).1 (mod_in _).2 hv.1 hv.2 e⟩
  exact ⟨fun hh x hx => (e x hx).1 (hh x hx), fun hh x hx => (e x hx).2 (hh x hx)⟩
theorem fk_nat (k : K251) : fk ((k.val : Nat) : Int) = k := fk_of (by omega)
theorem list1 {p : List K251} (h : p.length = 1) : ∃ a, p = [a] := by
  match p, h with
  | [a], _ => exact ⟨a, rfl⟩
theorem list2 {p : List K251} (h : p.length = 2) : ∃ a b, p = [a, b] := by
  match p, h with
  | [a, b], _ => exact ⟨a, b, rfl⟩
theorem rd_zero {p : List Int} {a : K251} {q : List K251} (hp : all251 p) (h : p.map fk = a :: q) : rd p 0 = (a.val : Int) := by
  cases p with
  | nil => simp at h
  | cons c p =>
    simp only [List.map_cons, List.cons.injEq] at h
    obtain ⟨c0, c1⟩ := hp c (by simp)
    show c = _
    have := fk_val c
    rw [h.1] at this
    omega
theorem count_one {s : List S61} (h : Fine 1 s) (a : Nat) (ha : a < 251) : countR 1 s (a : Int) = (cntN (goodB s a) 1 : Int) := by
  have hg := goodB_iff h.kd a 0
  have hc1 : cntN (goodB s a) 1 = if goodB s a 0 = true then 1 else 0 := by
    rw [cntN_succ]; rfl
  have hz : ∀ x : K251, eF [fk (a : Int), fk ((0 : Nat) : Int)] x = eF [fk (a : Int)] x := fun x => by
    show _ = _
    simp only [eF]
    rw [show fk ((0 : Nat) : Int) = 0 from rfl]
    grind
  unfold countR
  by_cases c : (s.length : Int) < 1
  · rw [if_pos c]
    have hs : s = [] := List.length_eq_zero_iff.1 (by omega)
    subst hs
    rw [hc1]
    rfl
  · rw [if_neg c]
    have hfit := agreeB_fit (n := 1) h.kd
    have h1 : ((1 : Nat) : Int) = 1 := rfl
    rw [h1] at hfit
    by_cases ag : agreeB 1 s = true
    · rw [if_pos ag]
      obtain ⟨p, hp, hpa⟩ := hfit.1 ag
      obtain ⟨a0, rfl⟩ := list1 hp
      have e := itp_only h.kd (n := 1) (by omega) hp (fun x hx => hpa x (List.mem_of_mem_take hx))
      have er := rd_zero (itp_in 1 s) e
      rw [show (1 : Int).toNat = 1 from rfl, er, hc1]
      by_cases q : (a0.val : Int) = (a : Int)
      · have hq : fk (a : Int) = a0 := by rw [← q]; exact fk_nat a0
        rw [if_pos q, if_pos (hg.2 (fun x hx => by rw [hz, hq]; exact hpa x hx))]
        rfl
      · rw [if_neg q, if_neg (fun hh => q ?_)]
        · rfl
        · have hf := hg.1 hh
          have e2 := itp_only h.kd (n := 1) (by omega) (p := [fk (a : Int)]) rfl (fun x hx => by rw [← hz]; exact hf x (List.mem_of_mem_take hx))
          rw [e] at e2
          injection e2 with e2
          rw [e2, fk_val]
          omega
    · rw [if_neg ag, hc1, if_neg (fun hh => ag (hfit.2 ⟨[fk (a : Int)], rfl, fun x hx => by rw [← hz]; exact hg.1 hh x hx⟩))]
      rfl
theorem count_two {s : List S61} (h : Fine 2 s) (a : Nat) (ha : a < 251) : countR 2 s (a : Int) = (cntN (goodB s a) 251 : Int) := by
  have hg := fun b => goodB_iff h.kd a b
  unfold countR
  by_cases c : (s.length : Int) < 2
  · rw [if_pos c, show (2 : Int).toNat = 2 from rfl]
    by_cases c0 : s.length = 0
    · have hs : s = [] := List.length_eq_zero_iff.1 c0
      subst hs
      rw [cntN_all (P := goodB [] a) (fun i _ => rfl)]
      decide
    · have c1 : s.length = 1 := by omega
      rw [c1]
      match s, c1 with
      | [x], _ =>
        have hx := h.good x (by simp)
        have hk : fk x.f0 ≠ 0 := fun e => by
          have h1 := fk_val x.f0
          rw [e] at h1
          have := hx.1
          have := hx.2.1
          simp at h1
          omega
        have hi := inv_ex _ hk
        rw [cntN_one (j := ((fk x.f1 - fk (a : Int)) * iF (fk x.f0)).val) (Fin.isLt _) ?_ ?_]
        · rfl
        · rw [hg]
          intro y hy
          rw [List.mem_singleton] at hy
          subst hy
          rw [fk_nat]
          simp only [eF]
          grind
        · intro i hi2 hp
          have := (hg i).1 hp x (by simp)
          simp only [eF] at this
          have e : fk (i : Int) = (fk x.f1 - fk (a : Int)) * iF (fk x.f0) := by grind
          rw [← e]
          have := fk_val (i : Int)
          omega
  · rw [if_neg c]
    have hfit := agreeB_fit (n := 2) h.kd
    have h1 : ((2 : Nat) : Int) = 2 := rfl
    rw [h1] at hfit
    by_cases ag : agreeB 2 s = true
    · rw [if_pos ag]
      obtain ⟨p, hp, hpa⟩ := hfit.1 ag
      obtain ⟨a0, b0, rfl⟩ := list2 hp
      have only : ∀ {q : List K251}, q.length = 2 → (∀ x ∈ s, eF q (fk x.f0) = fk x.f1) → q = [a0, b0] := fun hq hqa => fit_unique h.kd (by rw [hq]; rfl) (by rw [hq]; omega) hqa hpa
      have e := itp_only h.kd (n := 2) (by omega) hp (fun x hx => hpa x (List.mem_of_mem_take hx))
      have er := rd_zero (itp_in 2 s) e
      rw [show (2 : Int).toNat = 2 from rfl, er]
      by_cases q : (a0.val : Int) = (a : Int)
      · have hq : fk (a : Int) = a0 := by rw [← q]; exact fk_nat a0
        rw [if_pos q, cntN_one (j := b0.val) (Fin.isLt _) ?_ ?_]
        · rfl
        · rw [hg, fk_nat, hq]
          exact hpa
        · intro i hi hp2
          have := only rfl ((hg i).1 hp2)
          injection this with _ this
          injection this with this
          rw [← this]
          have := fk_val (i : Int)
          omega
      · rw [if_neg q, cntN_none (fun i hi => ?_)]
        · rfl
        · cases hb : goodB s a i with
          | false => rfl
          | true =>
            have := only rfl ((hg i).1 hb)
            injection this with this _
            exact absurd (by rw [← this, fk_val]; omega) q
    · rw [if_neg ag, cntN_none (fun i hi => ?_)]
      · rfl
      · cases hb : goodB s a i with
        | false => rfl
        | true => exact absurd (hfit.2 ⟨_, rfl, (hg i).1 hb⟩) ag
section
variable {need : Int} {s : List S61} {B : Nat}
def row (s : List S61) (B n : Nat) : List Int := (List.range n).map fun a : Nat => (cntN (goodB s a) B : Int)
theorem row_len (s : List S61) (B n : Nat) : (row s B n).length = n := by simp [row]
theorem row_succ (s : List S61) (B n : Nat) : row s B (n + 1) = row s B n ++ [(cntN (goodB s n) B : Int)] := by
  unfold row
  rw [List.range_succ, List.map_append]; rfl
theorem blind_l2 (hf : Fine need s) (a b : Nat) (ha : a < 251) (hb : b < 251) (x12 : List Int) (hx : x12.length = 251) (hr : 0 ≤ rd x12 (a : Int)) (hr2 : rd x12 (a : Int) ≤ 1000) (R : Bool)
    (Hy : goodB s a b = true → Ev (fun k => pianolalaw09_VaultBlind.l1 k need s (x12.set a (rd x12 (a : Int) + 1)) (a : Int) ((b + 1 : Nat) : Int)) R)
    (Hn : goodB s a b = false → Ev (fun k => pianolalaw09_VaultBlind.l1 k need s x12 (a : Int) ((b + 1 : Nat) : Int)) R) :
    ∀ (d n : Nat), n + d = s.length → Ev (fun k => pianolalaw09_VaultBlind.l2 k need s x12 (a : Int) (b : Int) (goodB (s.take n) a b) s (s.length : Int) (n : Int)) R := by
  have hl := hf.len
  intro d
  induction d with
  | zero =>
    intro n hd
    refine Ev.step (fun k => by rw [pianolalaw09_VaultBlind.l2]) ?_
    refine Ev.neg (by omega) ?_
    rw [List.take_of_length_le (by omega), w_nat b (by omega)]
    by_cases c : goodB s a b = true
    · refine Ev.pos c (Ev.pos (by omega) (Ev.pos (by omega) ?_))
      rw [Int.toNat_natCast, show wrap64 (rd x12 (a : Int) + 1) = rd x12 (a : Int) + 1 by unfold wrap64; omega]
      exact Hy c
    · exact Ev.neg c (Hn (by simpa using c))
  | succ d ih =>
    intro n hd
    have hn : n < s.length := by omega
    obtain ⟨k0, k1⟩ := hf.kd.k _ (List.getElem_mem hn)
    refine Ev.step (fun k => by rw [pianolalaw09_VaultBlind.l2]) ?_
    refine Ev.pos (by omega) (Ev.pos (by omega) (Ev.pos (by omega) ?_))
    have h1 := ih (n + 1) (by omega)
    rw [rd61_at s n hn, w_nat n (by omega)]
    have p := mul_bd (b : Int) s[n].f0 ⟨by omega, by omega⟩ ⟨k0, k1⟩
    have e : goodB (s.take (n + 1)) a b = (goodB (s.take n) a b && decide (((a : Int) + (b : Int) * s[n].f0) % 251 = s[n].f1)) := by
      unfold goodB
      rw [take_at s n hn, List.all_append]; simp
    rw [e] at h1
    by_cases c : goodB (s.take n) a b = true
    · refine Ev.pos c ?_
      rw [show wrap64 ((b : Int) * s[n].f0) = (b : Int) * s[n].f0 by unfold wrap64; omega, show wrap64 ((a : Int) + (b : Int) * s[n].f0) = (a : Int) + (b : Int) * s[n].f0 by unfold wrap64; omega, Int.tmod_eq_emod_of_nonneg (by omega)]
      rw [c, Bool.true_and] at h1
      exact h1
    · refine Ev.neg c ?_
      rw [Bool.not_eq_true] at c
      rw [c, Bool.false_and] at h1
      exact h1
theorem blind_l1 (hf : Fine need s) (hB : B ≤ 251) (hneed : (need = 2 ∧ B = 251) ∨ (need = 1 ∧ B = 1)) (a : Nat) (ha : a < 251) (R : Bool) (post : List Int) (hpost : post.length = 250 - a)
    (H : Ev (fun k => pianolalaw09_VaultBlind.l0 k need s (row s B a ++ (cntN (goodB s a) B : Int) :: post) ((a + 1 : Nat) : Int)) R) :
    ∀ (d b : Nat), b + d = B → Ev (fun k => pianolalaw09_VaultBlind.l1 k need s (row s B a ++ (cntN (goodB s a) b : Int) :: post) (a : Int) (b : Int)) R := by
  have stop : ∀ (x12 : List Int) (b : Nat), Ev (fun k => pianolalaw09_VaultBlind.l0 k need s x12 ((a + 1 : Nat) : Int)) R → Ev (fun k => pianolalaw09_VaultBlind.j6 k need s x12 (a : Int) (b : Int) false) R := by
    intro x12 b h
    refine Ev.step (fun k => by rw [pianolalaw09_VaultBlind.j6]) ?_
    refine Ev.neg (by simp) ?_
    rw [w_nat a (by omega)]
    exact h
  intro d
  induction d with
  | zero =>
    intro b hb
    have : b = B := by omega
    subst this
    refine Ev.step (fun k => by rw [pianolalaw09_VaultBlind.l1]) ?_
    rcases hneed with ⟨h1, h2⟩ | ⟨h1, h2⟩
    · exact Ev.neg (by omega) (stop _ _ H)
    · refine Ev.pos (by omega) (Ev.neg (by omega) ?_)
      rw [show ((b : Int) == 0) = false by rw [h2]; rfl]
      exact stop _ _ H
  | succ d ih =>
    intro b hb
    have hb2 : b < 251 := by omega
    refine Ev.step (fun k => by rw [pianolalaw09_VaultBlind.l1]) ?_
    have h1 := ih (b + 1) (by omega)
    rw [cntN_succ] at h1
    have hc := cntN_le (goodB s a) b
    have er : rd (row s B a ++ (cntN (goodB s a) b : Int) :: post) (a : Int) = (cntN (goodB s a) b : Int) := by
      have := rd_mid (row s B a) (cntN (goodB s a) b : Int) post
      rwa [row_len] at this
    have es : (row s B a ++ (cntN (goodB s a) b : Int) :: post).set a (rd (row s B a ++ (cntN (goodB s a) b : Int) :: post) (a : Int) + 1) = row s B a ++ ((cntN (goodB s a) b + 1 : Nat) : Int) :: post := by
      rw [er]
      have := set_mid (row s B a) (cntN (goodB s a) b : Int) ((cntN (goodB s a) b : Int) + 1) post
      rw [row_len] at this
      rw [this]
      congr 1
    have go : Ev (fun k => pianolalaw09_VaultBlind.j6 k need s (row s B a ++ (cntN (goodB s a) b : Int) :: post) (a : Int) (b : Int) true) R := by
      refine Ev.step (fun k => by rw [pianolalaw09_VaultBlind.j6]) ?_
      refine Ev.pos rfl ?_
      refine blind_l2 hf a b ha hb2 _ (by rw [List.length_append, List.length_cons, row_len, hpost]; omega) (by rw [er]; omega) (by rw [er]; omega) R (fun hg => ?_) (fun hg => ?_) s.length 0 (by omega)
      · rw [es]
        rw [if_pos hg] at h1
        exact h1
      · rw [if_neg (by rw [hg]; simp)] at h1
        exact h1
    refine Ev.pos (by omega) ?_
    rcases hneed with ⟨g1, g2⟩ | ⟨g1, g2⟩
    · exact Ev.pos g1 go
    · refine Ev.neg (by omega) ?_
      rw [show ((b : Int) == 0) = true by rw [show b = 0 by omega]; rfl]
      exact go
theorem blind_l3 (hf : Fine need s) (hcnt : ∀ a : Nat, a < 251 → countR need s (a : Int) = (cntN (goodB s a) B : Int)) :
    ∀ (d n : Nat), n + d = 251 → Ev (fun k => pianolalaw09_VaultBlind.l3 k need s (possTo need s n) (row s B 251) ((row s B 251).length : Int) (n : Int)) true := by
  have he := fine_check hf
  have n0 := hf.n0
  intro d
  induction d with
  | zero =>
    intro n hd
    have : n = 251 := by omega
    subst this
    refine Ev.step (fun k => by rw [pianolalaw09_VaultBlind.l3]) ?_
    refine Ev.neg (by rw [row_len]; omega) (Ev.bind (Possible_ev need s) ?_)
    rw [Agree_f]
    refine Ev.bind (Ev.now _) ?_
    have e1 : possR need s = (possTo need s 251, 0) := by unfold possR; rw [if_pos he]
    have e2 : agreeR need s = (agreeB need s, 0) := by unfold agreeR; rw [if_pos he]
    rw [e1, e2]
    have hlen := possTo_len need s 251
    refine Ev.pos rfl (Ev.pos rfl (Ev.bind (numbers_ev _ _ (show (possTo need s 251).length ≤ 1000000 by omega)) (Ev.pos (by simp) ?_)))
    have key : (agreeB need s == decide (((possTo need s 251).length : Int) > 0)) = true ∧ ((s.length : Int) < need → (possTo need s 251).length = 251) := by
      by_cases c : (s.length : Int) < need
      · have hp : ∀ x : Int, countR need s x > 0 := fun x => by
          unfold countR
          rw [if_pos c]
          have := powN_bd (need.toNat - 1 - s.length); omega
        have hl : (possTo need s 251).length = 251 := by
          unfold possTo
          rw [List.length_map, List.filter_eq_self.2 (fun x _ => by simpa using hp x)]
          simp
        have ha : agreeB need s = true := by unfold agreeB; rw [if_pos (by omega)]
        exact ⟨by rw [ha, hl]; rfl, fun _ => hl⟩
      · refine ⟨?_, fun h => absurd h c⟩
        by_cases ag : agreeB need s = true
        · have hin := itp_in need.toNat s
          have hil := itp_len (n := need.toNat) (l := s) (by omega)
          have hb : F251 (rd (itp need.toNat s) 0) := by
            have := rd_at (itp need.toNat s) 0 (by omega)
            rw [show ((0 : Nat) : Int) = 0 from rfl] at this
            rw [this]
            exact hin _ (List.getElem_mem _)
          have hm : rd (itp need.toNat s) 0 ∈ possTo need s 251 := by
            unfold possTo
            rw [List.mem_map]
            refine ⟨(rd (itp need.toNat s) 0).toNat, ?_, by have := hb.1; omega⟩
            rw [List.mem_filter, List.mem_range]
            refine ⟨by have := hb.2; have := hb.1; omega, ?_⟩
            rw [show (((rd (itp need.toNat s) 0).toNat : Nat) : Int) = rd (itp need.toNat s) 0 by have := hb.1; omega]
            unfold countR
            rw [if_neg c, if_pos ag, if_pos rfl]
            rfl
          have := List.length_pos_of_mem hm
          rw [ag, decide_eq_true (show ((possTo need s 251).length : Int) > 0 by omega)]
          rfl
        · have hl : possTo need s 251 = [] := by
            unfold possTo
            rw [List.map_eq_nil_iff, List.filter_eq_nil_iff]
            intro x _
            unfold countR
            rw [if_neg c, if_neg ag]
            simp
          rw [Bool.not_eq_true] at ag
          rw [ag, hl]
          rfl
    refine Ev.pos key.1 ?_
    by_cases c : (s.length : Int) ≥ need
    · exact Ev.pos c (Ev.have rfl)
    · refine Ev.neg c (Ev.pos ?_ (Ev.have rfl))
      have := key.2 (by omega)
      show ((possTo need s 251).length : Int) = 251
      omega
  | succ d ih =>
    intro n hd
    have hn : n < 251 := by omega
    have hr : rd (row s B 251) (n : Int) = (cntN (goodB s n) B : Int) := by
      rw [rd_at _ n (by rw [row_len]; exact hn)]
      simp [row]
    refine Ev.step (fun k => by rw [pianolalaw09_VaultBlind.l3]) ?_
    refine Ev.pos (by rw [row_len]; omega) (Ev.pos (by omega) (Ev.pos (by rw [row_len]; omega) (Ev.bind (Count_ev need s (n : Int)) ?_)))
    have e : countE need s (n : Int) = (countR need s (n : Int), 0) := by
      unfold countE
      rw [if_pos he, if_pos (P.btw_iff.2 ⟨by omega, by omega⟩)]
    rw [e, hr, hcnt n hn]
    refine Ev.pos rfl ?_
    refine Ev.step (fun k => by rw [pianolalaw09_VaultBlind.j9]) ?_
    refine Ev.neg (by simp) ?_
    have h1 := ih (n + 1) (by omega)
    rw [possTo_succ, hcnt n hn] at h1
    have hl := possTo_len need s n
    rw [w_nat n (by omega)]
    by_cases c : (cntN (goodB s n) B : Int) > 0
    · rw [if_pos c] at h1
      exact Ev.pos c (Ev.pos (by omega) h1)
    · rw [if_neg c] at h1
      exact Ev.neg c h1
theorem blind_j3 (hf : Fine need s) (hneed : (need = 2 ∧ B = 251) ∨ (need = 1 ∧ B = 1)) : Ev (fun k => pianolalaw09_VaultBlind.j3 k need s) true := by
  have hB : B ≤ 251 := by rcases hneed with ⟨_, h⟩ | ⟨_, h⟩ <;> omega
  have hcnt : ∀ a : Nat, a < 251 → countR need s (a : Int) = (cntN (goodB s a) B : Int) := by
    intro a ha
    rcases hneed with ⟨rfl, rfl⟩ | ⟨rfl, rfl⟩
    · exact count_two hf a ha
    · exact count_one hf a ha
  refine Ev.step (fun k => by rw [pianolalaw09_VaultBlind.j3]) ?_
  refine Ev.pos (by omega) ?_
  have key : ∀ (d a : Nat), a + d = 251 → Ev (fun k => pianolalaw09_VaultBlind.l0 k need s (row s B a ++ List.replicate (251 - a) 0) (a : Int)) true := by
    intro d
    induction d with
    | zero =>
      intro a hd
      have : a = 251 := by omega
      subst this
      refine Ev.step (fun k => by rw [pianolalaw09_VaultBlind.l0]) ?_
      refine Ev.neg (by omega) ?_
      rw [show 251 - 251 = 0 from rfl, List.replicate_zero, List.append_nil]
      exact blind_l3 hf hcnt 251 0 (by omega)
    | succ d ih =>
      intro a hd
      refine Ev.step (fun k => by rw [pianolalaw09_VaultBlind.l0]) ?_
      refine Ev.pos (by omega) ?_
      have h1 := ih (a + 1) (by omega)
      rw [row_succ, List.append_assoc, List.singleton_append] at h1
      have := blind_l1 hf hB hneed a (by omega) true (List.replicate (251 - (a + 1)) 0) (by simp) h1 B 0 (by omega)
      rw [show 251 - a = (251 - (a + 1)) + 1 by omega, List.replicate_succ]
      exact this
  have := key 251 0 (by omega)
  exact this
end
theorem set_last {l : List S61} (P : S61 → Prop) (h : ∀ s ∈ l, P s) (i : Nat) (y : S61) (hy : P y) : ∀ s ∈ l.set i y, P s := by
  intro s hs
  rcases List.mem_or_eq_of_mem_set hs with h1 | h1
  · exact h s h1
  · rw [h1]; exact hy
theorem blind_j1 {need : Int} {s : List S61} {B : Nat} (hf : Fine need s) (hneed : (need = 2 ∧ B = 251) ∨ (need = 1 ∧ B = 1)) (x2 : Int) (h0 : 0 ≤ x2) (h1 : x2 ≤ 255) : Ev (fun k => pianolalaw09_VaultBlind.j1 k x2 need s) true := by
  have hl := hf.len
  refine Ev.step (fun k => by rw [pianolalaw09_VaultBlind.j1]) ?_
  by_cases c : (s.length : Int) > 0
  · refine Ev.pos c ?_
    refine Ev.step (fun k => by rw [pianolalaw09_VaultBlind.j2]) ?_
    by_cases c2 : x2 < 128
    · refine Ev.pos (by simpa using c2) ?_
      rw [show wrap64 ((s.length : Int) - 1) = ((s.length - 1 : Nat) : Int) by unfold wrap64; omega, show wrap64 x2 = x2 by unfold wrap64; omega]
      refine Ev.pos (by omega) (Ev.pos (by omega) ?_)
      have hi : s.length - 1 < s.length := by omega
      rw [rd61_at s _ hi, Int.toNat_natCast]
      have hkeep : (s.set (s.length - 1) ⟨s[s.length - 1].f0, x2⟩).map S61.f0 = s.map S61.f0 := by
        refine List.ext_getElem (by simp) (fun j g1 g2 => ?_)
        rw [List.getElem_map, List.getElem_map, List.getElem_set]
        split
        · rename_i e; subst e; rfl
        · rfl
      have hg : ∀ a ∈ s.set (s.length - 1) ⟨s[s.length - 1].f0, x2⟩, P.Good a := by
        refine set_last P.Good hf.good _ _ ?_
        have := hf.good _ (List.getElem_mem hi)
        exact ⟨this.1, this.2.1, by show 0 ≤ x2; omega, by show x2 ≤ 250; omega⟩
      refine blind_j3 (B := B) ⟨hf.n0, hf.n1, by rw [List.length_set]; exact hl, hg, ⟨by rw [hkeep]; exact hf.kd.nd, fun a ha => ?_, fun a ha => ?_⟩⟩ hneed
      · have := hg a ha; exact ⟨by have := this.1; omega, by have := this.2.1; omega⟩
      · have := hg a ha; exact ⟨this.2.2.1, this.2.2.2⟩
    · exact Ev.neg (by simpa using c2) (blind_j3 hf hneed)
  · refine Ev.neg c ?_
    refine Ev.step (fun k => by rw [pianolalaw09_VaultBlind.j2]) ?_
    exact Ev.neg (by simp) (blind_j3 hf hneed)
theorem VaultBlind (a0 a1 : Int) (l : List Int) (a2 : Int) (a3 : Bool) (w0 : (Lit.int .u8 a0).wf = true) (w1 : (Lit.int .u8 a1).wf = true) (_ : l.length ≤ maxLen) (y : l.length * 1 ≤ 140737488351232) (wl : ∀ x ∈ l, (Lit.int .u8 x).wf = true) (w2 : (Lit.int .u8 a2).wf = true) :
    ∃ k, pianolalaw09_VaultBlind.f k a0 a1 l a2 a3 = some true := by
  obtain ⟨a00, a01⟩ := wf_u8 w0
  obtain ⟨a10, a11⟩ := wf_u8 w1
  obtain ⟨a20, a21⟩ := wf_u8 w2
  refine Ev.rounds ?_
  unfold pianolalaw09_VaultBlind.f
  refine Ev.bind (Ev.now _) ?_
  rw [show wrap64 a0 = a0 by unfold wrap64; omega, show wrap64 a1 = a1 by unfold wrap64; omega, Int.tmod_eq_emod_of_nonneg a00, Int.tmod_eq_emod_of_nonneg a10]
  obtain ⟨kp, hk, hev⟩ := some_ex l (bytes_of wl) (by omega) 0 (by omega)
  have go : ∀ (need : Int) (B : Nat) (c : List Int), all251 c → c.length = 2 → ((need = 2 ∧ B = 251) ∨ (need = 1 ∧ B = 1)) → Ev (fun k => pianolalaw09_VaultBlind.j0 k l a2 need c) true := by
    intro need B c hc hcl hneed
    have hn : 1 ≤ need ∧ need ≤ 8 := by rcases hneed with ⟨h, _⟩ | ⟨h, _⟩ <;> omega
    have hf := onS_fine hk c hn.1 hn.2
    refine Ev.step (fun k => by rw [pianolalaw09_VaultBlind.j0]) ?_
    refine Ev.bind (hev c hc (by omega)) ?_
    by_cases g : ((onS c kp).length : Int) > 4
    · refine Ev.pos g (Ev.pos (by omega) ?_)
      have hs := List.take_sublist (4 : Int).toNat (onS c kp)
      exact blind_j1 ⟨hf.n0, hf.n1, Nat.le_trans hs.length_le hf.len, fun s h => hf.good s (hs.subset h), hf.kd.sub hs⟩ hneed a2 a20 a21
    · exact Ev.neg g (blind_j1 hf hneed a2 a20 a21)
  by_cases c : a3 = true
  · refine Ev.pos c (Ev.pos (by simp) ?_)
    refine go 1 1 _ ?_ rfl (.inr ⟨rfl, rfl⟩)
    intro x hx
    have : x = a0 % 251 ∨ x = 0 := by simpa using hx
    rcases this with e | e
    · rw [e]; exact mod_in _
    · rw [e]; exact ⟨by omega, by omega⟩
  · refine Ev.neg c ?_
    refine go 2 251 _ ?_ rfl (.inl ⟨rfl, rfl⟩)
    intro x hx
    have : x = a0 % 251 ∨ x = a1 % 251 := by simpa using hx
    rcases this with e | e
    · rw [e]; exact mod_in _
    · rw [e]; exact mod_in _
end Go.Proofs.Ytpfkfbbekfkcgaa.Pure
end
