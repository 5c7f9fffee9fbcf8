/- Words and contracts for a claim. -/
import Derived.Test.YtpfkfbbekfkcgaaVaultWrongs4

section
namespace Go.Proofs.Ytpfkfbbekfkcgaa.P
open Go.RowKit Go.Proofs.YtpfkfbbekfkcgaaW.PrintWords Go.Proofs.YtpfkfbbekfkcgaaW.PrintLast Go.Proofs.YtpfkfbbekfkcgaaW.PrintMore
set_option linter.unusedVariables false
set_option linter.unusedSimpArgs false
theorem and_one (q : Nat) (h : q < 2 ^ 20) : Go.bits .and .i64 (q : Int) 1 = (q : Int) % 2 := by
  have hw : ∀ n : Int, 0 ≤ n → n < 2 ^ 20 → IntKind.i64.wrap n = n := fun n h0 h1 => by rw [IntKind.wrap_i64]; omega
  exact bits_mask .i64 20 (by decide) hw 1 (by decide) (q : Int) (by omega) (by omega)
theorem bit_int (m i : Nat) (hm : m < 2 ^ 20) (hi : i ≤ 20) : (Go.bits .and .i64 (shr .i64 (m : Int) (i : Int)) 1 = 0) ↔ m.testBit i = false := by
  have e1 : shr .i64 (m : Int) (i : Int) = ((m / 2 ^ i : Nat) : Int) := by
    unfold shr
    rw [Int.toNat_natCast, Nat.min_eq_left (by show i ≤ 64; omega)]
    simp
  have h2 : m / 2 ^ i < 2 ^ 20 := Nat.lt_of_le_of_lt (Nat.div_le_self _ _) hm
  rw [e1, and_one _ h2, Nat.testBit_eq_decide_div_mod_eq]
  simp only [decide_eq_false_iff_not]
  generalize m / 2 ^ i = q
  omega
def bitL (m n : Nat) : List Nat := (List.range n).filter fun i => m.testBit i
theorem bitL_succ (m n : Nat) : bitL m (n + 1) = if m.testBit n = true then bitL m n ++ [n] else bitL m n := by
  unfold bitL
  rw [List.range_succ, List.filter_append]
  by_cases c : m.testBit n = true
  · simp [c]
  · simp [c]
def bitI (m n : Nat) : List Int := (bitL m n).map fun i : Nat => (i : Int)
theorem bitI_mem (m n j : Nat) (hj : j < n) : ((j : Int) ∈ bitI m n) ↔ m.testBit j = true := by
  unfold bitI bitL
  rw [List.mem_map]
  constructor
  · rintro ⟨i, hi, e⟩
    rw [List.mem_filter, List.mem_range] at hi
    have : i = j := by omega
    subst this
    exact hi.2
  · intro h
    exact ⟨j, by rw [List.mem_filter, List.mem_range]; exact ⟨hj, h⟩, rfl⟩
theorem bitI_asc (m n : Nat) : Asc n (bitI m n) := by
  constructor
  · unfold bitI
    rw [List.pairwise_map]
    have : (bitL m n).Pairwise (· < ·) := List.Pairwise.filter _ List.pairwise_lt_range
    exact this.imp (fun h => by omega)
  · intro i hi
    obtain ⟨j, hj, rfl⟩ := List.mem_map.1 hi
    unfold bitL at hj
    rw [List.mem_filter, List.mem_range] at hj
    omega
theorem bits_ex (P : Nat → Bool) : ∀ n : Nat, ∃ m, m < 2 ^ n ∧ ∀ i, i < n → m.testBit i = P i := by
  intro n
  induction n generalizing P with
  | zero => exact ⟨0, by simp, fun i h => by omega⟩
  | succ n ih =>
    obtain ⟨m, hm, h⟩ := ih (fun i => P (i + 1))
    have e : (2 * m + (P 0).toNat) / 2 = m := by cases P 0 <;> simp <;> omega
    refine ⟨2 * m + (P 0).toNat, ?_, fun i hi => ?_⟩
    · rw [Nat.pow_succ]
      cases P 0 <;> simp <;> omega
    · cases i with
      | zero =>
        rw [Nat.testBit_zero]
        cases P 0 <;> simp <;> omega
      | succ i =>
        rw [Nat.testBit_succ, e]
        exact h i (by omega)
theorem asc_bits (n : Nat) (x : List Int) (h : Asc n x) : ∃ m, m < 2 ^ n ∧ bitI m n = x := by
  obtain ⟨m, hm, hb⟩ := bits_ex (fun i => decide ((i : Int) ∈ x)) n
  refine ⟨m, hm, asc_ext (bitI_asc m n).lt h.lt (fun i => ?_)⟩
  constructor
  · intro hi
    have hr := (bitI_asc m n).r i hi
    obtain ⟨j, rfl⟩ : ∃ j : Nat, (j : Int) = i := ⟨i.toNat, by omega⟩
    have := (bitI_mem m n j (by omega)).1 hi
    rw [hb j (by omega)] at this
    simpa using this
  · intro hi
    have hr := h.r i hi
    obtain ⟨j, rfl⟩ : ∃ j : Nat, (j : Int) = i := ⟨i.toNat, by omega⟩
    refine (bitI_mem m n j (by omega)).2 ?_
    rw [hb j (by omega)]
    simpa using hi
def takenS (l : List S61) (m n : Nat) : List S61 := (bitL m n).map fun j : Nat => rd_T61 l j
theorem takenS_succ (l : List S61) (m n : Nat) : takenS l m (n + 1) = if m.testBit n = true then takenS l m n ++ [rd_T61 l n] else takenS l m n := by
  unfold takenS
  rw [bitL_succ]
  split
  · rw [List.map_append]; rfl
  · rfl
theorem left_ev (l : List S61) (hl : l.length ≤ 20) (m : Nat) (hm : m < 2 ^ 20) : Ev (fun k => pianolaref09_left.f k (l.map g91) (m : Int)) ((restOf (bitI m l.length) l l.length).map g91, (takenS l m l.length).map g91) := by
  unfold pianolaref09_left.f
  have key : ∀ (d n : Nat), n + d = l.length → Ev (fun k => pianolaref09_left.l0 k (l.map g91) (m : Int) ((restOf (bitI m l.length) l n).map g91) ((takenS l m n).map g91) (n : Int)) ((restOf (bitI m l.length) l l.length).map g91, (takenS l m l.length).map g91) := by
    intro d
    induction d with
    | zero =>
      intro n hd
      refine Ev.step (fun k => by rw [pianolaref09_left.l0]) ?_
      refine Ev.neg (by simp; omega) (Ev.have ?_)
      rw [show n = l.length by omega]
    | succ d ih =>
      intro n hd
      have hn : n < l.length := by omega
      have h1 := ih (n + 1) (by omega)
      have hb := bit_int m n hm (by omega)
      have hr := restOf_len (bitI m l.length) l n
      have ht : (takenS l m n).length ≤ n := by
        unfold takenS bitL
        rw [List.length_map]
        have := List.length_filter_le (fun i => m.testBit i) (List.range n)
        simpa using this
      refine Ev.step (fun k => by rw [pianolaref09_left.l0]) ?_
      refine Ev.pos (by simp; omega) (Ev.pos (by omega) ?_)
      rw [rd91_g l n hn, w_nat n (by omega)]
      by_cases c : m.testBit n = true
      · refine Ev.neg (fun e => by rw [hb.1 e] at c; cases c) (Ev.pos (by simp; omega) ?_)
        rw [takenS_succ, if_pos c, restOf_in ((bitI_mem m _ n hn).2 c), List.map_append, rd61_at l n hn] at h1
        exact h1
      · refine Ev.pos (hb.2 (by simpa using c)) (Ev.pos (by simp; omega) ?_)
        rw [takenS_succ, if_neg c, restOf_out (fun h => c ((bitI_mem m _ n hn).1 h)), List.map_append, rd61_at l n hn] at h1
        exact h1
  exact key l.length 0 (by omega)
theorem taken_keeps (l : List S61) (m : Nat) : (takenS l m l.length).map S61.f0 = keeps (bitI m l.length) l := by
  unfold takenS keeps bitI
  rw [List.map_map, List.map_map]
  rfl
theorem swap_at (pre suf : List Int) (a x : Int) : ((pre ++ [a] ++ x :: suf).set (pre.length + 1) a).set pre.length x = pre ++ x :: a :: suf := by
  rw [List.append_assoc, List.singleton_append, List.set_append_right _ _ (by omega), List.set_append_right _ _ (by simp)]
  simp
theorem refWrong_l3 (b : List S61) (i : Nat) (hi : i ≤ 1000) (R : List Int × Int) : ∀ (pre suf : List Int) (x : Int), (pre ++ suf).Pairwise (· ≤ ·) → (∀ y ∈ suf, x ≤ y) → (pre ++ x :: suf).length ≤ 1000 →
    (∀ out : List Int, out.Pairwise (· ≤ ·) → out.Perm (pre ++ x :: suf) → Ev (fun k => pianolaref09_Wrong.l2 k (b.map g91) out ((i + 1 : Nat) : Int)) R) →
    Ev (fun k => pianolaref09_Wrong.l3 k (b.map g91) (pre ++ x :: suf) (i : Int) (pre.length : Int)) R := by
  intro pre
  refine snoc_ind (P := fun pre => ∀ (suf : List Int) (x : Int), (pre ++ suf).Pairwise (· ≤ ·) → (∀ y ∈ suf, x ≤ y) → (pre ++ x :: suf).length ≤ 1000 →
    (∀ out : List Int, out.Pairwise (· ≤ ·) → out.Perm (pre ++ x :: suf) → Ev (fun k => pianolaref09_Wrong.l2 k (b.map g91) out ((i + 1 : Nat) : Int)) R) →
    Ev (fun k => pianolaref09_Wrong.l3 k (b.map g91) (pre ++ x :: suf) (i : Int) (pre.length : Int)) R) ?_ ?_ pre
  · intro suf x hs hx hl H
    refine Ev.step (fun k => by rw [pianolaref09_Wrong.l3]) ?_
    refine Ev.neg (by simp) ?_
    rw [w_nat i (by omega)]
    exact H _ (List.pairwise_cons.2 ⟨hx, hs⟩) (List.Perm.refl _)
  · intro pre a ih suf x hs hx hl H
    have hlen : (pre ++ [a] ++ x :: suf).length = pre.length + 2 + suf.length := by simp; omega
    have e1 : wrap64 (((pre ++ [a]).length : Int) - 1) = (pre.length : Int) := by
      rw [List.length_append, List.length_singleton]; unfold wrap64; omega
    have r1 : rd (pre ++ [a] ++ x :: suf) ((pre ++ [a]).length : Int) = x := rd_mid _ _ _
    have r2 : rd (pre ++ [a] ++ x :: suf) (pre.length : Int) = a := by
      rw [List.append_assoc, List.singleton_append]; exact rd_mid _ _ _
    refine Ev.step (fun k => by rw [pianolaref09_Wrong.l3]) ?_
    refine Ev.pos (by rw [List.length_append, List.length_singleton]; omega) (Ev.pos (by omega) (Ev.pos (by rw [hlen, List.length_append, List.length_singleton]; omega) ?_))
    rw [e1, r1, r2]
    refine Ev.pos (by omega) (Ev.pos (by rw [hlen]; omega) ?_)
    by_cases c : x < a
    · refine Ev.pos c ?_
      have es : ((pre ++ [a] ++ x :: suf).set ((pre ++ [a]).length : Int).toNat a).set ((pre.length : Int)).toNat x = pre ++ x :: a :: suf := by
        rw [Int.toNat_natCast, Int.toNat_natCast, List.length_append, List.length_singleton]
        exact swap_at pre suf a x
      rw [es]
      refine ih (a :: suf) x (by simpa using hs) (fun y hy => ?_) (by simp at hl ⊢; omega) (fun out ho hp => H out ho (hp.trans ?_))
      · rcases List.mem_cons.1 hy with e | hy
        · omega
        · exact hx y hy
      · rw [List.append_assoc, List.singleton_append]
        exact (List.Perm.swap _ _ _).append_left pre
    · refine Ev.neg c ?_
      rw [w_nat i (by omega)]
      refine H _ ?_ (List.Perm.refl _)
      rw [List.pairwise_append] at hs ⊢
      obtain ⟨h1, h2, h3⟩ := hs
      refine ⟨h1, List.pairwise_cons.2 ⟨hx, h2⟩, fun u hu v hv => ?_⟩
      rcases List.mem_cons.1 hv with e | hv
      · subst e
        rcases List.mem_append.1 hu with hu | hu
        · rw [List.pairwise_append] at h1
          have := h1.2.2 u hu a (List.mem_singleton_self a)
          omega
        · rw [List.mem_singleton] at hu
          omega
      · exact h3 u hu v hv
theorem refWrong_l2 (b : List S61) (hb : b.length ≤ 20) (R : List Int × Int) (hR : R = (sortI (b.map S61.f0), 0)) : ∀ (d n : Nat) (out : List Int), n + d = b.length → out.Pairwise (· ≤ ·) → out.Perm ((b.take n).map S61.f0) →
    Ev (fun k => pianolaref09_Wrong.l2 k (b.map g91) out (n : Int)) R := by
  intro d
  induction d with
  | zero =>
    intro n out hd ho hp
    refine Ev.step (fun k => by rw [pianolaref09_Wrong.l2]) ?_
    refine Ev.neg (by simp; omega) (Ev.have ?_)
    rw [List.take_of_length_le (by omega)] at hp
    rw [hR, sortI_eq ho hp]
  | succ d ih =>
    intro n out hd ho hp
    have hn : n < b.length := by omega
    have hlo : out.length = n := by
      have := hp.length_eq
      rw [List.length_map, List.length_take] at this
      omega
    refine Ev.step (fun k => by rw [pianolaref09_Wrong.l2]) ?_
    refine Ev.pos (by simp; omega) (Ev.pos (by omega) (Ev.pos (by omega) (Ev.bind (Ev.now _) ?_)))
    rw [rd91_g b n hn]
    have e : wrap64 (((out ++ [(g91 b[n]).f0]).length : Int) - 1) = (out.length : Int) := by
      rw [List.length_append, List.length_singleton]; unfold wrap64; omega
    rw [e]
    refine refWrong_l3 b n (by omega) R out [] _ (by simpa using ho) (fun y hy => by cases hy) (by simp; omega) (fun o2 h2 hp2 => ?_)
    refine ih (n + 1) o2 (by omega) h2 (hp2.trans ?_)
    rw [take_at b n hn, List.map_append]
    exact hp.append_right _
theorem refWrong_ev {need most : Int} {l : List S61} (h : Fine need l) (m0 : 0 ≤ most) (m3 : most ≤ 3) (hl : need + 2 * most ≤ l.length) (h20 : l.length ≤ 20) :
    Ev (fun k => pianolaref09_Wrong.l0 k need most (l.map g91) 0) (match wrongFrom need l (most.toNat + 1) 0 with | some x => (sortI (keeps x l), 0) | none => ([], 15)) := by
  have n0 := h.n0
  have n1 := h.n1
  have hN : ((need.toNat : Nat) : Int) = need := by omega
  have hM : ((most.toNat : Nat) : Int) = most := by omega
  have hsh : shl .i64 1 ((l.map g91).length : Int) = ((2 ^ l.length : Nat) : Int) := by
    unfold shl
    rw [List.length_map, Int.toNat_natCast, Nat.min_eq_left (by show l.length ≤ 64; omega), IntKind.wrap_i64]
    have : (2 : Nat) ^ l.length ≤ 2 ^ 20 := Nat.pow_le_pow_right (by omega) h20
    have e : (2 : Int) ^ l.length = ((2 ^ l.length : Nat) : Int) := by simp
    rw [e]
    generalize (2 : Nat) ^ l.length = q at this ⊢
    omega
  have h2n : (2 : Nat) ^ l.length ≤ 2 ^ 20 := Nat.pow_le_pow_right (by omega) h20
  have hfine : ∀ m : Nat, Fine need (restOf (bitI m l.length) l l.length) := fun m => by
    have hs := restOf_sub (bitI m l.length) l
    exact ⟨n0, n1, Nat.le_trans hs.length_le h20, fun s hs' => h.good s (hs.subset hs'), h.kd.sub hs⟩
  have htl : ∀ m : Nat, (takenS l m l.length).length = (bitI m l.length).length := fun m => by simp [takenS, bitI]
  have one : ∀ (s m : Nat) (R : List Int × Int), m < 2 ^ l.length →
      ((bitI m l.length).length = s → tryB need l (bitI m l.length) = true → Ev (fun k => pianolaref09_Wrong.l2 k ((takenS l m l.length).map g91) ([] : List Int) 0) R) →
      (¬ ((bitI m l.length).length = s ∧ tryB need l (bitI m l.length) = true) → Ev (fun k => pianolaref09_Wrong.l1 k need most (l.map g91) (s : Int) ((m + 1 : Nat) : Int)) R) →
      Ev (fun k => pianolaref09_Wrong.l1 k need most (l.map g91) (s : Int) (m : Int)) R := by
    intro s m R hm hyes hno
    refine Ev.step (fun k => by rw [pianolaref09_Wrong.l1]) ?_
    rw [hsh]
    refine Ev.pos (by omega) (Ev.bind (left_ev l h20 m (by omega)) ?_)
    by_cases c : (bitI m l.length).length = s
    · refine Ev.pos (by rw [List.length_map, htl]; omega) (Ev.bind (refagree_ev (hfine m)) ?_)
      refine Ev.step (fun k => by rw [pianolaref09_Wrong.j4]) ?_
      by_cases t : agreeB need (restOf (bitI m l.length) l l.length) = true
      · exact Ev.neg (by simp [t]) (hyes c t)
      · refine Ev.pos (by simpa using t) ?_
        rw [w_nat m (by omega)]
        exact hno (fun hh => t hh.2)
    · refine Ev.neg (by rw [List.length_map, htl]; omega) ?_
      refine Ev.step (fun k => by rw [pianolaref09_Wrong.j4]) ?_
      refine Ev.pos rfl ?_
      rw [w_nat m (by omega)]
      exact hno (fun hh => c hh.1)
  have fail : ∀ (s : Nat) (R : List Int × Int), (∀ y ∈ allCombos l.length s, tryB need l y = false) → s ≤ 100 → Ev (fun k => pianolaref09_Wrong.l0 k need most (l.map g91) ((s + 1 : Nat) : Int)) R →
      ∀ (d m : Nat), m + d = 2 ^ l.length → Ev (fun k => pianolaref09_Wrong.l1 k need most (l.map g91) (s : Int) (m : Int)) R := by
    intro s R hs hs100 H d
    induction d with
    | zero =>
      intro m hm
      refine Ev.step (fun k => by rw [pianolaref09_Wrong.l1]) ?_
      rw [hsh, w_nat s (by omega)]
      exact Ev.neg (by omega) H
    | succ d ih =>
      intro m hm
      refine one s m R (by omega) (fun c t => ?_) (fun _ => ih (m + 1) (by omega))
      have := hs _ ((all_iff _ _ _).2 ⟨c, bitI_asc m l.length⟩)
      rw [t] at this
      cases this
  cases hw : wrongFrom need l (most.toNat + 1) 0 with
  | none =>
    have key : ∀ (d s : Nat), s + d = most.toNat + 1 → Ev (fun k => pianolaref09_Wrong.l0 k need most (l.map g91) (s : Int)) (([] : List Int), (15 : Int)) := by
      intro d
      induction d with
      | zero =>
        intro s hs
        refine Ev.step (fun k => by rw [pianolaref09_Wrong.l0]) ?_
        exact Ev.neg (by omega) (Ev.now _)
      | succ d ih =>
        intro s hs
        refine Ev.step (fun k => by rw [pianolaref09_Wrong.l0]) ?_
        refine Ev.pos (by omega) ?_
        exact fail s _ (wrongFrom_none need l _ _ hw s (by omega) (by omega)) (by omega) (ih (s + 1) (by omega)) (2 ^ l.length) 0 (by omega)
    exact key (most.toNat + 1) 0 (by omega)
  | some x =>
    obtain ⟨s', g1, g2, g3, g4, g5⟩ := wrongFrom_some need l _ _ x hw
    obtain ⟨hxl, hxa⟩ := (all_iff _ _ _).1 g3
    obtain ⟨c, hc, hcx⟩ := asc_bits l.length x hxa
    have hlast : Ev (fun k => pianolaref09_Wrong.l2 k ((takenS l c l.length).map g91) ([] : List Int) 0) (sortI (keeps x l), (0 : Int)) := by
      refine refWrong_l2 (takenS l c l.length) (by rw [htl, hcx, hxl]; omega) _ ?_ (takenS l c l.length).length 0 [] (by omega) List.Pairwise.nil (by simp)
      rw [taken_keeps, hcx]
    have honly : ∀ m, m < 2 ^ l.length → (bitI m l.length).length = s' → tryB need l (bitI m l.length) = true → bitI m l.length = x := by
      intro m hm hs ht
      rw [← hN] at ht g4
      obtain ⟨p, hp, hpx⟩ := (tryB_fit h.kd _).1 ht
      obtain ⟨q, hq, hqx⟩ := (tryB_fit h.kd _).1 g4
      have e : p = q := off_unique (most := most.toNat) h.kd (by omega) hp hq hpx hqx (by omega) (by omega)
      subst e
      have hoff : s' ≤ (offL p l).length := by
        by_cases cc : s' ≤ (offL p l).length
        · exact cc
        · have := g5 (offL p l).length (by omega) (by omega) (offL p l) ((all_iff _ _ _).2 ⟨rfl, offL_asc p l⟩)
          rw [← hN, (tryB_fit h.kd _).2 ⟨p, hp, fun i hi => hi⟩] at this
          cases this
      have e1 := asc_sub (offL_asc p l).lt (bitI_asc m l.length).lt hpx (by omega)
      have e2 := asc_sub (offL_asc p l).lt hxa.lt hqx (by omega)
      rw [← e1, e2]
    have found : ∀ (d m : Nat), m + d = c → Ev (fun k => pianolaref09_Wrong.l1 k need most (l.map g91) (s' : Int) (m : Int)) (sortI (keeps x l), (0 : Int)) := by
      intro d
      induction d with
      | zero =>
        intro m hm
        have : m = c := by omega
        subst this
        exact one s' m _ hc (fun _ _ => hlast) (fun hn => absurd ⟨by rw [hcx, hxl], by rw [hcx]; exact g4⟩ hn)
      | succ d ih =>
        intro m hm
        refine one s' m _ (by omega) (fun hs ht => ?_) (fun _ => ih (m + 1) (by omega))
        have e := honly m (by omega) hs ht
        have : takenS l m l.length = takenS l c l.length := by
          have e2 : bitL m l.length = bitL c l.length := by
            have h3 : bitI m l.length = bitI c l.length := by rw [e, hcx]
            unfold bitI at h3
            exact List.map_inj_right (fun a b hab => by omega) |>.1 h3
          unfold takenS
          rw [e2]
        rw [this]
        exact hlast
    have key : ∀ (d s : Nat), s + d = s' → Ev (fun k => pianolaref09_Wrong.l0 k need most (l.map g91) (s : Int)) (sortI (keeps x l), (0 : Int)) := by
      intro d
      induction d with
      | zero =>
        intro s hs
        have : s = s' := by omega
        subst this
        refine Ev.step (fun k => by rw [pianolaref09_Wrong.l0]) ?_
        exact Ev.pos (by omega) (found c 0 (by omega))
      | succ d ih =>
        intro s hs
        refine Ev.step (fun k => by rw [pianolaref09_Wrong.l0]) ?_
        refine Ev.pos (by omega) ?_
        exact fail s _ (g5 s (by omega) (by omega)) (by omega) (ih (s + 1) (by omega)) (2 ^ l.length) 0 (by omega)
    exact key s' 0 (by omega)
theorem refWrong_f (need most : Int) (l : List S61) : Ev (fun k => pianolaref09_Wrong.f k need most (l.map g91)) (wrongR need most l) := by
  unfold pianolaref09_Wrong.f wrongR
  refine Ev.bind (refcheck_ev need l) ?_
  by_cases h : checkE need l = 0
  · have hf := checkE_fine h
    have n0 := hf.n0
    have n1 := hf.n1
    have hl := hf.len
    rw [if_neg (by simpa using h)]
    refine Ev.pos h ?_
    rw [is_f]
    refine Ev.bind (Ev.now _) ?_
    refine Ev.step (fun k => by rw [pianolaref09_Wrong.j0]) ?_
    by_cases c : btw 0 most 3 = true
    · obtain ⟨m0, m3⟩ := btw_iff.1 c
      rw [if_neg (by simp [c])]
      refine Ev.neg (by simp [c]) ?_
      refine Ev.step (fun k => by rw [pianolaref09_Wrong.j1]) ?_
      refine Ev.pos h ?_
      rw [show wrap64 (2 * most) = 2 * most by unfold wrap64; omega, show wrap64 (need + 2 * most) = need + 2 * most by unfold wrap64; omega]
      by_cases g : (l.length : Int) < need + 2 * most
      · exact Ev.pos (by simpa using g) (Ev.have (by rw [if_pos g]))
      · refine Ev.neg (by simpa using g) ?_
        rw [if_neg g]
        exact refWrong_ev hf m0 m3 (by omega) hl
    · rw [if_pos (by simpa using c)]
      refine Ev.pos (by simpa using c) ?_
      refine Ev.step (fun k => by rw [pianolaref09_Wrong.j1]) ?_
      exact Ev.neg (by decide) (Ev.now _)
  · rw [if_pos h]
    refine Ev.neg h ?_
    refine Ev.step (fun k => by rw [pianolaref09_Wrong.j0]) ?_
    refine Ev.neg (by simp) ?_
    refine Ev.step (fun k => by rw [pianolaref09_Wrong.j1]) ?_
    exact Ev.neg h (Ev.now _)
end Go.Proofs.Ytpfkfbbekfkcgaa.P
end
section
namespace Go.Proofs.Ytpfkfbbekfkcgaa.Pure
open Go.RowKit Go.Proofs.Ytpfkfbbekfkcgaa.P Go.Proofs.YtpfkfbbekfkcgaaW.PrintWords Go.Proofs.YtpfkfbbekfkcgaaW.PrintLast
theorem wrongR_le (a0 a1 : Int) (l : List S61) (h : l.length ≤ 60) : (wrongR a0 a1 l).1.length ≤ 60 := by
  unfold wrongR
  split
  · simp
  · split
    · simp
    · split
      · simp
      · split
        · rename_i x hx
          obtain ⟨s', _, _, h3, _, _⟩ := wrongFrom_some _ _ _ _ _ hx
          obtain ⟨_, ha⟩ := (all_iff _ _ _).1 h3
          have := nodup_len (l := x) (m := (List.range l.length).map fun j : Nat => (j : Int)) (asc_nodup ha.lt) (fun i hi => by
            have := ha.r i hi
            exact List.mem_map.2 ⟨i.toNat, List.mem_range.2 (by omega), by omega⟩)
          show (sortI (keeps x l)).length ≤ 60
          rw [(sortI_perm _).length_eq]
          unfold keeps
          simp at this ⊢
          omega
        · simp
theorem VaultWrongs (a0 a1 : Int) (l : List S61) (_ : (Lit.int .i64 a0).wf = true) (_ : (Lit.int .i64 a1).wf = true) (_ : ∀ s ∈ l, (Lit.int .i64 s.f0).wf = true ∧ (Lit.int .i64 s.f1).wf = true) :
    ∃ k, pianolalaw09_VaultWrongs.f k a0 a1 l = some true := by
  refine Ev.rounds ?_
  unfold pianolalaw09_VaultWrongs.f
  have go : ∀ q : Bool, (q = false → l.length ≤ 60) → Ev (fun k => pianolalaw09_VaultWrongs.j0 k a0 a1 l q) true := by
    intro q hq
    refine Ev.step (fun k => by rw [pianolalaw09_VaultWrongs.j0]) ?_
    by_cases c : q = true
    · exact Ev.pos c (Ev.have rfl)
    · refine Ev.neg c ?_
      have hl := hq (by simpa using c)
      rw [Wrong_f]
      refine Ev.bind (Ev.now _) (Ev.bind (given_ev l (by omega)) (Ev.bind (refWrong_f a0 a1 l) ?_))
      exact Ev.bind (numbers_ev _ _ (by have := wrongR_le a0 a1 l hl; omega)) (Ev.pos (by simp) (Ev.pos rfl (Ev.have rfl)))
  by_cases h : (l.length : Int) > 10
  · refine Ev.pos h ?_
    by_cases h2 : (l.length : Int) ≤ 20
    · exact Ev.pos h2 (go true (fun h => by cases h))
    · refine Ev.neg h2 (go _ (fun hq => ?_))
      have : ¬ (l.length : Int) > 60 := of_decide_eq_false hq
      omega
  · refine Ev.neg h (go _ (fun hq => ?_))
    have : ¬ (l.length : Int) > 60 := of_decide_eq_false hq
    omega
end Go.Proofs.Ytpfkfbbekfkcgaa.Pure
end
