/- Words and contracts for a claim. -/
import Derived.Test.YtpfkfbbekfkcgaaBase4
import Derived.Lib.SliceRun
section
namespace Go.Proofs.Ytpfkfbbekfkcgaa.P
open Go.RowKit Go.Proofs.YtpfkfbbekfkcgaaW.PrintWords Go.Proofs.YtpfkfbbekfkcgaaW.PrintLast Go.Proofs.YtpfkfbbekfkcgaaW.PrintMore
set_option linter.unusedVariables false
set_option linter.unusedSimpArgs false
def idxF {α : Type} (P : α → Bool) (l : List α) : Int := match l.findIdx? P with | some i => i | none => -1
theorem idxF_at {P : S61 → Bool} {l : List S61} {i : Int} (h0 : 0 ≤ i) (h1 : i < l.length) (h : ∀ j : Nat, (j : Int) < i → P (rd_T61 l j) = false) (hp : P (rd_T61 l i) = true) : idxF P l = i := by
  have e : l.findIdx? P = some i.toNat := by
    rw [List.findIdx?_eq_some_iff_getElem]
    have g : ∀ j : Nat, (hj : j < l.length) → rd_T61 l (j : Int) = l[j] := by
      intro j hj
      unfold rd_T61
      rw [List.getD_eq_getElem?_getD, Int.toNat_natCast, List.getElem?_eq_getElem hj]; rfl
    refine ⟨by omega, ?_, ?_⟩
    · rw [← g, show ((i.toNat : Nat) : Int) = i by omega]; exact hp
    · intro j hj
      rw [← g j (by omega), h j (by omega)]; simp
  unfold idxF
  rw [e]
  show ((i.toNat : Nat) : Int) = i
  omega
theorem idxF_none {P : S61 → Bool} {l : List S61} (h : ∀ j : Nat, j < l.length → P (rd_T61 l j) = false) : idxF P l = -1 := by
  have e : l.findIdx? P = none := by
    rw [List.findIdx?_eq_none_iff]
    intro x hx
    obtain ⟨j, hj, rfl⟩ := List.mem_iff_getElem.1 hx
    have := h j hj
    unfold rd_T61 at this
    rw [List.getD_eq_getElem?_getD, Int.toNat_natCast, List.getElem?_eq_getElem hj] at this
    exact this
  unfold idxF
  rw [e]
set_option maxHeartbeats 2000000 in
set_option maxRecDepth 100000 in
theorem IndexFunc99 (g : Nat) (cap : Array Value) (P : S61 → Bool)
    (eg : ∀ args w, (callFunc g args).run Try.prog w = .ok (.enter g args) w)
    (A0 : Option Addr) (c0 : Nat) (l : List S61) (w : World) (hr0 : Kd.C k61 w A0 l.length l) (hc0 : l.length ≤ c0) (hlen : l.length ≤ 1000000)
    (hf : ∀ x W, x ∈ l → Below w.heap.size w W → Calls Try.prog g (#[.agg #[.int .i64 x.f0, .int .i64 x.f1]] ++ cap) W fun e W' => e = .returned (.bool (P x)) ∧ Below W.heap.size W W') :
    Calls Try.prog 99 #[.slice A0 l.length c0, .func (.func g) #[] cap] w fun e w' => e = .returned (.int .i64 (idxF P l)) ∧ Below w.heap.size w w' := by
  have HR := Aside0.mk hr0
  have HF := Aside0.mk hf
  have HC := Aside0.mk hc0
  clear hr0 hf hc0
  go_enter Try.func99, Try.ntmps99
  go_wp2_with fail
  go_loopg [8] l.length (fun kq v8 w' => ∃ i : Int, v8 = .int .i64 i ∧ Aside0 (0 ≤ i ∧ (kq : Int) = l.length - i ∧ ∀ j : Nat, (j : Int) < i → P (rd_T61 l j) = false) ∧ Aside0 (Below w.heap.size w w'))
  case atStart => exact ⟨0, rfl, ⟨by omega, by omega, fun j hj => by omega⟩, ⟨Below.refl _ _⟩⟩
  case round =>
    obtain ⟨i, rfl, HI, HB⟩ := hrel
    by_cases c : i < (l.length : Int)
    · have p := HI.out.1
      obtain ⟨ad, e, h0, h1⟩ := at_T61 HR.out i p c
      cases e
      replace h0 := (HB.out.cell (World.block_lt_of_cell? w _ h0)).trans h0
      replace h1 := (HB.out.cell (World.block_lt_of_cell? w _ h1)).trans h1
      have hx : rd_T61 l i ∈ l := by
        unfold rd_T61
        rw [List.getD_eq_getElem?_getD, List.getElem?_eq_getElem (by omega)]
        exact List.getElem_mem _
      go_wp2_with fail
      refine (HF.out (rd_T61 l i) _ hx HB.out).mono ?_
      rintro e w' ⟨rfl, hb⟩
      have HB' := Aside0.mk (HB.out.trans (hb.mono HB.out.size))
      clear hb
      by_cases hp : P (rd_T61 l i) = true
      · have hr : idxF P l = i := idxF_at HI.out.1 c HI.out.2.2 hp
        have HR' := Aside0.mk hr
        clear hr
        rw [hp]
        go_wp2
        go_ret
        exact ⟨by rw [HR'.out]; rfl, HB'.out⟩
      · replace hp : P (rd_T61 l i) = false := by simpa using hp
        have hall : ∀ j : Nat, (j : Int) < i + 1 → P (rd_T61 l j) = false := by
          intro j hj
          by_cases e : (j : Int) = i
          · rw [e]; exact hp
          · exact HI.out.2.2 j (by omega)
        have HA := Aside0.mk hall
        clear hall
        have hi := HI.out.2.1
        rw [hp]
        go_wp2
        go_roundg (l.length - (i + 1)).toNat
        case measure => omega
        case rel => exact ⟨i + 1, by first | rfl | simp, ⟨by omega, by omega, HA.out⟩, HB'⟩
    · have hr : idxF P l = -1 := idxF_none (fun j hj => HI.out.2.2 j (by have := HI.out.2.1; omega))
      have HR' := Aside0.mk hr
      clear hr
      go_wp2
      go_ret
      exact ⟨by rw [HR'.out]; rfl, HB.out⟩
theorem idxF_any {P : S61 → Bool} {l : List S61} : decide (0 ≤ idxF P l) = l.any P := by
  unfold idxF
  cases h : l.findIdx? P with
  | some i =>
    rw [List.findIdx?_eq_some_iff_getElem] at h
    obtain ⟨hi, hp, _⟩ := h
    have : l.any P = true := List.any_eq_true.2 ⟨l[i], List.getElem_mem _, hp⟩
    rw [this]
    simp
  | none =>
    rw [List.findIdx?_eq_none_iff] at h
    have : l.any P = false := by
      rw [List.any_eq_false]
      intro x hx
      simp [h x hx]
    rw [this]; rfl
set_option maxHeartbeats 2000000 in
set_option maxRecDepth 100000 in
theorem ContainsFunc84 (g : Nat) (cap : Array Value) (P : S61 → Bool)
    (eg : ∀ args w, (callFunc g args).run Try.prog w = .ok (.enter g args) w)
    (A0 : Option Addr) (c0 : Nat) (l : List S61) (w : World) (hr0 : Kd.C k61 w A0 l.length l) (hc0 : l.length ≤ c0) (hlen : l.length ≤ 1000000)
    (hf : ∀ x W, x ∈ l → Below w.heap.size w W → Calls Try.prog g (#[.agg #[.int .i64 x.f0, .int .i64 x.f1]] ++ cap) W fun e W' => e = .returned (.bool (P x)) ∧ Below W.heap.size W W') :
    Calls Try.prog 84 #[.slice A0 l.length c0, .func (.func g) #[] cap] w fun e w' => e = .returned (.bool (l.any P)) ∧ Below w.heap.size w w' := by
  have H := Aside0.mk (IndexFunc99 g cap P eg A0 c0 l w hr0 hc0 hlen hf)
  clear hr0 hf hc0
  have E := Aside0.mk (idxF_any (P := P) (l := l))
  generalize idxF P l = r at H E
  go_enter Try.func84, Try.ntmps84
  go_wp2_with (go_at_call 99; refine H.out.mono ?_; rintro e w' ⟨rfl, hb⟩)
  go_ret
  exact ⟨by rw [← E.out]; rfl, hb⟩
set_option maxHeartbeats 2000000 in
set_option maxRecDepth 100000 in
theorem fold100 (g : Nat) (cap : Array Value) (I : Int → Prop) (F : Int → S61 → Int)
    (eg : ∀ args w, (callFunc g args).run Try.prog w = .ok (.enter g args) w)
    (A0 : Option Addr) (c0 : Nat) (l : List S61) (a : Int) (w : World) (hr0 : Kd.C k61 w A0 l.length l) (hc0 : l.length ≤ c0) (hlen : l.length ≤ 1000000)
    (ha : I a) (hI : ∀ b x, I b → x ∈ l → I (F b x))
    (hf : ∀ b x W, I b → x ∈ l → Below w.heap.size w W → Calls Try.prog g (#[.int .i64 b, .agg #[.int .i64 x.f0, .int .i64 x.f1]] ++ cap) W fun e W' => e = .returned (.int .i64 (F b x)) ∧ Below W.heap.size W W') :
    Calls Try.prog 100 #[.slice A0 l.length c0, .int .i64 a, .func (.func g) #[] cap] w fun e w' => e = .returned (.int .i64 (l.foldl F a)) ∧ Below w.heap.size w w' := by
  have HR := Aside0.mk hr0
  have HF := Aside0.mk hf
  have HC := Aside0.mk hc0
  have HII := Aside0.mk hI
  have HA := Aside0.mk ha
  clear hr0 hf hc0 hI ha
  go_enter Try.func100, Try.ntmps100
  go_wp2_with fail
  go_loopg [1, 11] l.length (fun kq v1 v11 w' => ∃ i b : Int, v11 = .int .i64 i ∧ v1 = .int .i64 b ∧ Aside0 (0 ≤ i ∧ (kq : Int) = l.length - i ∧ b = (l.take i.toNat).foldl F a ∧ I b) ∧ Aside0 (Below w.heap.size w w'))
  case atStart => exact ⟨0, a, rfl, rfl, ⟨by omega, by omega, rfl, HA.out⟩, ⟨Below.refl _ _⟩⟩
  case round =>
    obtain ⟨i, b, rfl, rfl, HI, HB⟩ := hrel
    by_cases c : i < (l.length : Int)
    · have p := HI.out.1
      obtain ⟨ad, e, h0, h1⟩ := at_T61 HR.out i p c
      cases e
      have lt := World.block_lt_of_cell? w _ h0
      replace h0 := (HB.out.cell (World.block_lt_of_cell? w _ h0)).trans h0
      replace h1 := (HB.out.cell (World.block_lt_of_cell? w _ h1)).trans h1
      have hx : rd_T61 l i ∈ l := by
        unfold rd_T61
        rw [List.getD_eq_getElem?_getD, List.getElem?_eq_getElem (by omega)]
        exact List.getElem_mem _
      go_wp2_with fail
      refine (HF.out b (rd_T61 l i) _ HI.out.2.2.2 hx (by repeat (first | (with_reducible first | exact HB.out | apply below_alloc | apply pw_below_drewN | apply below_drew1) | exact HB.out))).mono ?_
      rintro e w' ⟨rfl, hb⟩
      have HB' := Aside0.mk ((below_alloc HB.out _).trans (hb.mono (by simp; have := HB.out.size; omega)))
      clear hb
      have hs : F b (rd_T61 l i) = (l.take (i + 1).toNat).foldl F a := by
        rw [show (i + 1).toNat = i.toNat + 1 by omega, List.take_succ_eq_append_getElem (by omega), List.foldl_append, ← HI.out.2.2.1]
        show _ = F b _
        congr 1
        unfold rd_T61
        rw [List.getD_eq_getElem?_getD, List.getElem?_eq_getElem (by omega)]; rfl
      have HS := Aside0.mk hs
      clear hs
      have hi := HI.out.2.1
      have hI2 := Aside0.mk (HII.out b _ HI.out.2.2.2 hx)
      generalize F b (rd_T61 l i) = b2 at HS hI2 ⊢
      go_wp2
      go_roundg (l.length - (i + 1)).toNat
      case measure => omega
      case rel => exact ⟨i + 1, b2, by first | rfl | simp, by first | rfl | simp, ⟨by omega, by omega, HS.out, hI2.out⟩, HB'⟩
    · have hr : b = l.foldl F a := by
        rw [HI.out.2.2.1, List.take_of_length_le (by have := HI.out.1; omega)]
      have HR' := Aside0.mk hr
      clear hr
      go_wp2
      go_ret
      exact ⟨by rw [← HR'.out]; rfl, HB.out⟩
end Go.Proofs.Ytpfkfbbekfkcgaa.P
end
section
namespace Go.Proofs.Ytpfkfbbekfkcgaa.P
open Go.RowKit Go.Proofs.YtpfkfbbekfkcgaaW.PrintWords Go.Proofs.YtpfkfbbekfkcgaaW.PrintLast Go.Proofs.YtpfkfbbekfkcgaaW.PrintMore
set_option linter.unusedVariables false
set_option linter.unusedSimpArgs false
def inv (a : Int) : Int := ((a.toNat ^ 249 % 251 : Nat) : Int)
def F251 (a : Int) : Prop := 0 ≤ a ∧ a ≤ 250
theorem of_f (a : Int) (h0 : -1000000000000000 ≤ a) (h1 : a ≤ 1000000000000000) : vault_of.f a = some (a % 251) := by
  unfold vault_of.f
  have e1 : Int.tmod a 251 = a % 251 ∨ (Int.tmod a 251 = a % 251 - 251 ∧ a % 251 ≠ 0) ∨ (Int.tmod a 251 = 0 ∧ a % 251 = 0) := by
    by_cases h : 0 ≤ a
    · exact .inl (Int.tmod_eq_emod_of_nonneg h)
    · have : Int.tmod a 251 = -((-a) % 251) := by
        rw [← Int.tmod_eq_emod_of_nonneg (by omega : 0 ≤ -a), Int.neg_tmod, Int.neg_neg]
      omega
  have e : wrap64 (Int.tmod a 251 + 251) = Int.tmod a 251 + 251 := by unfold wrap64; omega
  rw [e, Int.tmod_eq_emod_of_nonneg (by omega)]
  congr 1
  omega
theorem of_c (a : Int) (w : World) (h0 : -1000000000000000 ≤ a) (h1 : a ≤ 1000000000000000) :
    Calls Try.prog 93 #[.int .i64 a] w fun e w' => e = .returned (.int .i64 (a % 251)) ∧ Drawn0 w w' := vault_of.calls a _ w (of_f a h0 h1)
theorem plus_f (a b : Int) (ha : F251 a) (hb : F251 b) : vault_number_plus.f a b = some ((a + b) % 251) := by
  obtain ⟨a0, a1⟩ := ha
  obtain ⟨b0, b1⟩ := hb
  unfold vault_number_plus.f
  rw [show wrap64 (a + b) = a + b by unfold wrap64; omega, of_f _ (by omega) (by omega)]; rfl
theorem minus_f (a b : Int) (ha : F251 a) (hb : F251 b) : vault_number_minus.f a b = some ((a - b) % 251) := by
  obtain ⟨a0, a1⟩ := ha
  obtain ⟨b0, b1⟩ := hb
  unfold vault_number_minus.f
  rw [show wrap64 (a - b) = a - b by unfold wrap64; omega, of_f _ (by omega) (by omega)]; rfl
theorem mul_bd (a b : Int) (ha : F251 a) (hb : F251 b) : 0 ≤ a * b ∧ a * b ≤ 62500 := by
  obtain ⟨a0, a1⟩ := ha
  obtain ⟨b0, b1⟩ := hb
  exact ⟨Int.mul_nonneg a0 b0, Int.le_trans (Int.mul_le_mul a1 b1 b0 (by omega)) (by omega)⟩
theorem times_f (a b : Int) (ha : F251 a) (hb : F251 b) : vault_number_times.f a b = some ((a * b) % 251) := by
  obtain ⟨p0, p1⟩ := mul_bd a b ha hb
  unfold vault_number_times.f
  rw [show wrap64 (a * b) = a * b by unfold wrap64; omega, of_f _ (by omega) (by omega)]; rfl
theorem inv_all : ∀ n : Fin 251, vault_number_inverse.f 10 (n.val : Int) = some (inv (n.val : Int)) := by decide +kernel
theorem inv_f (a : Int) (ha : F251 a) : vault_number_inverse.f 10 a = some (inv a) := by
  obtain ⟨a0, a1⟩ := ha
  have := inv_all ⟨a.toNat, by omega⟩
  simpa [Int.toNat_of_nonneg a0] using this
theorem inv_in (a : Int) : F251 (inv a) := by unfold inv F251; omega
theorem mod_in (a : Int) : F251 (a % 251) := by unfold F251; omega
theorem minus_c (a b : Int) (w : World) (ha : F251 a) (hb : F251 b) :
    Calls Try.prog 81 #[.int .i64 a, .int .i64 b] w fun e w' => e = .returned (.int .i64 ((a - b) % 251)) ∧ Drawn0 w w' := vault_number_minus.calls a b _ w (minus_f a b ha hb)
theorem times_c (a b : Int) (w : World) (ha : F251 a) (hb : F251 b) :
    Calls Try.prog 78 #[.int .i64 a, .int .i64 b] w fun e w' => e = .returned (.int .i64 ((a * b) % 251)) ∧ Drawn0 w w' := vault_number_times.calls a b _ w (times_f a b ha hb)
theorem inv_c (a : Int) (w : World) (ha : F251 a) :
    Calls Try.prog 54 #[.int .i64 a] w fun e w' => e = .returned (.int .i64 (inv a)) ∧ Drawn0 w w' := vault_number_inverse.calls 10 a _ w (inv_f a ha)
set_option maxHeartbeats 400000 in
theorem of_s (a : Int) (w : World) (h0 : -1000000000000000 ≤ a) (h1 : a ≤ 1000000000000000) :
    Calls Try.prog 93 #[.int .i64 a] w fun e w' => e = .returned (.int .i64 (a % 251)) ∧ w' = w := by
  have e := Aside0.mk (Option.some.inj (of_f a h0 h1))
  go_enter Try.func93, Try.ntmps93
  go_wp2
  go_ret
  exact ⟨by rw [← e.out]; rfl, rfl⟩
set_option maxHeartbeats 400000 in
theorem plus_s (a b : Int) (w : World) (ha : F251 a) (hb : F251 b) :
    Calls Try.prog 73 #[.int .i64 a, .int .i64 b] w fun e w' => e = .returned (.int .i64 ((a + b) % 251)) ∧ w' = w := by
  obtain ⟨a0, a1⟩ := ha
  obtain ⟨b0, b1⟩ := hb
  go_enter Try.func73, Try.ntmps73
  go_wp2_with (go_at_call 93; refine (of_s _ _ (by omega) (by omega)).mono ?_; rintro e w' ⟨rfl, rfl⟩)
  go_ret
  exact ⟨rfl, rfl⟩
set_option maxHeartbeats 400000 in
theorem minus_s (a b : Int) (w : World) (ha : F251 a) (hb : F251 b) :
    Calls Try.prog 81 #[.int .i64 a, .int .i64 b] w fun e w' => e = .returned (.int .i64 ((a - b) % 251)) ∧ w' = w := by
  obtain ⟨a0, a1⟩ := ha
  obtain ⟨b0, b1⟩ := hb
  go_enter Try.func81, Try.ntmps81
  go_wp2_with (go_at_call 93; refine (of_s _ _ (by omega) (by omega)).mono ?_; rintro e w' ⟨rfl, rfl⟩)
  go_ret
  exact ⟨rfl, rfl⟩
theorem quiet0 {P : Program} {f : FuncId} {args : Array Value} {w : World} {n : Nat} {v : Value}
    (h : Calls P f args (w.drewN n) fun e w' => e = .returned v ∧ Drawn0 (w.drewN n) w') : Calls P f args (w.drewN n) fun e w'' => e = .returned v ∧ ∃ m, w'' = w.drewN m :=
  Calls.quiet_of (h.mono fun _ _ ⟨h1, h2⟩ => ⟨h1, h2.out⟩)
def factor (x : Int) (a : S61) (p : Int) (b : S61) : Int :=
  if a.f0 = b.f0 then p else (p * ((x - b.f0) % 251) % 251) * inv ((a.f0 - b.f0) % 251) % 251
set_option maxHeartbeats 2000000 in
set_option maxRecDepth 100000 in
theorem at1_1 (x p : Int) (a b : S61) (Ba Bx : Nat) (w : World) (hx : F251 x) (hp : F251 p)
    (hb0 : -1000000 ≤ b.f0) (hb1 : b.f0 ≤ 1000000) (ha0 : -1000000 ≤ a.f0) (ha1 : a.f0 ≤ 1000000)
    (ca : w.cell? ⟨Ba, 0, none⟩ = some (.int .i64 a.f0)) (cx : w.cell? ⟨Bx, 0, none⟩ = some (.int .i64 x)) :
    Calls Try.prog 102 #[.int .i64 p, .agg #[.int .i64 b.f0, .int .i64 b.f1], .pointer (some ⟨Ba, 0, none⟩), .pointer (some ⟨Bx, 0, none⟩)] w
      fun e w' => e = .returned (.int .i64 (factor x a p b)) ∧ Below w.heap.size w w' := by
  replace ca := Lib.cell?_alloc_some (.cells #[.int .i64 b.f0, .int .i64 b.f1] 61) ca
  replace cx := Lib.cell?_alloc_some (.cells #[.int .i64 b.f0, .int .i64 b.f1] 61) cx
  by_cases c : a.f0 = b.f0
  · have hr : factor x a p b = p := by unfold factor; rw [if_pos c]
    have HR := Aside0.mk hr
    have cb : (a.f0 == b.f0) = true := by simp [c]
    clear hr
    have C := Aside0.mk c
    clear c
    go_enter Try.func102, Try.ntmps102
    go_wp2
    go_ret
    exact ⟨by rw [HR.out]; rfl, by repeat (first | exact Below.refl _ _ | apply below_alloc | apply pw_below_drewN | apply below_drew1)⟩
  · have hr : factor x a p b = (p * ((x - b.f0) % 251) % 251) * inv ((a.f0 - b.f0) % 251) % 251 := by unfold factor; rw [if_neg c]
    have HR := Aside0.mk hr
    have cb : (a.f0 == b.f0) = false := by simp [c]
    clear hr c
    go_enter Try.func102, Try.ntmps102
    go_wp2
    go_quiet ((first
      | (go_at_call 93; exact quiet0 (of_c _ _ (by omega) (by omega)))
      | (go_at_call 81; exact quiet0 (minus_c _ _ _ (by first | exact hx | exact mod_in _) (mod_in _)))
      | (go_at_call 54; exact quiet0 (inv_c _ _ (mod_in _)))
      | (go_at_call 78; exact quiet0 (times_c _ _ _ (by first | exact hp | exact mod_in _) (by first | exact mod_in _ | exact inv_in _)))))
    go_wp2
    go_ret
    exact ⟨by rw [HR.out]; rfl, by repeat (first | exact Below.refl _ _ | apply below_alloc | apply pw_below_drewN | apply below_drew1)⟩
end Go.Proofs.Ytpfkfbbekfkcgaa.P
end
