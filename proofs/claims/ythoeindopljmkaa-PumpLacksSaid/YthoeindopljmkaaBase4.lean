/- Words and contracts for a claim. -/
import Derived.Test.YthoeindopljmkaaBase3
import Derived.Lib.SliceRun
section
namespace Go.Proofs.Ythoeindopljmkaa.P
open Go.RowKit Go.Proofs.YthoeindopljmkaaW.PrintWords Go.Proofs.YthoeindopljmkaaW.PrintLast Go.Proofs.YthoeindopljmkaaW.PrintMore
set_option linter.unusedVariables false
set_option linter.unusedSimpArgs false
def idxF {α : Type} (P : α → Bool) (l : List α) : Int := match l.findIdx? P with | some i => i | none => -1
theorem idxF_at {P : S71 → Bool} {l : List S71} {i : Int} (h0 : 0 ≤ i) (h1 : i < l.length) (h : ∀ j : Nat, (j : Int) < i → P (rd_T71 l j) = false) (hp : P (rd_T71 l i) = true) : idxF P l = i := by
  have e : l.findIdx? P = some i.toNat := by
    rw [List.findIdx?_eq_some_iff_getElem]
    have g : ∀ j : Nat, (hj : j < l.length) → rd_T71 l (j : Int) = l[j] := by
      intro j hj
      unfold rd_T71
      rw [List.getD_eq_getElem?_getD, Int.toNat_natCast, List.getElem?_eq_getElem hj]; rfl
    refine ⟨by omega, ?_, ?_⟩
    · rw [← g, show ((i.toNat : Nat) : Int) = i by omega]; exact hp
    · intro j hj
      rw [← g j (by omega), h j (by omega)]; simp
  unfold idxF
  rw [e]
  show ((i.toNat : Nat) : Int) = i
  omega
theorem idxF_none {P : S71 → Bool} {l : List S71} (h : ∀ j : Nat, j < l.length → P (rd_T71 l j) = false) : idxF P l = -1 := by
  have e : l.findIdx? P = none := by
    rw [List.findIdx?_eq_none_iff]
    intro x hx
    obtain ⟨j, hj, rfl⟩ := List.mem_iff_getElem.1 hx
    have := h j hj
    unfold rd_T71 at this
    rw [List.getD_eq_getElem?_getD, Int.toNat_natCast, List.getElem?_eq_getElem hj] at this
    exact this
  unfold idxF
  rw [e]
set_option maxHeartbeats 2000000 in
set_option maxRecDepth 100000 in
theorem IndexFunc84 (g : Nat) (cap : Array Value) (P : S71 → Bool)
    (eg : ∀ args w, (callFunc g args).run Try.prog w = .ok (.enter g args) w)
    (A0 : Option Addr) (c0 : Nat) (l : List S71) (w : World) (hr0 : Kd.C k71 w A0 l.length l) (hc0 : l.length ≤ c0) (hlen : l.length ≤ 1000000)
    (hf : ∀ x W, x ∈ l → Below w.heap.size w W → Calls Try.prog g (#[.agg #[.int .i64 x.f0, .int .i64 x.f1]] ++ cap) W fun e W' => e = .returned (.bool (P x)) ∧ Below W.heap.size W W') :
    Calls Try.prog 84 #[.slice A0 l.length c0, .func (.func g) #[] cap] w fun e w' => e = .returned (.int .i64 (idxF P l)) ∧ Below w.heap.size w w' := by
  have HR := zA hr0
  have HF := zA hf
  have HC := zA hc0
  clear hr0 hf hc0
  go_enter Try.func84, Try.ntmps84
  go_wp2_with fail
  go_loopg [8] l.length (fun kq v8 w' => ∃ i : Int, v8 = .int .i64 i ∧ Aside0 (0 ≤ i ∧ (kq : Int) = l.length - i ∧ ∀ j : Nat, (j : Int) < i → P (rd_T71 l j) = false) ∧ Aside0 (Below w.heap.size w w'))
  case atStart => exact ⟨0, rfl, ⟨by omega, by omega, fun j hj => by omega⟩, ⟨Below.refl _ _⟩⟩
  case round =>
    obtain ⟨i, rfl, HI, HB⟩ := hrel
    by_cases c : i < (l.length : Int)
    · have p := HI.out.1
      obtain ⟨ad, e, h0, h1⟩ := at_T71 HR.out i p c
      cases e
      replace h0 := (HB.out.cell (World.block_lt_of_cell? w _ h0)).trans h0
      replace h1 := (HB.out.cell (World.block_lt_of_cell? w _ h1)).trans h1
      have hx : rd_T71 l i ∈ l := by
        unfold rd_T71
        rw [List.getD_eq_getElem?_getD, List.getElem?_eq_getElem (by omega)]
        exact List.getElem_mem _
      go_wp2_with fail
      refine (HF.out (rd_T71 l i) _ hx HB.out).mono ?_
      rintro e w' ⟨rfl, hb⟩
      have HB' := zA (HB.out.trans (hb.mono HB.out.size))
      clear hb
      by_cases hp : P (rd_T71 l i) = true
      · have hr : idxF P l = i := idxF_at HI.out.1 c HI.out.2.2 hp
        have HR' := zA hr
        clear hr
        rw [hp]
        go_wp2
        go_ret
        exact ⟨by rw [HR'.out]; rfl, HB'.out⟩
      · replace hp : P (rd_T71 l i) = false := by simpa using hp
        have hall : ∀ j : Nat, (j : Int) < i + 1 → P (rd_T71 l j) = false := by
          intro j hj
          by_cases e : (j : Int) = i
          · rw [e]; exact hp
          · exact HI.out.2.2 j (by omega)
        have HA := zA hall
        clear hall
        have hi := HI.out.2.1
        rw [hp]
        go_wp2
        go_roundg (l.length - (i + 1)).toNat
        case measure => omega
        case rel => exact ⟨i + 1, by first | rfl | simp, ⟨by omega, by omega, HA.out⟩, HB'⟩
    · have hr : idxF P l = -1 := idxF_none (fun j hj => HI.out.2.2 j (by have := HI.out.2.1; omega))
      have HR' := zA hr
      clear hr
      go_wp2
      go_ret
      exact ⟨by rw [HR'.out]; rfl, HB.out⟩
theorem idxF_any {P : S71 → Bool} {l : List S71} : decide (0 ≤ idxF P l) = l.any P := by
  unfold idxF
  cases h : l.findIdx? P with
  | some i =>
    rw [List.findIdx?_eq_some_iff_getElem] at h
    obtain ⟨hi, hp, _⟩ := h
    have : l.any P = true := List.any_eq_true.2 ⟨l[i], List.getElem_mem _, hp⟩
    rw [this]
    simp
  | none =>
    rw [List.findIdx?_eq_none_iff] at h
    have : l.any P = false := by
      rw [List.any_eq_false]
      intro x hx
      simp [h x hx]
    rw [this]; rfl
set_option maxHeartbeats 2000000 in
set_option maxRecDepth 100000 in
theorem ContainsFunc58 (g : Nat) (cap : Array Value) (P : S71 → Bool)
    (eg : ∀ args w, (callFunc g args).run Try.prog w = .ok (.enter g args) w)
    (A0 : Option Addr) (c0 : Nat) (l : List S71) (w : World) (hr0 : Kd.C k71 w A0 l.length l) (hc0 : l.length ≤ c0) (hlen : l.length ≤ 1000000)
    (hf : ∀ x W, x ∈ l → Below w.heap.size w W → Calls Try.prog g (#[.agg #[.int .i64 x.f0, .int .i64 x.f1]] ++ cap) W fun e W' => e = .returned (.bool (P x)) ∧ Below W.heap.size W W') :
    Calls Try.prog 58 #[.slice A0 l.length c0, .func (.func g) #[] cap] w fun e w' => e = .returned (.bool (l.any P)) ∧ Below w.heap.size w w' := by
  have H := zA (IndexFunc84 g cap P eg A0 c0 l w hr0 hc0 hlen hf)
  clear hr0 hf hc0
  have E := zA (idxF_any (P := P) (l := l))
  generalize idxF P l = r at H E
  go_enter Try.func58, Try.ntmps58
  go_wp2_with (go_at_call 84; refine H.out.mono ?_; rintro e w' ⟨rfl, hb⟩)
  go_ret
  exact ⟨by rw [← E.out]; rfl, hb⟩
def btw (a b c : Int) : Bool := decide (a ≤ b) && decide (b ≤ c)
theorem btw_f (a b c : Int) : pump_between.f a b c = some (btw a b c) := by
  unfold pump_between.f btw
  by_cases h : a ≤ b <;> simp [h]
theorem btw_c (a b c : Int) (w : World) : Calls Try.prog 85 #[.int .i64 a, .int .i64 b, .int .i64 c] w fun e w' => e = .returned (.bool (btw a b c)) ∧ Drawn0 w w' :=
  pump_between.calls a b c _ w (btw_f a b c)
def good (x : S71) : Bool := btw 1 x.f0 100 && btw 0 x.f1 1000000
theorem good_f (x : S71) : pump_Bound_good.f x.f0 x.f1 = some (good x) := by
  unfold pump_Bound_good.f good
  rw [btw_f, btw_f]
  by_cases h : btw 1 x.f0 100 = true
  · simp [h]
  · simp [h]
set_option maxHeartbeats 2000000 in
set_option maxRecDepth 100000 in
theorem bad59 (x : S71) (w : World) : Calls Try.prog 59 #[.agg #[.int .i64 x.f0, .int .i64 x.f1]] w fun e w' => e = .returned (.bool (!good x)) ∧ Below w.heap.size w w' := by
  have H := fun W => pump_Bound_good.calls x.f0 x.f1 (good x) W (good_f x)
  generalize good x = g at H
  go_enter Try.func59, Try.ntmps59
  go_wp2_with (go_at_call 60; refine (H _).mono ?_; rintro e w' ⟨rfl, hb⟩)
  go_ret
  exact ⟨rfl, (below_alloc (Below.refl w.heap.size w) _).trans (hb.mono (by simp))⟩
def any_bad.f (l : List S71) : Option Bool := if l.length ≤ 1000000 then some (l.any fun x => !good x) else none
theorem any_bad.calls (A0 : Option Addr) (c0 : Nat) (l0 : List S71) (r : Bool) (w : World) (hr0 : Kd.C k71 w A0 l0.length l0) (hc0 : l0.length ≤ c0) (h : any_bad.f l0 = some r) :
    Calls Try.prog 58 #[.slice A0 l0.length c0, .func (.func 59) #[] #[]] w fun e w' => e = .returned (.bool r) ∧ Below w.heap.size w w' := by
  unfold any_bad.f at h
  split at h
  · cases h
    refine ContainsFunc58 59 #[] (fun x => !good x) (fun args w => enters_ Try.func59 (by kernel_rfl) rfl args w) A0 c0 l0 w hr0 hc0 (by assumption) (fun x W hx hb => ?_)
    exact bad59 x W
  · cases h
end Go.Proofs.Ythoeindopljmkaa.P
end
section
namespace Go.Proofs.Ythoeindopljmkaa.P
open Go.RowKit Go.Proofs.YthoeindopljmkaaW.PrintWords Go.Proofs.YthoeindopljmkaaW.PrintLast Go.Proofs.YthoeindopljmkaaW.PrintMore
set_option linter.unusedVariables false
set_option linter.unusedSimpArgs false
set_option maxHeartbeats 2000000 in
set_option maxRecDepth 100000 in
theorem grow86 (n : Int) (h0 : 0 ≤ n) (h1 : n ≤ 1000000) (w : World) :
    Calls Try.prog 86 #[.slice none 0 0, .int .i64 n] w fun e w' => ∃ v, e = .returned v ∧ Kd.N (Kd.slice 71 k71) 22 w' w.heap.size (fun k => w.heap.size ≤ k) v ([] : List (List S71)) ∧ Below w.heap.size w w' := by
  have c1 : decide (n < 0) = false := decide_eq_false (by omega)
  have c2 : wrap64 (n - 0) = n := by unfold wrap64; omega
  by_cases c : 0 < n
  · have c3 : decide (0 < n) = true := decide_eq_true c
    go_enter Try.func86, Try.ntmps86
    go_wp2_with (first | ((with_reducible refine gate_builtin (b := .append) (xs := #[.tmp 20, .tmp 21]) rfl ?_); at_builtin; refine Kd.N_append_zeros (Kd.slice 71 k71) (w0 := w) w.heap.size rfl (.tmp 20) (.tmp 21) 38 3 22 (.slice none 0 0) 24 rfl Try.underlying38 Try.underlying3 info22 rfl (by decide) (by omega) (.slice none 0 0) [] [] n (fun k => w.heap.size ≤ k) rfl (by first | rfl | (go_simp; done)) ?aZ (fun _ hk => hk) ?aO h0 ?aB ?aS ?aL ?_; (case aZ => exact Kd.FK_of_M (base := 0) ⟨_, rfl, Kd.R_nil _ _ _ _ _⟩); (case aO => exact Kd.N_nil _ _ _ _ _); (case aB => exact (by repeat (first | exact Below.refl _ _ | apply below_alloc | apply pw_below_drewN | apply below_drew1))); (case aS => exact Nat.le_refl _); (case aL => simp; omega); intro v1 w1 ho hb hg hat; obtain ⟨Ao, co, eo⟩ := Kd.N_slice ho; subst eo; have HO := zA ho; have HB := zA hb; clear ho hb hg hat))
    go_ret
    exact ⟨_, rfl, Kd.N_take HO.out (Nat.zero_le _), HB.out⟩
  · obtain rfl : n = 0 := by omega
    go_enter Try.func86, Try.ntmps86
    go_wp2
    go_ret
    exact ⟨_, rfl, Kd.N_nil _ _ _ _ _, Below.refl _ _⟩
set_option maxHeartbeats 2000000 in
set_option maxRecDepth 100000 in
theorem grow100 (n : Int) (h0 : 0 ≤ n) (h1 : n ≤ 1000000) (w : World) :
    Calls Try.prog 100 #[.slice none 0 0, .int .i64 n] w fun e w' => ∃ v, e = .returned v ∧ Kd.N (Kd.slice 3 (Kd.int .i64)) 30 w' w.heap.size (fun k => w.heap.size ≤ k) v ([] : List (List Int)) ∧ Below w.heap.size w w' := by
  have c1 : decide (n < 0) = false := decide_eq_false (by omega)
  have c2 : wrap64 (n - 0) = n := by unfold wrap64; omega
  by_cases c : 0 < n
  · have c3 : decide (0 < n) = true := decide_eq_true c
    go_enter Try.func100, Try.ntmps100
    go_wp2_with (first | ((with_reducible refine gate_builtin (b := .append) (xs := #[.tmp 20, .tmp 21]) rfl ?_); at_builtin; refine Kd.N_append_zeros (Kd.slice 3 (Kd.int .i64)) (w0 := w) w.heap.size rfl (.tmp 20) (.tmp 21) 54 3 30 (.slice none 0 0) 24 rfl Try.underlying54 Try.underlying3 info30 rfl (by decide) (by omega) (.slice none 0 0) [] [] n (fun k => w.heap.size ≤ k) rfl (by first | rfl | (go_simp; done)) ?aZ (fun _ hk => hk) ?aO h0 ?aB ?aS ?aL ?_; (case aZ => exact Kd.FK_of_M (base := 0) ⟨_, rfl, Kd.R_nil _ _ _ _ _⟩); (case aO => exact Kd.N_nil _ _ _ _ _); (case aB => exact (by repeat (first | exact Below.refl _ _ | apply below_alloc | apply pw_below_drewN | apply below_drew1))); (case aS => exact Nat.le_refl _); (case aL => simp; omega); intro v1 w1 ho hb hg hat; obtain ⟨Ao, co, eo⟩ := Kd.N_slice ho; subst eo; have HO := zA ho; have HB := zA hb; clear ho hb hg hat))
    go_ret
    exact ⟨_, rfl, Kd.N_take HO.out (Nat.zero_le _), HB.out⟩
  · obtain rfl : n = 0 := by omega
    go_enter Try.func100, Try.ntmps100
    go_wp2
    go_ret
    exact ⟨_, rfl, Kd.N_nil _ _ _ _ _, Below.refl _ _⟩
end Go.Proofs.Ythoeindopljmkaa.P
end
section
namespace Go.Proofs.Ythoeindopljmkaa.P
open Go.RowKit Go.Proofs.YthoeindopljmkaaW.PrintWords Go.Proofs.YthoeindopljmkaaW.PrintLast Go.Proofs.YthoeindopljmkaaW.PrintMore
attribute [local go_sem] max2_int min2_int max_two min_two max_three min_three max_four min_four
set_option linter.unusedVariables false
set_option linter.unusedSimpArgs false
mutual
def pump_concatB.l0 : Nat → List (List (List (S71))) → Int → List (List (List (S71))) → Int → Int → Option ((List (List (S71))))
  | 0, _, _, _, _, _ => none
  | k + 1, x0, x3, x9, x10, x11 => if x11 < x10 then (if 0 ≤ x11 then (if x11 < (x9.length : Int) then (if (wrap64 (x3 + ((rd_L7 x9 x11).length : Int))) < 0 then (none) else (pump_concatB.l0 k x0 (wrap64 (x3 + ((rd_L7 x9 x11).length : Int))) x9 x10 (wrap64 (x11 + 1)))) else (none)) else (none)) else (if 0 ≤ x3 then (if x3 ≤ 1000000 then (pump_concatB.l1 k ([] : List (List (S71))) x0 (x0.length : Int) 0) else none) else none)
def pump_concatB.l1 : Nat → List (List (S71)) → List (List (List (S71))) → Int → Int → Option ((List (List (S71))))
  | 0, _, _, _, _ => none
  | k + 1, x6, x25, x26, x27 => if x27 < x26 then (if 0 ≤ x27 then (if x27 < (x25.length : Int) then (if x6.length + (rd_L7 x25 x27).length < 5864062014805 then (pump_concatB.l1 k (x6 ++ (rd_L7 x25 x27)) x25 x26 (wrap64 (x27 + 1))) else (none)) else (none)) else (none)) else (some x6)
end
def pump_concatB.f (k : Nat) (l0 : List (List (List (S71)))) : Option ((List (List (S71)))) := pump_concatB.l0 k l0 0 l0 (l0.length : Int) 0
set_option maxHeartbeats 8000000 in
set_option maxRecDepth 100000 in
theorem pump_concatB.calls (k : Nat) (P0_ : Nat → Prop) (A0 : Option Addr) (c0 : Nat) (l0 : List (List (List (S71)))) (r : List (List (S71))) (w : World) (hs0 : Kd.V (Kd.slice 22 (Kd.slice 71 k71)) 38 w w.heap.size (fun k_ => P0_ k_) (.slice A0 l0.length c0) l0) (h : pump_concatB.f k l0 = some r) :
  Calls Try.prog 69 #[.slice A0 l0.length c0] w fun e w' => ∃ v0_ : Value, e = .returned (v0_) ∧ Kd.N (Kd.slice 71 k71) 22 w' w.heap.size (fun k_ => (P0_ k_ ∨ w.heap.size ≤ k_)) v0_ r ∧ Below w.heap.size w w' := by
 have HO0 := zA (show Kd.V (Kd.slice 22 (Kd.slice 71 k71)) 38 w w.heap.size (fun k_ => (P0_ k_ ∨ w.heap.size ≤ k_)) (.slice A0 l0.length c0) l0 from Kd.V_mono hs0 (fun k_ hk => .inl hk))
 have HB := zA (Below.refl w.heap.size w)
 have H : (pump_concatB.l0 k l0 0 l0 (l0.length : Int) 0) = some r := h
 clear h
 have H' := zA H
 clear H
 go_enter Try.func69, Try.ntmps69
 go_wp2
 go_loopg [3, 11] k (fun kq v3 v11 w' => ∃ (x3_1 : Int) (x11_1 : Int), v3 = .int .i64 x3_1 ∧ v11 = .int .i64 x11_1 ∧ Aside0 (pump_concatB.l0 kq l0 x3_1 l0 (l0.length : Int) x11_1 = some r) ∧ Aside0 (kq ≤ k) ∧ Aside0 (Kd.V (Kd.slice 22 (Kd.slice 71 k71)) 38 w' w.heap.size (fun k_ => (P0_ k_ ∨ w.heap.size ≤ k_)) (.slice A0 l0.length c0) l0) ∧ Aside0 (Kd.V (Kd.slice 22 (Kd.slice 71 k71)) 38 w' w.heap.size (fun k_ => (P0_ k_ ∨ w.heap.size ≤ k_)) (.slice A0 l0.length c0) l0) ∧ Aside0 (Below w.heap.size w w'))
 case atStart => exact ⟨(0), (0), zqQ, zqQ, H', ⟨Nat.le_refl _⟩, ⟨by (with_reducible repeat (first | apply Kd.V_alloc | apply Kd.V_drewN | apply Kd.V_drew)); exact HO0.out⟩, ⟨by (with_reducible repeat (first | apply Kd.V_alloc | apply Kd.V_drewN | apply Kd.V_drew)); exact HO0.out⟩, ⟨zqA HB.out⟩⟩
 case round =>
  clear H'
  obtain ⟨x3_1, x11_1, rfl, rfl, HA, HK1, HO_0, HO_9, HB⟩ := hrel
  cases gk with
  | zero => exact absurd HA.out (by simp [pump_concatB.l0])
  | succ k1 =>
   have H := HA.out
   clear HA
   simp only [pump_concatB.l0] at H
   by_cases c2 : x11_1 < (l0.length : Int)
   ·
    rw [if_pos c2] at H
    have c2b0 : decide (x11_1 < (l0.length : Int)) = true := decide_eq_true c2
    clear c2
    by_cases c3 : 0 ≤ x11_1
    ·
     rw [if_pos c3] at H
     have c3b0 : decide (0 ≤ x11_1) = true := decide_eq_true c3
     clear c3
     by_cases c4 : x11_1 < (l0.length : Int)
     ·
      rw [if_pos c4] at H
      have c4b0 : decide (x11_1 < (l0.length : Int)) = true := decide_eq_true c4
      clear c4
      by_cases c5 : (wrap64 (x3_1 + ((rd_L7 l0 x11_1).length : Int))) < 0
      ·
       rw [if_pos c5] at H
       exact absurd H (by simp)
      ·
       rw [if_neg c5] at H
       have c5b0 : decide ((wrap64 (x3_1 + ((rd_L7 l0 x11_1).length : Int))) < 0) = false := decide_eq_false c5
       clear c5
       have H' := zA H
       clear H
       have p103 : 0 ≤ (x11_1 : Int) := of_decide_eq_true (zqD)
       have q103 : x11_1 < (l0.length : Int) := of_decide_eq_true (zqD)
       obtain ⟨ad103, A103_0, c103_0, e103, hx103_0, hl103_0, hi103_0⟩ := at_L7 (Kd.V_reads' HO_9.out).2.2 x11_1 p103 q103
       cases e103
       obtain ⟨ce103, hce103, hMe103, hcc103⟩ := Kd.V_get HO_9.out [] x11_1 p103 (by first | exact q103 | exact of_decide_eq_true (zqD) | (have e_ := (Kd.V_reads' HO_9.out).1; omega))
       obtain ⟨ua103_0, uc103_0, rfl, ul103_0, ge103_0⟩ := Kd.FK_slice_open hMe103
       have hv103_0 := hcc103 0 _ rfl
       rw [Nat.add_zero, show ((Kd.slice 22 (Kd.slice 71 k71))).sz = 1 from rfl, Nat.mul_one] at hv103_0
       replace hv103_0 := Option.some.inj (hv103_0.symm.trans hx103_0)
       injection hv103_0 with hva_ hvn_ hvc_
       rw [hva_] at ge103_0
       rw [hvc_] at ul103_0
       have HL103_0 := zA (show Kd.V (Kd.slice 71 k71) 22 _ w.heap.size _ _ (rd_L7 l0 x11_1) from Kd.V_mk ul103_0 ge103_0)
       clear hva_ hvn_ hvc_ ge103_0 ul103_0 hcc103 hce103
       have HR103_0 := zA hi103_0
       have HC103_0 := zA hl103_0
       clear hi103_0 hl103_0; replace p103 := eq_true p103; replace q103 := eq_true q103
       go_wp2
       go_roundg k1
       case measure => have := HK1.out; omega
       case rel => exact ⟨(wrap64 (x3_1 + ((rd_L7 l0 x11_1).length : Int))), (wrap64 (x11_1 + 1)), zqQ, zqQ, H', ⟨by have := HK1.out; omega⟩, ⟨by (with_reducible repeat (first | apply Kd.V_alloc | apply Kd.V_drewN | apply Kd.V_drew)); exact HO_0.out⟩, ⟨by (with_reducible repeat (first | apply Kd.V_alloc | apply Kd.V_drewN | apply Kd.V_drew)); exact HO_9.out⟩, ⟨zqA HB.out⟩⟩
     ·
      rw [if_neg c4] at H
      exact absurd H (by simp)
    ·
     rw [if_neg c3] at H
     exact absurd H (by simp)
   ·
    rw [if_neg c2] at H
    have c2b0 : decide (x11_1 < (l0.length : Int)) = false := decide_eq_false c2
    clear c2
    have gg : 0 ≤ x3_1 ∧ x3_1 ≤ 1000000 := by
     by_cases g1 : 0 ≤ x3_1
     ·
      rw [if_pos g1] at H
      by_cases g2 : x3_1 ≤ 1000000
      ·
       exact ⟨g1, g2⟩
      ·
       rw [if_neg g2] at H
       exact absurd H (by simp)
     ·
      rw [if_neg g1] at H
      exact absurd H (by simp)
    rw [if_pos gg.1, if_pos gg.2] at H
    have H' := zA H
    clear H
    have HG := zA (grow86 x3_1 gg.1 gg.2 wr)
    clear gg
    go_wp2_with (go_at_call 86; refine HG.out.mono ?_; rintro e w9 ⟨v9, rfl, ho, hb⟩; have n0_ := zA (Kd.V_elder' HO_0.out (Kd.N_base ho) hb); have n1_ := zA (Kd.N_mono (Kd.N_lower ho HB.out.size) (fun k hk => (.inr (Nat.le_trans HB.out.size hk) : P0_ k ∨ w.heap.size ≤ k))); have n2_ := zA (below_step HB.out hb); clear HO_0 HB ho hb; have HO_0 := n0_; have HO9 := n1_; have HB := n2_; clear n0_ n1_ n2_ HG)
    go_loopg [6, 27] k1 (fun kq v6 v27 w' => ∃ (x6_2 : List (List (S71))) (x27_2 : Int), v27 = .int .i64 x27_2 ∧ Aside0 (pump_concatB.l1 kq x6_2 l0 (l0.length : Int) x27_2 = some r) ∧ Aside0 (kq ≤ k1) ∧ Aside0 (Kd.N (Kd.slice 71 k71) 22 w' w.heap.size (fun k_ => (P0_ k_ ∨ w.heap.size ≤ k_)) v6 x6_2) ∧ Aside0 (Kd.V (Kd.slice 22 (Kd.slice 71 k71)) 38 w' w.heap.size (fun k_ => (P0_ k_ ∨ w.heap.size ≤ k_) ∧ some k_ ≠ (v6 : Value).ownBlock) (.slice A0 l0.length c0) l0) ∧ Aside0 (Below w.heap.size w w'))
    case atStart => exact ⟨(([] : List (List (S71)))), (0), rfl, H', ⟨Nat.le_refl _⟩, HO9, HO_0, HB⟩
    case round =>
     clear H'
     try clear c1
     try clear p1
     try clear q1
     try clear hx1
     try clear c2
     try clear c2b0
     try clear p2
     try clear c3
     try clear c3b0
     try clear c4
     try clear c4b0
     try clear c5
     try clear c5b0
     try clear hx103_0
     try clear p103
     try clear q103
     obtain ⟨x6_2, x27_2, rfl, HA, HK2, HO_6, HO_25, HB⟩ := hrel
     cases gk with
     | zero => exact absurd HA.out (by simp [pump_concatB.l1])
     | succ k2 =>
      have H := HA.out
      clear HA
      simp only [pump_concatB.l1] at H
      by_cases c6 : x27_2 < (l0.length : Int)
      ·
       rw [if_pos c6] at H
       have c6b0 : decide (x27_2 < (l0.length : Int)) = true := decide_eq_true c6
       clear c6
       by_cases c7 : 0 ≤ x27_2
       ·
        rw [if_pos c7] at H
        have c7b0 : decide (0 ≤ x27_2) = true := decide_eq_true c7
        clear c7
        by_cases c8 : x27_2 < (l0.length : Int)
        ·
         rw [if_pos c8] at H
         have c8b0 : decide (x27_2 < (l0.length : Int)) = true := decide_eq_true c8
         clear c8
         by_cases c9 : x6_2.length + (rd_L7 l0 x27_2).length < 5864062014805
         ·
          rw [if_pos c9] at H
          have LMc9 := zA c9
          clear c9
          obtain ⟨y105, hy105⟩ : ∃ y_ : List (List (S71)), y_ = (x6_2 ++ (rd_L7 l0 x27_2)) := ⟨_, rfl⟩
          replace H : (pump_concatB.l1 k2 y105 l0 (l0.length : Int) (wrap64 (x27_2 + 1))) = some r := zqF hy105 H
          have Ny105 := zA hy105
          clear hy105
          have H' := zA H
          clear H
          have p104 : 0 ≤ (x27_2 : Int) := of_decide_eq_true (zqD)
          have q104 : x27_2 < (l0.length : Int) := of_decide_eq_true (zqD)
          obtain ⟨ad104, A104_0, c104_0, e104, hx104_0, hl104_0, hi104_0⟩ := at_L7 (Kd.V_reads' HO_25.out).2.2 x27_2 p104 q104
          cases e104
          obtain ⟨ce104, hce104, hMe104, hcc104⟩ := Kd.V_get HO_25.out [] x27_2 p104 (by first | exact q104 | exact of_decide_eq_true (zqD) | (have e_ := (Kd.V_reads' HO_25.out).1; omega))
          obtain ⟨ua104_0, uc104_0, rfl, ul104_0, ge104_0⟩ := Kd.FK_slice_open hMe104
          have hv104_0 := hcc104 0 _ rfl
          rw [Nat.add_zero, show ((Kd.slice 22 (Kd.slice 71 k71))).sz = 1 from rfl, Nat.mul_one] at hv104_0
          replace hv104_0 := Option.some.inj (hv104_0.symm.trans hx104_0)
          injection hv104_0 with hva_ hvn_ hvc_
          rw [hva_] at ge104_0
          rw [hvc_] at ul104_0
          have HL104_0 := zA (show Kd.V (Kd.slice 71 k71) 22 _ w.heap.size _ _ (rd_L7 l0 x27_2) from Kd.V_mk ul104_0 ge104_0)
          clear hva_ hvn_ hvc_ ge104_0 ul104_0 hcc104 hce104
          have HR104_0 := zA hi104_0
          have HC104_0 := zA hl104_0
          clear hi104_0 hl104_0; replace p104 := eq_true p104; replace q104 := eq_true q104
          go_wp2_with (first | ((with_reducible refine gate_builtin (b := .append) (xs := #[.tmp 31, .tmp 32]) rfl ?_); at_builtin; refine Kd.N_append_rows (Kd.slice 71 k71) (w0 := w) w.heap.size rfl (.tmp 31) (.tmp 32) 38 22 (.slice none 0 0) 24 rfl Try.underlying38 info22 rfl (by decide) (by omega) u6 x6_2 (rd_L7 l0 x27_2) _ _ _ (fun k_ => (P0_ k_ ∨ w.heap.size ≤ k_)) (fun k_ => ((fun k_ => (P0_ k_ ∨ w.heap.size ≤ k_))) k_ ∧ some k_ ≠ (u6 : Value).ownBlock) rfl rfl ?aO ?aR (fun _ hk => hk) ?aF ?aB ?aS ?aL ?_; (case aR => exact (by skip; exact Kd.V_F (Kd.V_mono (ok' := (fun k_ => ((fun k_ => (P0_ k_ ∨ w.heap.size ≤ k_))) k_ ∧ some k_ ≠ (u6 : Value).ownBlock)) (HL104_0.out) (fun k_ hk => ⟨hk.1, hk.2⟩)))); (case aB => exact (zqA HB.out)); (case aF => exact (fun k_ hk => (.inr (Nat.le_trans (below_size (zqA HB.out)) hk)))); (case aO => exact (zqN HO_6.out)); (case aS => exact (below_size (zqA HB.out))); (case aL => have := LMc9.out; omega); intro v106 w10 ho hb hg hat; rw [← Ny105.out] at ho; have n0_ := zA (Kd.V_afterv (ok := (fun k_ => (P0_ k_ ∨ w.heap.size ≤ k_))) (by (with_reducible repeat (first | apply Kd.V_alloc | apply Kd.V_drewN | apply Kd.V_drew)); exact HO_25.out) hg hat); have n1_ := zA (Kd.V_afterv (ok := (fun k_ => (P0_ k_ ∨ w.heap.size ≤ k_))) (by (with_reducible repeat (first | apply Kd.V_alloc | apply Kd.V_drewN | apply Kd.V_drew)); exact HL104_0.out) hg hat); have n2_ := zA (hb); have n3_ := zA (ho); clear HO_25; clear HL104_0; clear HB; clear HO_6; have HO_25 := n0_; have HL104_0 := n1_; have HB := n2_; have HO107 := n3_; clear n0_ n1_ n2_ n3_; clear ho hb hg hat))
          go_roundg k2
          case measure => have := HK1.out; have := HK2.out; omega
          case rel => exact ⟨(y105), (wrap64 (x27_2 + 1)), zqQ, H', ⟨by have := HK1.out; have := HK2.out; omega⟩, ⟨zqN HO107.out⟩, ⟨by (with_reducible repeat (first | apply Kd.V_alloc | apply Kd.V_drewN | apply Kd.V_drew)); exact HO_25.out⟩, ⟨zqA HB.out⟩⟩
         ·
          rw [if_neg c9] at H
          exact absurd H (by simp)
        ·
         rw [if_neg c8] at H
         exact absurd H (by simp)
       ·
        rw [if_neg c7] at H
        exact absurd H (by simp)
      ·
       rw [if_neg c6] at H
       have c6b0 : decide (x27_2 < (l0.length : Int)) = false := decide_eq_false c6
       clear c6
       obtain rfl := Option.some.inj H
       go_wp2
       go_ret
       exact ⟨_, zqR, zqN HO_6.out, zqA HB.out⟩
mutual
def pump_concatI.l0 : Nat → List (List (List Int)) → Int → List (List (List Int)) → Int → Int → Option ((List (List Int)))
  | 0, _, _, _, _, _ => none
  | k + 1, x0, x3, x9, x10, x11 => if x11 < x10 then (if 0 ≤ x11 then (if x11 < (x9.length : Int) then (if (wrap64 (x3 + ((rd_L9 x9 x11).length : Int))) < 0 then (none) else (pump_concatI.l0 k x0 (wrap64 (x3 + ((rd_L9 x9 x11).length : Int))) x9 x10 (wrap64 (x11 + 1)))) else (none)) else (none)) else (if 0 ≤ x3 then (if x3 ≤ 1000000 then (pump_concatI.l1 k ([] : List (List Int)) x0 (x0.length : Int) 0) else none) else none)
def pump_concatI.l1 : Nat → List (List Int) → List (List (List Int)) → Int → Int → Option ((List (List Int)))
  | 0, _, _, _, _ => none
  | k + 1, x6, x25, x26, x27 => if x27 < x26 then (if 0 ≤ x27 then (if x27 < (x25.length : Int) then (if x6.length + (rd_L9 x25 x27).length < 5864062014805 then (pump_concatI.l1 k (x6 ++ (rd_L9 x25 x27)) x25 x26 (wrap64 (x27 + 1))) else (none)) else (none)) else (none)) else (some x6)
end
def pump_concatI.f (k : Nat) (l0 : List (List (List Int))) : Option ((List (List Int))) := pump_concatI.l0 k l0 0 l0 (l0.length : Int) 0
set_option maxHeartbeats 8000000 in
set_option maxRecDepth 100000 in
theorem pump_concatI.calls (k : Nat) (P0_ : Nat → Prop) (A0 : Option Addr) (c0 : Nat) (l0 : List (List (List Int))) (r : List (List Int)) (w : World) (hs0 : Kd.V (Kd.slice 30 (Kd.slice 3 (Kd.int .i64))) 54 w w.heap.size (fun k_ => P0_ k_) (.slice A0 l0.length c0) l0) (h : pump_concatI.f k l0 = some r) :
  Calls Try.prog 89 #[.slice A0 l0.length c0] w fun e w' => ∃ v0_ : Value, e = .returned (v0_) ∧ Kd.N (Kd.slice 3 (Kd.int .i64)) 30 w' w.heap.size (fun k_ => (P0_ k_ ∨ w.heap.size ≤ k_)) v0_ r ∧ Below w.heap.size w w' := by
 have HO0 := zA (show Kd.V (Kd.slice 30 (Kd.slice 3 (Kd.int .i64))) 54 w w.heap.size (fun k_ => (P0_ k_ ∨ w.heap.size ≤ k_)) (.slice A0 l0.length c0) l0 from Kd.V_mono hs0 (fun k_ hk => .inl hk))
 have HB := zA (Below.refl w.heap.size w)
 have H : (pump_concatI.l0 k l0 0 l0 (l0.length : Int) 0) = some r := h
 clear h
 have H' := zA H
 clear H
 go_enter Try.func89, Try.ntmps89
 go_wp2
 go_loopg [3, 11] k (fun kq v3 v11 w' => ∃ (x3_1 : Int) (x11_1 : Int), v3 = .int .i64 x3_1 ∧ v11 = .int .i64 x11_1 ∧ Aside0 (pump_concatI.l0 kq l0 x3_1 l0 (l0.length : Int) x11_1 = some r) ∧ Aside0 (kq ≤ k) ∧ Aside0 (Kd.V (Kd.slice 30 (Kd.slice 3 (Kd.int .i64))) 54 w' w.heap.size (fun k_ => (P0_ k_ ∨ w.heap.size ≤ k_)) (.slice A0 l0.length c0) l0) ∧ Aside0 (Kd.V (Kd.slice 30 (Kd.slice 3 (Kd.int .i64))) 54 w' w.heap.size (fun k_ => (P0_ k_ ∨ w.heap.size ≤ k_)) (.slice A0 l0.length c0) l0) ∧ Aside0 (Below w.heap.size w w'))
 case atStart => exact ⟨(0), (0), zqQ, zqQ, H', ⟨Nat.le_refl _⟩, ⟨by (with_reducible repeat (first | apply Kd.V_alloc | apply Kd.V_drewN | apply Kd.V_drew)); exact HO0.out⟩, ⟨by (with_reducible repeat (first | apply Kd.V_alloc | apply Kd.V_drewN | apply Kd.V_drew)); exact HO0.out⟩, ⟨zqA HB.out⟩⟩
 case round =>
  clear H'
  obtain ⟨x3_1, x11_1, rfl, rfl, HA, HK1, HO_0, HO_9, HB⟩ := hrel
  cases gk with
  | zero => exact absurd HA.out (by simp [pump_concatI.l0])
  | succ k1 =>
   have H := HA.out
   clear HA
   simp only [pump_concatI.l0] at H
   by_cases c2 : x11_1 < (l0.length : Int)
   ·
    rw [if_pos c2] at H
    have c2b0 : decide (x11_1 < (l0.length : Int)) = true := decide_eq_true c2
    clear c2
    by_cases c3 : 0 ≤ x11_1
    ·
     rw [if_pos c3] at H
     have c3b0 : decide (0 ≤ x11_1) = true := decide_eq_true c3
     clear c3
     by_cases c4 : x11_1 < (l0.length : Int)
     ·
      rw [if_pos c4] at H
      have c4b0 : decide (x11_1 < (l0.length : Int)) = true := decide_eq_true c4
      clear c4
      by_cases c5 : (wrap64 (x3_1 + ((rd_L9 l0 x11_1).length : Int))) < 0
      ·
       rw [if_pos c5] at H
       exact absurd H (by simp)
      ·
       rw [if_neg c5] at H
       have c5b0 : decide ((wrap64 (x3_1 + ((rd_L9 l0 x11_1).length : Int))) < 0) = false := decide_eq_false c5
       clear c5
       have H' := zA H
       clear H
       have p108 : 0 ≤ (x11_1 : Int) := of_decide_eq_true (zqD)
       have q108 : x11_1 < (l0.length : Int) := of_decide_eq_true (zqD)
       obtain ⟨ad108, A108_0, c108_0, e108, hx108_0, hl108_0, hi108_0⟩ := at_L9 (Kd.V_reads' HO_9.out).2.2 x11_1 p108 q108
       cases e108
       obtain ⟨ce108, hce108, hMe108, hcc108⟩ := Kd.V_get HO_9.out [] x11_1 p108 (by first | exact q108 | exact of_decide_eq_true (zqD) | (have e_ := (Kd.V_reads' HO_9.out).1; omega))
       obtain ⟨ua108_0, uc108_0, rfl, ul108_0, ge108_0⟩ := Kd.FK_slice_open hMe108
       have hv108_0 := hcc108 0 _ rfl
       rw [Nat.add_zero, show ((Kd.slice 30 (Kd.slice 3 (Kd.int .i64)))).sz = 1 from rfl, Nat.mul_one] at hv108_0
       replace hv108_0 := Option.some.inj (hv108_0.symm.trans hx108_0)
       injection hv108_0 with hva_ hvn_ hvc_
       rw [hva_] at ge108_0
       rw [hvc_] at ul108_0
       have HL108_0 := zA (show Kd.V (Kd.slice 3 (Kd.int .i64)) 30 _ w.heap.size _ _ (rd_L9 l0 x11_1) from Kd.V_mk ul108_0 ge108_0)
       clear hva_ hvn_ hvc_ ge108_0 ul108_0 hcc108 hce108
       have HR108_0 := zA hi108_0
       have HC108_0 := zA hl108_0
       clear hi108_0 hl108_0; replace p108 := eq_true p108; replace q108 := eq_true q108
       go_wp2
       go_roundg k1
       case measure => have := HK1.out; omega
       case rel => exact ⟨(wrap64 (x3_1 + ((rd_L9 l0 x11_1).length : Int))), (wrap64 (x11_1 + 1)), zqQ, zqQ, H', ⟨by have := HK1.out; omega⟩, ⟨by (with_reducible repeat (first | apply Kd.V_alloc | apply Kd.V_drewN | apply Kd.V_drew)); exact HO_0.out⟩, ⟨by (with_reducible repeat (first | apply Kd.V_alloc | apply Kd.V_drewN | apply Kd.V_drew)); exact HO_9.out⟩, ⟨zqA HB.out⟩⟩
     ·
      rw [if_neg c4] at H
      exact absurd H (by simp)
    ·
     rw [if_neg c3] at H
     exact absurd H (by simp)
   ·
    rw [if_neg c2] at H
    have c2b0 : decide (x11_1 < (l0.length : Int)) = false := decide_eq_false c2
    clear c2
    have gg : 0 ≤ x3_1 ∧ x3_1 ≤ 1000000 := by
     by_cases g1 : 0 ≤ x3_1
     ·
      rw [if_pos g1] at H
      by_cases g2 : x3_1 ≤ 1000000
      ·
       exact ⟨g1, g2⟩
      ·
       rw [if_neg g2] at H
       exact absurd H (by simp)
     ·
      rw [if_neg g1] at H
      exact absurd H (by simp)
    rw [if_pos gg.1, if_pos gg.2] at H
    have H' := zA H
    clear H
    have HG := zA (grow100 x3_1 gg.1 gg.2 wr)
    clear gg
    go_wp2_with (go_at_call 100; refine HG.out.mono ?_; rintro e w9 ⟨v9, rfl, ho, hb⟩; have n0_ := zA (Kd.V_elder' HO_0.out (Kd.N_base ho) hb); have n1_ := zA (Kd.N_mono (Kd.N_lower ho HB.out.size) (fun k hk => (.inr (Nat.le_trans HB.out.size hk) : P0_ k ∨ w.heap.size ≤ k))); have n2_ := zA (below_step HB.out hb); clear HO_0 HB ho hb; have HO_0 := n0_; have HO9 := n1_; have HB := n2_; clear n0_ n1_ n2_ HG)
    go_loopg [6, 27] k1 (fun kq v6 v27 w' => ∃ (x6_2 : List (List Int)) (x27_2 : Int), v27 = .int .i64 x27_2 ∧ Aside0 (pump_concatI.l1 kq x6_2 l0 (l0.length : Int) x27_2 = some r) ∧ Aside0 (kq ≤ k1) ∧ Aside0 (Kd.N (Kd.slice 3 (Kd.int .i64)) 30 w' w.heap.size (fun k_ => (P0_ k_ ∨ w.heap.size ≤ k_)) v6 x6_2) ∧ Aside0 (Kd.V (Kd.slice 30 (Kd.slice 3 (Kd.int .i64))) 54 w' w.heap.size (fun k_ => (P0_ k_ ∨ w.heap.size ≤ k_) ∧ some k_ ≠ (v6 : Value).ownBlock) (.slice A0 l0.length c0) l0) ∧ Aside0 (Below w.heap.size w w'))
    case atStart => exact ⟨(([] : List (List Int))), (0), rfl, H', ⟨Nat.le_refl _⟩, HO9, HO_0, HB⟩
    case round =>
     clear H'
     try clear c1
     try clear p1
     try clear q1
     try clear hx1
     try clear c2
     try clear c2b0
     try clear p2
     try clear c3
     try clear c3b0
     try clear c4
     try clear c4b0
     try clear c5
     try clear c5b0
     try clear hx108_0
     try clear p108
     try clear q108
     obtain ⟨x6_2, x27_2, rfl, HA, HK2, HO_6, HO_25, HB⟩ := hrel
     cases gk with
     | zero => exact absurd HA.out (by simp [pump_concatI.l1])
     | succ k2 =>
      have H := HA.out
      clear HA
      simp only [pump_concatI.l1] at H
      by_cases c6 : x27_2 < (l0.length : Int)
      ·
       rw [if_pos c6] at H
       have c6b0 : decide (x27_2 < (l0.length : Int)) = true := decide_eq_true c6
       clear c6
       by_cases c7 : 0 ≤ x27_2
       ·
        rw [if_pos c7] at H
        have c7b0 : decide (0 ≤ x27_2) = true := decide_eq_true c7
        clear c7
        by_cases c8 : x27_2 < (l0.length : Int)
        ·
         rw [if_pos c8] at H
         have c8b0 : decide (x27_2 < (l0.length : Int)) = true := decide_eq_true c8
         clear c8
         by_cases c9 : x6_2.length + (rd_L9 l0 x27_2).length < 5864062014805
         ·
          rw [if_pos c9] at H
          have LMc9 := zA c9
          clear c9
          obtain ⟨y110, hy110⟩ : ∃ y_ : List (List Int), y_ = (x6_2 ++ (rd_L9 l0 x27_2)) := ⟨_, rfl⟩
          replace H : (pump_concatI.l1 k2 y110 l0 (l0.length : Int) (wrap64 (x27_2 + 1))) = some r := zqF hy110 H
          have Ny110 := zA hy110
          clear hy110
          have H' := zA H
          clear H
          have p109 : 0 ≤ (x27_2 : Int) := of_decide_eq_true (zqD)
          have q109 : x27_2 < (l0.length : Int) := of_decide_eq_true (zqD)
          obtain ⟨ad109, A109_0, c109_0, e109, hx109_0, hl109_0, hi109_0⟩ := at_L9 (Kd.V_reads' HO_25.out).2.2 x27_2 p109 q109
          cases e109
          obtain ⟨ce109, hce109, hMe109, hcc109⟩ := Kd.V_get HO_25.out [] x27_2 p109 (by first | exact q109 | exact of_decide_eq_true (zqD) | (have e_ := (Kd.V_reads' HO_25.out).1; omega))
          obtain ⟨ua109_0, uc109_0, rfl, ul109_0, ge109_0⟩ := Kd.FK_slice_open hMe109
          have hv109_0 := hcc109 0 _ rfl
          rw [Nat.add_zero, show ((Kd.slice 30 (Kd.slice 3 (Kd.int .i64)))).sz = 1 from rfl, Nat.mul_one] at hv109_0
          replace hv109_0 := Option.some.inj (hv109_0.symm.trans hx109_0)
          injection hv109_0 with hva_ hvn_ hvc_
          rw [hva_] at ge109_0
          rw [hvc_] at ul109_0
          have HL109_0 := zA (show Kd.V (Kd.slice 3 (Kd.int .i64)) 30 _ w.heap.size _ _ (rd_L9 l0 x27_2) from Kd.V_mk ul109_0 ge109_0)
          clear hva_ hvn_ hvc_ ge109_0 ul109_0 hcc109 hce109
          have HR109_0 := zA hi109_0
          have HC109_0 := zA hl109_0
          clear hi109_0 hl109_0; replace p109 := eq_true p109; replace q109 := eq_true q109
          go_wp2_with (first | ((with_reducible refine gate_builtin (b := .append) (xs := #[.tmp 31, .tmp 32]) rfl ?_); at_builtin; refine Kd.N_append_rows (Kd.slice 3 (Kd.int .i64)) (w0 := w) w.heap.size rfl (.tmp 31) (.tmp 32) 54 30 (.slice none 0 0) 24 rfl Try.underlying54 info30 rfl (by decide) (by omega) u6 x6_2 (rd_L9 l0 x27_2) _ _ _ (fun k_ => (P0_ k_ ∨ w.heap.size ≤ k_)) (fun k_ => ((fun k_ => (P0_ k_ ∨ w.heap.size ≤ k_))) k_ ∧ some k_ ≠ (u6 : Value).ownBlock) rfl rfl ?aO ?aR (fun _ hk => hk) ?aF ?aB ?aS ?aL ?_; (case aR => exact (by skip; exact Kd.V_F (Kd.V_mono (ok' := (fun k_ => ((fun k_ => (P0_ k_ ∨ w.heap.size ≤ k_))) k_ ∧ some k_ ≠ (u6 : Value).ownBlock)) (HL109_0.out) (fun k_ hk => ⟨hk.1, hk.2⟩)))); (case aB => exact (zqA HB.out)); (case aF => exact (fun k_ hk => (.inr (Nat.le_trans (below_size (zqA HB.out)) hk)))); (case aO => exact (zqN HO_6.out)); (case aS => exact (below_size (zqA HB.out))); (case aL => have := LMc9.out; omega); intro v111 w10 ho hb hg hat; rw [← Ny110.out] at ho; have n0_ := zA (Kd.V_afterv (ok := (fun k_ => (P0_ k_ ∨ w.heap.size ≤ k_))) (by (with_reducible repeat (first | apply Kd.V_alloc | apply Kd.V_drewN | apply Kd.V_drew)); exact HO_25.out) hg hat); have n1_ := zA (Kd.V_afterv (ok := (fun k_ => (P0_ k_ ∨ w.heap.size ≤ k_))) (by (with_reducible repeat (first | apply Kd.V_alloc | apply Kd.V_drewN | apply Kd.V_drew)); exact HL109_0.out) hg hat); have n2_ := zA (hb); have n3_ := zA (ho); clear HO_25; clear HL109_0; clear HB; clear HO_6; have HO_25 := n0_; have HL109_0 := n1_; have HB := n2_; have HO112 := n3_; clear n0_ n1_ n2_ n3_; clear ho hb hg hat))
          go_roundg k2
          case measure => have := HK1.out; have := HK2.out; omega
          case rel => exact ⟨(y110), (wrap64 (x27_2 + 1)), zqQ, H', ⟨by have := HK1.out; have := HK2.out; omega⟩, ⟨zqN HO112.out⟩, ⟨by (with_reducible repeat (first | apply Kd.V_alloc | apply Kd.V_drewN | apply Kd.V_drew)); exact HO_25.out⟩, ⟨zqA HB.out⟩⟩
         ·
          rw [if_neg c9] at H
          exact absurd H (by simp)
        ·
         rw [if_neg c8] at H
         exact absurd H (by simp)
       ·
        rw [if_neg c7] at H
        exact absurd H (by simp)
      ·
       rw [if_neg c6] at H
       have c6b0 : decide (x27_2 < (l0.length : Int)) = false := decide_eq_false c6
       clear c6
       obtain rfl := Option.some.inj H
       go_wp2
       go_ret
       exact ⟨_, zqR, zqN HO_6.out, zqA HB.out⟩
end Go.Proofs.Ythoeindopljmkaa.P
end
section
namespace Go.Proofs.Ythoeindopljmkaa.P
open Go.RowKit Go.Proofs.YthoeindopljmkaaW.PrintWords Go.Proofs.YthoeindopljmkaaW.PrintLast Go.Proofs.YthoeindopljmkaaW.PrintMore
attribute [local go_sem] max2_int min2_int max_two min_two max_three min_three max_four min_four
set_option linter.unusedVariables false
set_option linter.unusedSimpArgs false
def pump_CheckBounds.f (l0 : List (S71)) : Option (Int) := if (l0.length : Int) = 0 then (some 4) else (if (l0.length : Int) > 5 then (some 5) else ((any_bad.f l0).bind fun t113 => (if t113 = true then (some 3) else (some 0))))
set_option maxHeartbeats 8000000 in
set_option maxRecDepth 100000 in
theorem pump_CheckBounds.calls (A0 : Option Addr) (c0 : Nat) (l0 : List (S71)) (r : Int) (w : World) (hr0 : Kd.C k71 w A0 l0.length l0) (hc0 : l0.length ≤ c0) (h : pump_CheckBounds.f l0 = some r) :
  Calls Try.prog 23 #[.slice A0 l0.length c0] w fun e w' => e = .returned (.int .i64 r) ∧ Below w.heap.size w w' := by
 have HR0 := zA hr0
 have HC0 := zA hc0
 clear hr0 hc0
 have HB := zA (Below.refl w.heap.size w)
 have H : (if (l0.length : Int) = 0 then (some 4) else (if (l0.length : Int) > 5 then (some 5) else ((any_bad.f l0).bind fun t113 => (if t113 = true then (some 3) else (some 0))))) = some r := h
 clear h
 by_cases c2 : (l0.length : Int) = 0
 ·
  rw [if_pos c2] at H
  have c2b0 : ((l0.length : Int) == 0) = true := beq_iff_eq.mpr c2
  have c2b1 : ((l0.length : Int) != 0) = false := bne_eq_false_iff_eq.mpr c2
  clear c2
  obtain rfl := Option.some.inj H
  go_enter Try.func23, Try.ntmps23
  go_wp2
  go_ret
  exact ⟨zqR, zqA HB.out⟩
 ·
  rw [if_neg c2] at H
  have c2b0 : ((l0.length : Int) == 0) = false := beq_eq_false_iff_ne.mpr c2
  have c2b1 : ((l0.length : Int) != 0) = true := bne_iff_ne.mpr c2
  have c2b2 : ¬ (l0 = []) := fun h_ => c2 (by rw [h_]; rfl)
  by_cases c3 : (l0.length : Int) > 5
  ·
   rw [if_pos c3] at H
   have c3b0 : decide (5 < (l0.length : Int)) = true := decide_eq_true c3
   have c3b1 : decide (5 < l0.length) = true := decide_eq_true (by omega)
   clear c3
   obtain rfl := Option.some.inj H
   go_enter Try.func23, Try.ntmps23
   go_wp2
   go_ret
   exact ⟨zqR, zqA HB.out⟩
  ·
   rw [if_neg c3] at H
   have c3b0 : decide (5 < (l0.length : Int)) = false := decide_eq_false c3
   have c3b1 : decide (5 < l0.length) = false := decide_eq_false (by omega)
   clear c3
   replace H := Option.bind_eq_some_iff.mp H
   obtain ⟨t113, A40, H⟩ := H
   replace H : (if t113 = true then (some 3) else (some 0)) = some r := H
   have A4 := zA A40
   clear A40
   by_cases c5 : t113 = true
   ·
    subst c5
    have H1 : (some 3) = some r := by rw [if_pos rfl] at H; exact H
    clear H; have H := H1; clear H1
    obtain rfl := Option.some.inj H
    go_enter Try.func23, Try.ntmps23
    go_wp2_with (first | ((with_reducible refine gate_callee (f := 58) rfl ?_); refine goesL_ (some 13) rfl rfl Try.func58 (by kernel_rfl) rfl #[.slice A0 l0.length c0, .func (.func 59) #[] #[]] rfl zqE ?_; (with_reducible refine (any_bad.calls _ _ l0 true _ ?side1 ?side2 A4.out).mono ?_); (case side1 => exact zqK HR0.out); (case side2 => exact HC0.out); rintro e w6 ⟨rfl, hb⟩; refine ⟨_, rfl, ?_⟩; have n0_ := zA (below_step (zqA HB.out) hb); clear HB; have HB := n0_; clear n0_; (try clear hb); (try clear hb2); (try clear hk); (try clear hi)))
    go_ret
    exact ⟨zqR, zqA HB.out⟩
   ·
    replace c5 := Bool.eq_false_iff.mpr c5
    subst c5
    have H1 : (some 0) = some r := by rw [if_neg (show ¬ (false = true) by decide)] at H; exact H
    clear H; have H := H1; clear H1
    obtain rfl := Option.some.inj H
    go_enter Try.func23, Try.ntmps23
    go_wp2_with (first | ((with_reducible refine gate_callee (f := 58) rfl ?_); refine goesL_ (some 13) rfl rfl Try.func58 (by kernel_rfl) rfl #[.slice A0 l0.length c0, .func (.func 59) #[] #[]] rfl zqE ?_; (with_reducible refine (any_bad.calls _ _ l0 false _ ?side1 ?side2 A4.out).mono ?_); (case side1 => exact zqK HR0.out); (case side2 => exact HC0.out); rintro e w7 ⟨rfl, hb⟩; refine ⟨_, rfl, ?_⟩; have n0_ := zA (below_step (zqA HB.out) hb); clear HB; have HB := n0_; clear n0_; (try clear hb); (try clear hb2); (try clear hk); (try clear hi)))
    go_ret
    exact ⟨zqR, zqA HB.out⟩
mutual
def pump_CheckV.j0 : Nat → Bool → List (List (S71)) → List (List (S71)) → Option (Int)
  | 0, _, _, _ => none
  | k + 1, x6, x115000, x115001 => if x6 = true then (some 4) else (if (x115000.length : Int) > 3 then (some 5) else (if (x115001.length : Int) > 3 then (some 5) else ((pump_concatB.f k (([x115000, x115001] : List (List (List (S71)))))).bind fun t118 => (pump_CheckV.l0 k t118 (t118.length : Int) 0))))
def pump_CheckV.l0 : Nat → List (List (S71)) → Int → Int → Option (Int)
  | 0, _, _, _ => none
  | k + 1, x33, x34, x35 => if x35 < x34 then (if 0 ≤ x35 then (if x35 < (x33.length : Int) then ((pump_CheckBounds.f (rd_L4 x33 x35)).bind fun t122 => (if t122 = 0 then (pump_CheckV.l0 k x33 x34 (wrap64 (x35 + 1))) else (some t122))) else (none)) else (none)) else (some 0)
end
def pump_CheckV.f (k : Nat) (l0_0 : List (List (S71))) (l0_1 : List (List (S71))) : Option (Int) := if (l0_0.length : Int) = 0 then (pump_CheckV.j0 k true l0_0 l0_1) else (pump_CheckV.j0 k ((l0_1.length : Int) == 0) l0_0 l0_1)
set_option maxHeartbeats 8000000 in
set_option maxRecDepth 100000 in
theorem pump_CheckV.calls (k : Nat) (P0_0_ : Nat → Prop) (A0_0 : Option Addr) (c0_0 : Nat) (l0_0 : List (List (S71))) (P0_1_ : Nat → Prop) (A0_1 : Option Addr) (c0_1 : Nat) (l0_1 : List (List (S71))) (r : Int) (w : World) (hs0_0 : Kd.V (Kd.slice 71 k71) 22 w w.heap.size (fun k_ => P0_0_ k_) (.slice A0_0 l0_0.length c0_0) l0_0) (hs0_1 : Kd.V (Kd.slice 71 k71) 22 w w.heap.size (fun k_ => P0_1_ k_) (.slice A0_1 l0_1.length c0_1) l0_1) (h : pump_CheckV.f k l0_0 l0_1 = some r) :
  Calls Try.prog 34 #[.agg #[.slice A0_0 l0_0.length c0_0, .slice A0_1 l0_1.length c0_1]] w fun e w' => e = .returned (.int .i64 r) ∧ Below w.heap.size w w' := by
 have hu40 := Try.underlying40
 have HO0_0 := zA (show Kd.V (Kd.slice 71 k71) 22 w w.heap.size (fun k_ => ((P0_0_ k_ ∨ P0_1_ k_) ∨ w.heap.size ≤ k_)) (.slice A0_0 l0_0.length c0_0) l0_0 from Kd.V_mono hs0_0 (fun k_ hk => .inl (.inl hk)))
 have HO0_1 := zA (show Kd.V (Kd.slice 71 k71) 22 w w.heap.size (fun k_ => ((P0_0_ k_ ∨ P0_1_ k_) ∨ w.heap.size ≤ k_)) (.slice A0_1 l0_1.length c0_1) l0_1 from Kd.V_mono hs0_1 (fun k_ hk => .inl (.inr hk)))
 have HB := zA (Below.refl w.heap.size w)
 have H : (if (l0_0.length : Int) = 0 then (pump_CheckV.j0 k true l0_0 l0_1) else (pump_CheckV.j0 k ((l0_1.length : Int) == 0) l0_0 l0_1)) = some r := h
 clear h
 have HC2 := zA H
 clear H
 go_enter Try.func34, Try.ntmps34
 go_upto_region 1 with (first | ((with_reducible refine gate_dst (N := 1) rfl ?_); (try (refine gate_guard (by rfl) ?_; dsimp only)); refine box_event ?hg (N := 1) ?hd (cs := #[.slice A0_0 l0_0.length c0_0, .slice A0_1 l0_1.length c0_1]) (t := 40) ?hr ?_; (case hd => rfl); (case hg => rfl); (case hr => first | (go_simp; done) | (go_simp; rfl)); intro gb114 hg w3 hbox hb; have n0_ := zA (Kd.V_below (Kd.V_elderB (by (with_reducible repeat (first | apply Kd.V_alloc | apply Kd.V_drewN | apply Kd.V_drew)); exact HO0_0.out) gb114 (Nat.le_of_eq hg.symm)) hb); have n1_ := zA (Kd.V_below (Kd.V_elderB (by (with_reducible repeat (first | apply Kd.V_alloc | apply Kd.V_drewN | apply Kd.V_drew)); exact HO0_1.out) gb114 (Nat.le_of_eq hg.symm)) hb); have n2_ := zA (below_step (zqA HB.out) hb); have n3_ := zA (hbox); have n4_ := zA ((by rw [hg]; exact (below_size (zqA HB.out)) : w.heap.size ≤ gb114)); have n5_ := zA ((by rw [hg]; exact (below_size (zqA HB.out)) : w.heap.size ≤ gb114)); clear HO0_0; clear HO0_1; clear HB; have HO0_0 := n0_; have HO0_1 := n1_; have HB := n2_; have BK114 := n3_; have GW114 := n4_; have GE114 := n5_; clear n0_ n1_ n2_ n3_ n4_ n5_; clear hb hbox hg))
 (try simp only [Act.put, List.setIfInBounds_toArray, List.set_cons_zero, List.set_cons_succ])
 go_cut [6] (fun v6 wc => ∃ (kq : Nat) (x6_1 : Bool), v6 = .bool x6_1 ∧ Aside0 (pump_CheckV.j0 kq x6_1 l0_0 l0_1 = some r) ∧ Aside0 (kq ≤ k) ∧ Aside0 (Kd.V (Kd.slice 71 k71) 22 wc w.heap.size (fun k_ => ((P0_0_ k_ ∨ P0_1_ k_) ∨ w.heap.size ≤ k_) ∧ k_ ≠ gb114) (.slice A0_0 l0_0.length c0_0) l0_0) ∧ Aside0 (Kd.V (Kd.slice 71 k71) 22 wc w.heap.size (fun k_ => ((P0_0_ k_ ∨ P0_1_ k_) ∨ w.heap.size ≤ k_) ∧ k_ ≠ gb114) (.slice A0_1 l0_1.length c0_1) l0_1) ∧ Aside0 (wc.heap[gb114]? = some (.cells #[(.slice A0_0 l0_0.length c0_0), (.slice A0_1 l0_1.length c0_1)] 40 (0, 0))) ∧ Aside0 (Below w.heap.size w wc))
 case first =>
  have H := HC2.out
  clear HC2
  by_cases c4 : (l0_0.length : Int) = 0
  ·
   rw [if_pos c4] at H
   have c4b0 : ((l0_0.length : Int) == 0) = true := beq_iff_eq.mpr c4
   have c4b1 : ((l0_0.length : Int) != 0) = false := bne_eq_false_iff_eq.mpr c4
   clear c4
   (first | rw [c4b0] | (simp only [i64_w, i32_w]; rw [c4b0]) | skip)
   have H' := zA H
   clear H
   have hcz5_0 : w3.cell? ⟨gb114, 0, none⟩ = some (.slice A0_0 l0_0.length c0_0) := (blk_cell BK114.out 0).trans rfl
   have hcz5_1 : w3.cell? ⟨gb114, 1, none⟩ = some (.slice A0_1 l0_1.length c0_1) := (blk_cell BK114.out 1).trans rfl
   have hfz5_0 := blk_frozen BK114.out 0
   have hfz5_1 := blk_frozen BK114.out 1
   go_wp2
   go_meet
   case rel => exact ⟨_, (true), zqQ, H', ⟨by first | omega | exact Nat.le_refl _⟩, ⟨by (with_reducible repeat (first | apply Kd.V_alloc | apply Kd.V_drewN | apply Kd.V_drew)); exact HO0_0.out⟩, ⟨by (with_reducible repeat (first | apply Kd.V_alloc | apply Kd.V_drewN | apply Kd.V_drew)); exact HO0_1.out⟩, ⟨zqB BK114.out⟩, ⟨zqG HB.out GE114.out⟩⟩
  ·
   rw [if_neg c4] at H
   have c4b0 : ((l0_0.length : Int) == 0) = false := beq_eq_false_iff_ne.mpr c4
   have c4b1 : ((l0_0.length : Int) != 0) = true := bne_iff_ne.mpr c4
   have c4b2 : ¬ (l0_0 = []) := fun h_ => c4 (by rw [h_]; rfl)
   (first | rw [c4b0] | (simp only [i64_w, i32_w]; rw [c4b0]) | skip)
   have H' := zA H
   clear H
   have hcz6_0 : w3.cell? ⟨gb114, 0, none⟩ = some (.slice A0_0 l0_0.length c0_0) := (blk_cell BK114.out 0).trans rfl
   have hcz6_1 : w3.cell? ⟨gb114, 1, none⟩ = some (.slice A0_1 l0_1.length c0_1) := (blk_cell BK114.out 1).trans rfl
   have hfz6_0 := blk_frozen BK114.out 0
   have hfz6_1 := blk_frozen BK114.out 1
   go_wp2
   go_meet
   case rel => exact ⟨_, (((l0_1.length : Int) == 0)), zqQ, H', ⟨by first | omega | exact Nat.le_refl _⟩, ⟨by (with_reducible repeat (first | apply Kd.V_alloc | apply Kd.V_drewN | apply Kd.V_drew)); exact HO0_0.out⟩, ⟨by (with_reducible repeat (first | apply Kd.V_alloc | apply Kd.V_drewN | apply Kd.V_drew)); exact HO0_1.out⟩, ⟨zqB BK114.out⟩, ⟨zqG HB.out GE114.out⟩⟩
 case rest =>
  clear HC2
  try clear p2
  try clear c3
  try clear c4
  try clear c4b0
  try clear c4b1
  try clear c4b2
  try clear hcz5_0
  try clear hcz5_1
  try clear hcz6_0
  try clear hcz6_1
  try clear hfz5_0
  try clear hfz5_1
  try clear hfz6_0
  try clear hfz6_1
  obtain ⟨kq, x6_1, rfl, HA, HJ1, HO_115000, HO_115001, BK114, HB⟩ := hcut
  cases kq with
  | zero => exact absurd HA.out (by simp [pump_CheckV.j0])
  | succ kj1 =>
   have H := HA.out
   clear HA
   simp only [pump_CheckV.j0] at H
   by_cases c7 : x6_1 = true
   ·
    subst c7
    have H1 : (some 4) = some r := by rw [if_pos rfl] at H; exact H
    clear H; have H := H1; clear H1
    obtain rfl := Option.some.inj H
    go_wp2
    go_ret
    exact ⟨zqR, zqG HB.out GE114.out⟩
   ·
    replace c7 := Bool.eq_false_iff.mpr c7
    subst c7
    have H1 : (if (l0_0.length : Int) > 3 then (some 5) else (if (l0_1.length : Int) > 3 then (some 5) else ((pump_concatB.f kj1 (([l0_0, l0_1] : List (List (List (S71)))))).bind fun t118 => (pump_CheckV.l0 kj1 t118 (t118.length : Int) 0)))) = some r := by rw [if_neg (show ¬ (false = true) by decide)] at H; exact H
    clear H; have H := H1; clear H1
    by_cases c8 : (l0_0.length : Int) > 3
    ·
     rw [if_pos c8] at H
     have c8b0 : decide (3 < (l0_0.length : Int)) = true := decide_eq_true c8
     have c8b1 : decide (3 < l0_0.length) = true := decide_eq_true (by omega)
     clear c8
     obtain rfl := Option.some.inj H
     have hcz9_0 : wc.cell? ⟨gb114, 0, none⟩ = some (.slice A0_0 l0_0.length c0_0) := (blk_cell BK114.out 0).trans rfl
     have hcz9_1 : wc.cell? ⟨gb114, 1, none⟩ = some (.slice A0_1 l0_1.length c0_1) := (blk_cell BK114.out 1).trans rfl
     have hfz9_0 := blk_frozen BK114.out 0
     have hfz9_1 := blk_frozen BK114.out 1
     go_wp2
     go_ret
     exact ⟨zqR, zqG HB.out GE114.out⟩
    ·
     rw [if_neg c8] at H
     have c8b0 : decide (3 < (l0_0.length : Int)) = false := decide_eq_false c8
     have c8b1 : decide (3 < l0_0.length) = false := decide_eq_false (by omega)
     clear c8
     by_cases c10 : (l0_1.length : Int) > 3
     ·
      rw [if_pos c10] at H
      have c10b0 : decide (3 < (l0_1.length : Int)) = true := decide_eq_true c10
      have c10b1 : decide (3 < l0_1.length) = true := decide_eq_true (by omega)
      clear c10
      obtain rfl := Option.some.inj H
      have hcz11_0 : wc.cell? ⟨gb114, 0, none⟩ = some (.slice A0_0 l0_0.length c0_0) := (blk_cell BK114.out 0).trans rfl
      have hcz11_1 : wc.cell? ⟨gb114, 1, none⟩ = some (.slice A0_1 l0_1.length c0_1) := (blk_cell BK114.out 1).trans rfl
      have hfz11_0 := blk_frozen BK114.out 0
      have hfz11_1 := blk_frozen BK114.out 1
      go_wp2
      go_ret
      exact ⟨zqR, zqG HB.out GE114.out⟩
     ·
      rw [if_neg c10] at H
      have c10b0 : decide (3 < (l0_1.length : Int)) = false := decide_eq_false c10
      have c10b1 : decide (3 < l0_1.length) = false := decide_eq_false (by omega)
      clear c10
      obtain ⟨y115, hy115⟩ : ∃ y_ : List (List (List (S71))), y_ = (([l0_0, l0_1] : List (List (List (S71))))) := ⟨_, rfl⟩
      replace H : ((pump_concatB.f kj1 y115).bind fun t118 => (pump_CheckV.l0 kj1 t118 (t118.length : Int) 0)) = some r := zqF hy115 H
      have Ny115 := zA hy115
      clear hy115
      replace H := Option.bind_eq_some_iff.mp H
      obtain ⟨t118, A120, H⟩ := H
      replace H : (pump_CheckV.l0 kj1 t118 (t118.length : Int) 0) = some r := H
      have A12 := zA A120
      clear A120
      have H' := zA H
      clear H
      have hcz13_0 : wc.cell? ⟨gb114, 0, none⟩ = some (.slice A0_0 l0_0.length c0_0) := (blk_cell BK114.out 0).trans rfl
      have hcz13_1 : wc.cell? ⟨gb114, 1, none⟩ = some (.slice A0_1 l0_1.length c0_1) := (blk_cell BK114.out 1).trans rfl
      have hfz13_0 := blk_frozen BK114.out 0
      have hfz13_1 := blk_frozen BK114.out 1
      go_wp2_with (first | ((with_reducible refine gate_dst (N := 32) rfl ?_); (try (refine gate_guard (by rfl) ?_; dsimp only)); refine Kd.N_lit (Kd.slice 22 (Kd.slice 71 k71)) _ 38 ?hg (N' := 32) ?hd (xs := ([l0_0, l0_1] : List (List (List (S71))))) (inner := [.slice A0_0 l0_0.length c0_0, .slice A0_1 l0_1.length c0_1]) (ok := (fun k_ => ((P0_0_ k_ ∨ P0_1_ k_) ∨ w.heap.size ≤ k_) ∧ k_ ≠ gb114)) (okp := (fun k_ => ((P0_0_ k_ ∨ P0_1_ k_) ∨ w.heap.size ≤ k_) ∧ k_ ≠ gb114)) ?hr ?hp (fun _ hk => hk) ((show ∀ k_, wc.heap.size ≤ k_ → (fun k_ => ((P0_0_ k_ ∨ P0_1_ k_) ∨ w.heap.size ≤ k_) ∧ k_ ≠ gb114) k_ from fun k_ hk => ⟨(.inr (Nat.le_trans (below_size (zqG HB.out GE114.out)) hk)), Kd.freshB (g := gb114) (o := .cells #[.slice A0_0 l0_0.length c0_0, .slice A0_1 l0_1.length c0_1] 40 (0, 0)) (zqB BK114.out) k_ hk⟩) _ (Nat.le_refl _)) (Below.refl _ _) (Nat.le_refl _) (by simp) ?_; (case hd => rfl); (case hg => rfl); (case hr => first | (go_simp; done) | (go_simp; rfl)); (case hp => exact (Reps.one (show Kd.FK (Kd.slice 22 (Kd.slice 71 k71)) _ _ l0_0 [.slice A0_0 l0_0.length c0_0] from (Kd.FK_slice_mk (Kd.V_reads' (Kd.V_mono (ok' := (fun k_ => ((P0_0_ k_ ∨ P0_1_ k_) ∨ w.heap.size ≤ k_) ∧ k_ ≠ gb114)) (HO_115000.out) (fun k_ hk => ⟨hk.1, hk.2⟩))).2.1 (Kd.V_F (Kd.V_mono (ok' := (fun k_ => ((P0_0_ k_ ∨ P0_1_ k_) ∨ w.heap.size ≤ k_) ∧ k_ ≠ gb114)) (HO_115000.out) (fun k_ hk => ⟨hk.1, hk.2⟩))))) (Reps.one (show Kd.FK (Kd.slice 22 (Kd.slice 71 k71)) _ _ l0_1 [.slice A0_1 l0_1.length c0_1] from (Kd.FK_slice_mk (Kd.V_reads' (Kd.V_mono (ok' := (fun k_ => ((P0_0_ k_ ∨ P0_1_ k_) ∨ w.heap.size ≤ k_) ∧ k_ ≠ gb114)) (HO_115001.out) (fun k_ hk => ⟨hk.1, hk.2⟩))).2.1 (Kd.V_F (Kd.V_mono (ok' := (fun k_ => ((P0_0_ k_ ∨ P0_1_ k_) ∨ w.heap.size ≤ k_) ∧ k_ ≠ gb114)) (HO_115001.out) (fun k_ hk => ⟨hk.1, hk.2⟩))))) (Reps.none _ _)))); intro v116 w14 ho15 hb hg_ hnew_; clear hg_ hnew_; (first | rw [← Ny115.out] at ho15 | (simp only [Int.reduceToNat] at ho15; rw [← Ny115.out] at ho15)); have n0_ := zA (Kd.V_elder' (by (with_reducible repeat (first | apply Kd.V_alloc | apply Kd.V_drewN | apply Kd.V_drew)); exact HO_115000.out) (Kd.N_base ho15) hb); have n1_ := zA (Kd.V_elder' (by (with_reducible repeat (first | apply Kd.V_alloc | apply Kd.V_drewN | apply Kd.V_drew)); exact HO_115001.out) (Kd.N_base ho15) hb); have n2_ := zA (Kd.N_lower ho15 (below_size (zqG HB.out GE114.out))); have n3_ := zA (blk_below (g := gb114) (o := .cells #[.slice A0_0 l0_0.length c0_0, .slice A0_1 l0_1.length c0_1] 40 (0, 0)) (zqB BK114.out) hb); have n4_ := zA (below_step (zqG HB.out GE114.out) hb); clear HO_115000; clear HO_115001; clear BK114; clear HB; have HO_115000 := n0_; have HO_115001 := n1_; have HO117 := n2_; have BK114 := n3_; have HB := n4_; clear n0_ n1_ n2_ n3_ n4_; clear hb ho15; obtain ⟨Ao16, co16, eo16⟩ := Kd.N_slice HO117.out; subst eo16) | ((with_reducible refine gate_callee (f := 69) rfl ?_); refine goesL_ (some 33) rfl rfl Try.func69 (by kernel_rfl) rfl #[.slice Ao16 y115.length co16] rfl zqE ?_; (with_reducible refine (pump_concatB.calls kj1 (fun k_ => (((P0_0_ k_ ∨ P0_1_ k_) ∨ w.heap.size ≤ k_) ∧ k_ ≠ gb114)) _ _ y115 t118 _ ?side1 A12.out).mono ?_); (case side1 => exact Kd.N_V (HO117.out)); rintro e w17 ⟨v119, rfl, ho0, hb⟩; refine ⟨_, rfl, ?_⟩; have n0_ := zA (Kd.V_elder' (by (with_reducible repeat (first | apply Kd.V_alloc | apply Kd.V_drewN | apply Kd.V_drew)); exact HO_115000.out) (Kd.N_base ho0) hb); have n1_ := zA (Kd.V_elder' (by (with_reducible repeat (first | apply Kd.V_alloc | apply Kd.V_drewN | apply Kd.V_drew)); exact HO_115001.out) (Kd.N_base ho0) hb); have n2_ := zA (Kd.N_elder' (zqN HO117.out) (Kd.N_base ho0) hb); have n3_ := zA (Kd.N_lower (Kd.N_mono (ok' := fun k_ => ((P0_0_ k_ ∨ P0_1_ k_) ∨ w.heap.size ≤ k_) ∧ k_ ≠ gb114) ho0 (fun k_ hk_ => ⟨Or.elim hk_ (fun hs_ => hs_.1) (fun hn_ => (.inr (Nat.le_trans (below_size (zqG HB.out GE114.out)) hn_))), Or.elim hk_ (fun hs_ => hs_.2) (fun hn_ => (Kd.freshB (g := gb114) (o := .cells #[.slice A0_0 l0_0.length c0_0, .slice A0_1 l0_1.length c0_1] 40 (0, 0)) (zqB BK114.out) k_ hn_))⟩)) (below_size (zqG HB.out GE114.out))); have n4_ := zA (blk_below (g := gb114) (o := .cells #[.slice A0_0 l0_0.length c0_0, .slice A0_1 l0_1.length c0_1] 40 (0, 0)) (zqB BK114.out) hb); have n5_ := zA (below_step (zqG HB.out GE114.out) hb); clear HO_115000; clear HO_115001; clear HO117; clear BK114; clear HB; have HO_115000 := n0_; have HO_115001 := n1_; have HO117 := n2_; have HO120 := n3_; have BK114 := n4_; have HB := n5_; clear n0_ n1_ n2_ n3_ n4_ n5_; (try clear hb); (try clear hb2); (try clear hk); (try clear hi); (try clear ho0); obtain ⟨Ao18, co18, eo18⟩ := Kd.N_slice HO120.out; subst eo18))
      go_loopg [35] kj1 (fun kq v35 w' => ∃ (x35_2 : Int), v35 = .int .i64 x35_2 ∧ Aside0 (pump_CheckV.l0 kq t118 (t118.length : Int) x35_2 = some r) ∧ Aside0 (kq ≤ kj1) ∧ Aside0 (Kd.N (Kd.slice 71 k71) 22 w' w.heap.size (fun k_ => ((P0_0_ k_ ∨ P0_1_ k_) ∨ w.heap.size ≤ k_) ∧ k_ ≠ gb114) (.slice Ao18 t118.length co18) t118) ∧ Aside0 (Kd.V (Kd.slice 71 k71) 22 w' w.heap.size (fun k_ => ((P0_0_ k_ ∨ P0_1_ k_) ∨ w.heap.size ≤ k_) ∧ some k_ ≠ ((.slice Ao18 t118.length co18) : Value).ownBlock ∧ k_ ≠ gb114) (.slice A0_0 l0_0.length c0_0) l0_0) ∧ Aside0 (Kd.V (Kd.slice 71 k71) 22 w' w.heap.size (fun k_ => ((P0_0_ k_ ∨ P0_1_ k_) ∨ w.heap.size ≤ k_) ∧ some k_ ≠ ((.slice Ao18 t118.length co18) : Value).ownBlock ∧ k_ ≠ gb114) (.slice A0_1 l0_1.length c0_1) l0_1) ∧ Aside0 (w'.heap[gb114]? = some (.cells #[(.slice A0_0 l0_0.length c0_0), (.slice A0_1 l0_1.length c0_1)] 40 (0, 0))) ∧ Aside0 (Below w.heap.size w w'))
      case atStart => exact ⟨(0), zqQ, H', ⟨Nat.le_refl _⟩, ⟨zqN HO120.out⟩, ⟨by (with_reducible repeat (first | apply Kd.V_alloc | apply Kd.V_drewN | apply Kd.V_drew)); exact Kd.V_mono HO_115000.out (fun _ hk => ⟨hk.1.1.1, ⟨hk.2, hk.1.1.2⟩⟩)⟩, ⟨by (with_reducible repeat (first | apply Kd.V_alloc | apply Kd.V_drewN | apply Kd.V_drew)); exact Kd.V_mono HO_115001.out (fun _ hk => ⟨hk.1.1.1, ⟨hk.2, hk.1.1.2⟩⟩)⟩, ⟨zqB BK114.out⟩, ⟨zqG HB.out GE114.out⟩⟩
      case round =>
       clear H'
       try clear c1
       try clear p2
       try clear c3
       try clear c4
       try clear c4b0
       try clear c4b1
       try clear c4b2
       try clear c6
       try clear c7
       try clear c8
       try clear c8b0
       try clear c8b1
       try clear c10
       try clear c10b0
       try clear c10b1
       try clear hcz11_0
       try clear hcz11_1
       try clear hcz13_0
       try clear hcz13_1
       try clear hcz5_0
       try clear hcz5_1
       try clear hcz6_0
       try clear hcz6_1
       try clear hcz9_0
       try clear hcz9_1
       try clear hfz11_0
       try clear hfz11_1
       try clear hfz13_0
       try clear hfz13_1
       try clear hfz5_0
       try clear hfz5_1
       try clear hfz6_0
       try clear hfz6_1
       try clear hfz9_0
       try clear hfz9_1
       try clear p2
       obtain ⟨x35_2, rfl, HA, HK2, HO_33, HO_115000, HO_115001, BK114, HB⟩ := hrel
       cases gk with
       | zero => exact absurd HA.out (by simp [pump_CheckV.l0])
       | succ k2 =>
        have H := HA.out
        clear HA
        simp only [pump_CheckV.l0] at H
        by_cases c19 : x35_2 < (t118.length : Int)
        ·
         rw [if_pos c19] at H
         have c19b0 : decide (x35_2 < (t118.length : Int)) = true := decide_eq_true c19
         clear c19
         by_cases c20 : 0 ≤ x35_2
         ·
          rw [if_pos c20] at H
          have c20b0 : decide (0 ≤ x35_2) = true := decide_eq_true c20
          clear c20
          by_cases c21 : x35_2 < (t118.length : Int)
          ·
           rw [if_pos c21] at H
           have c21b0 : decide (x35_2 < (t118.length : Int)) = true := decide_eq_true c21
           clear c21
           replace H := Option.bind_eq_some_iff.mp H
           obtain ⟨t122, A220, H⟩ := H
           replace H : (if t122 = 0 then (pump_CheckV.l0 k2 t118 (t118.length : Int) (wrap64 (x35_2 + 1))) else (some t122)) = some r := H
           have A22 := zA A220
           clear A220
           by_cases c23 : t122 = 0
           ·
            rw [if_pos c23] at H
            have c23b0 : (t122 == 0) = true := beq_iff_eq.mpr c23
            have c23b1 : (t122 != 0) = false := bne_eq_false_iff_eq.mpr c23
            clear c23
            have H' := zA H
            clear H
            have p121 : 0 ≤ (x35_2 : Int) := of_decide_eq_true (zqD)
            have q121 : x35_2 < (t118.length : Int) := of_decide_eq_true (zqD)
            obtain ⟨ad121, A121_0, c121_0, e121, hx121_0, hl121_0, hi121_0⟩ := at_L4 (Kd.N_reads' HO_33.out).2.2 x35_2 p121 q121
            cases e121
            obtain ⟨ce121, hce121, hMe121, hcc121⟩ := Kd.N_get HO_33.out [] x35_2 p121 (by first | exact q121 | exact of_decide_eq_true (zqD) | (have e_ := (Kd.N_reads' HO_33.out).1; omega))
            obtain ⟨ua121_0, uc121_0, rfl, ul121_0, ge121_0⟩ := Kd.FK_slice_open hMe121
            have hv121_0 := hcc121 0 _ rfl
            rw [Nat.add_zero, show ((Kd.slice 71 k71)).sz = 1 from rfl, Nat.mul_one] at hv121_0
            replace hv121_0 := Option.some.inj (hv121_0.symm.trans hx121_0)
            injection hv121_0 with hva_ hvn_ hvc_
            rw [hva_] at ge121_0
            rw [hvc_] at ul121_0
            have HL121_0 := zA (show Kd.V k71 71 _ w.heap.size _ _ (rd_L4 t118 x35_2) from Kd.V_mk ul121_0 ge121_0)
            clear hva_ hvn_ hvc_ ge121_0 ul121_0 hcc121 hce121
            have HR121_0 := zA hi121_0
            have HC121_0 := zA hl121_0
            clear hi121_0 hl121_0; replace p121 := eq_true p121; replace q121 := eq_true q121
            go_wp2_with (first | ((with_reducible refine gate_callee (f := 23) rfl ?_); refine goesL_ (some 40) rfl rfl Try.func23 (by kernel_rfl) rfl #[.slice A121_0 (rd_L4 t118 x35_2).length c121_0] rfl zqE ?_; (with_reducible refine (pump_CheckBounds.calls _ _ (rd_L4 t118 x35_2) t122 _ ?side1 ?side2 A22.out).mono ?_); (case side1 => repeat (first | exact (by repeat (first | (with_reducible exact HR121_0.out) | (with_reducible refine Kd.C_alloc ?_ _) | (with_reducible refine Kd.C_drewN ?_ _) | (with_reducible refine Kd.C_drew ?_) | exact HR121_0.out)) | (with_reducible refine Kd.C_alloc ?_ _) | (with_reducible refine Kd.C_drewN ?_ _) | (with_reducible refine Kd.C_drew ?_))); (case side2 => exact HC121_0.out); rintro e w24 ⟨rfl, hb⟩; refine ⟨_, rfl, ?_⟩; have n0_ := zA (Kd.N_below (zqN HO_33.out) hb); have n1_ := zA (Kd.V_below (by (with_reducible repeat (first | apply Kd.V_alloc | apply Kd.V_drewN | apply Kd.V_drew)); exact HO_115000.out) hb); have n2_ := zA (Kd.V_below (by (with_reducible repeat (first | apply Kd.V_alloc | apply Kd.V_drewN | apply Kd.V_drew)); exact HO_115001.out) hb); have n3_ := zA (Kd.V_below (by (with_reducible repeat (first | apply Kd.V_alloc | apply Kd.V_drewN | apply Kd.V_drew)); exact HL121_0.out) hb); have n4_ := zA (blk_below (g := gb114) (o := .cells #[.slice A0_0 l0_0.length c0_0, .slice A0_1 l0_1.length c0_1] 40 (0, 0)) (zqB BK114.out) hb); have n5_ := zA (Kd.C_below (by repeat (first | (with_reducible exact HR121_0.out) | (with_reducible refine Kd.C_alloc ?_ _) | (with_reducible refine Kd.C_drewN ?_ _) | (with_reducible refine Kd.C_drew ?_) | exact HR121_0.out)) hb); have n6_ := zA (below_step (zqG HB.out GE114.out) hb); clear HO_33; clear HO_115000; clear HO_115001; clear HL121_0; clear BK114; clear HR121_0; clear HB; have HO_33 := n0_; have HO_115000 := n1_; have HO_115001 := n2_; have HL121_0 := n3_; have BK114 := n4_; have HR121_0 := n5_; have HB := n6_; clear n0_ n1_ n2_ n3_ n4_ n5_ n6_; (try clear hb); (try clear hb2); (try clear hk); (try clear hi)))
            go_roundg k2
            case measure => have := HJ1.out; have := HK2.out; omega
            case rel => exact ⟨(wrap64 (x35_2 + 1)), zqQ, H', ⟨by have := HJ1.out; have := HK2.out; omega⟩, ⟨zqN HO_33.out⟩, ⟨by (with_reducible repeat (first | apply Kd.V_alloc | apply Kd.V_drewN | apply Kd.V_drew)); exact HO_115000.out⟩, ⟨by (with_reducible repeat (first | apply Kd.V_alloc | apply Kd.V_drewN | apply Kd.V_drew)); exact HO_115001.out⟩, ⟨zqB BK114.out⟩, ⟨zqG HB.out GE114.out⟩⟩
           ·
            rw [if_neg c23] at H
            have c23b0 : (t122 == 0) = false := beq_eq_false_iff_ne.mpr c23
            have c23b1 : (t122 != 0) = true := bne_iff_ne.mpr c23
            obtain rfl := Option.some.inj H
            have p121 : 0 ≤ (x35_2 : Int) := of_decide_eq_true (zqD)
            have q121 : x35_2 < (t118.length : Int) := of_decide_eq_true (zqD)
            obtain ⟨ad121, A121_0, c121_0, e121, hx121_0, hl121_0, hi121_0⟩ := at_L4 (Kd.N_reads' HO_33.out).2.2 x35_2 p121 q121
            cases e121
            obtain ⟨ce121, hce121, hMe121, hcc121⟩ := Kd.N_get HO_33.out [] x35_2 p121 (by first | exact q121 | exact of_decide_eq_true (zqD) | (have e_ := (Kd.N_reads' HO_33.out).1; omega))
            obtain ⟨ua121_0, uc121_0, rfl, ul121_0, ge121_0⟩ := Kd.FK_slice_open hMe121
            have hv121_0 := hcc121 0 _ rfl
            rw [Nat.add_zero, show ((Kd.slice 71 k71)).sz = 1 from rfl, Nat.mul_one] at hv121_0
            replace hv121_0 := Option.some.inj (hv121_0.symm.trans hx121_0)
            injection hv121_0 with hva_ hvn_ hvc_
            rw [hva_] at ge121_0
            rw [hvc_] at ul121_0
            have HL121_0 := zA (show Kd.V k71 71 _ w.heap.size _ _ (rd_L4 t118 x35_2) from Kd.V_mk ul121_0 ge121_0)
            clear hva_ hvn_ hvc_ ge121_0 ul121_0 hcc121 hce121
            have HR121_0 := zA hi121_0
            have HC121_0 := zA hl121_0
            clear hi121_0 hl121_0; replace p121 := eq_true p121; replace q121 := eq_true q121
            go_wp2_with (first | ((with_reducible refine gate_callee (f := 23) rfl ?_); refine goesL_ (some 40) rfl rfl Try.func23 (by kernel_rfl) rfl #[.slice A121_0 (rd_L4 t118 x35_2).length c121_0] rfl zqE ?_; (with_reducible refine (pump_CheckBounds.calls _ _ (rd_L4 t118 x35_2) t122 _ ?side1 ?side2 A22.out).mono ?_); (case side1 => repeat (first | exact (by repeat (first | (with_reducible exact HR121_0.out) | (with_reducible refine Kd.C_alloc ?_ _) | (with_reducible refine Kd.C_drewN ?_ _) | (with_reducible refine Kd.C_drew ?_) | exact HR121_0.out)) | (with_reducible refine Kd.C_alloc ?_ _) | (with_reducible refine Kd.C_drewN ?_ _) | (with_reducible refine Kd.C_drew ?_))); (case side2 => exact HC121_0.out); rintro e w25 ⟨rfl, hb⟩; refine ⟨_, rfl, ?_⟩; have n0_ := zA (Kd.N_below (zqN HO_33.out) hb); have n1_ := zA (Kd.V_below (by (with_reducible repeat (first | apply Kd.V_alloc | apply Kd.V_drewN | apply Kd.V_drew)); exact HO_115000.out) hb); have n2_ := zA (Kd.V_below (by (with_reducible repeat (first | apply Kd.V_alloc | apply Kd.V_drewN | apply Kd.V_drew)); exact HO_115001.out) hb); have n3_ := zA (Kd.V_below (by (with_reducible repeat (first | apply Kd.V_alloc | apply Kd.V_drewN | apply Kd.V_drew)); exact HL121_0.out) hb); have n4_ := zA (blk_below (g := gb114) (o := .cells #[.slice A0_0 l0_0.length c0_0, .slice A0_1 l0_1.length c0_1] 40 (0, 0)) (zqB BK114.out) hb); have n5_ := zA (Kd.C_below (by repeat (first | (with_reducible exact HR121_0.out) | (with_reducible refine Kd.C_alloc ?_ _) | (with_reducible refine Kd.C_drewN ?_ _) | (with_reducible refine Kd.C_drew ?_) | exact HR121_0.out)) hb); have n6_ := zA (below_step (zqG HB.out GE114.out) hb); clear HO_33; clear HO_115000; clear HO_115001; clear HL121_0; clear BK114; clear HR121_0; clear HB; have HO_33 := n0_; have HO_115000 := n1_; have HO_115001 := n2_; have HL121_0 := n3_; have BK114 := n4_; have HR121_0 := n5_; have HB := n6_; clear n0_ n1_ n2_ n3_ n4_ n5_ n6_; (try clear hb); (try clear hb2); (try clear hk); (try clear hi)))
            go_ret
            exact ⟨zqR, zqG HB.out GE114.out⟩
          ·
           rw [if_neg c21] at H
           exact absurd H (by simp)
         ·
          rw [if_neg c20] at H
          exact absurd H (by simp)
        ·
         rw [if_neg c19] at H
         have c19b0 : decide (x35_2 < (t118.length : Int)) = false := decide_eq_false c19
         clear c19
         obtain rfl := Option.some.inj H
         go_wp2
         go_ret
         exact ⟨zqR, zqG HB.out GE114.out⟩
def pump_Check.f (l0 l1 : List (List S71)) : Option Int := pump_CheckV.f 40 l0 l1
theorem pump_Check.calls (A0_0 : Option Addr) (c0_0 : Nat) (l0_0 : List (List (S71))) (A0_1 : Option Addr) (c0_1 : Nat) (l0_1 : List (List (S71))) (r : Int) (w : World) (hr0_0 : Kd.C (Kd.slice 71 k71) w A0_0 l0_0.length l0_0) (hc0_0 : l0_0.length ≤ c0_0) (hr0_1 : Kd.C (Kd.slice 71 k71) w A0_1 l0_1.length l0_1) (hc0_1 : l0_1.length ≤ c0_1) (h : pump_Check.f l0_0 l0_1 = some r) :
    Calls Try.prog 34 #[.agg #[.slice A0_0 l0_0.length c0_0, .slice A0_1 l0_1.length c0_1]] w fun e w' => e = .returned (.int .i64 r) ∧ Below w.heap.size w w' :=
  pump_CheckV.calls 40 _ A0_0 c0_0 l0_0 _ A0_1 c0_1 l0_1 r w (Kd.V_mk hc0_0 (Kd.C_F (Kd.heap_slice 71 k71_heap) hr0_0)) (Kd.V_mk hc0_1 (Kd.C_F (Kd.heap_slice 71 k71_heap) hr0_1)) h
end Go.Proofs.Ythoeindopljmkaa.P
end
section
namespace Go.Proofs.Ythoeindopljmkaa.P
open Go.RowKit Go.Proofs.YthoeindopljmkaaW.PrintWords Go.Proofs.YthoeindopljmkaaW.PrintLast Go.Proofs.YthoeindopljmkaaW.PrintMore
attribute [local go_sem] max2_int min2_int max_two min_two max_three min_three max_four min_four
set_option linter.unusedVariables false
set_option linter.unusedSimpArgs false
def pianolalaw04_Q.f  : Option ((List (List (S71))) × (List (List (S71)))) := (pianolalaw04_L.f).bind fun t637 => ((pianolalaw04_K.f).bind fun t643 => ((pianolalaw04_K.f).bind fun t646 => (some ((([t637] : List (List (S71)))), (([t643, t646] : List (List (S71))))))))
set_option maxHeartbeats 8000000 in
set_option maxRecDepth 100000 in
theorem pianolalaw04_Q.calls  (r1 : List (List (S71))) (r2 : List (List (S71))) (w : World) (h : pianolalaw04_Q.f  = some (r1, r2)) :
  Calls Try.prog 49 #[] w fun e w' => ∃ v0_ v1_ : Value, e = .returned (.agg #[v0_, v1_]) ∧ Kd.N (Kd.slice 71 k71) 22 w' w.heap.size (fun k_ => (w.heap.size ≤ k_) ∧ some k_ ≠ (v1_ : Value).ownBlock) v0_ r1 ∧ Kd.N (Kd.slice 71 k71) 22 w' w.heap.size (fun k_ => (w.heap.size ≤ k_) ∧ some k_ ≠ (v0_ : Value).ownBlock) v1_ r2 ∧ Below w.heap.size w w' := by
 have hu40 := Try.underlying40
 have HB := zA (Below.refl w.heap.size w)
 have H : ((pianolalaw04_L.f).bind fun t637 => ((pianolalaw04_K.f).bind fun t643 => ((pianolalaw04_K.f).bind fun t646 => (some ((([t637] : List (List (S71)))), (([t643, t646] : List (List (S71))))))))) = some (r1, r2) := h
 clear h
 replace H := Option.bind_eq_some_iff.mp H
 obtain ⟨t637, A10, H⟩ := H
 replace H : ((pianolalaw04_K.f).bind fun t643 => ((pianolalaw04_K.f).bind fun t646 => (some ((([t637] : List (List (S71)))), (([t643, t646] : List (List (S71)))))))) = some (r1, r2) := H
 have A1 := zA A10
 clear A10
 obtain ⟨y640, hy640⟩ : ∃ y_ : List (List (S71)), y_ = (([t637] : List (List (S71)))) := ⟨_, rfl⟩
 replace H : ((pianolalaw04_K.f).bind fun t643 => ((pianolalaw04_K.f).bind fun t646 => (some (y640, (([t643, t646] : List (List (S71)))))))) = some (r1, r2) := zqF hy640 H
 have Ny640 := zA hy640
 clear hy640
 replace H := Option.bind_eq_some_iff.mp H
 obtain ⟨t643, A20, H⟩ := H
 replace H : ((pianolalaw04_K.f).bind fun t646 => (some (y640, (([t643, t646] : List (List (S71))))))) = some (r1, r2) := H
 have A2 := zA A20
 clear A20
 replace H := Option.bind_eq_some_iff.mp H
 obtain ⟨t646, A30, H⟩ := H
 replace H : (some (y640, (([t643, t646] : List (List (S71)))))) = some (r1, r2) := H
 have A3 := zA A30
 clear A30
 obtain ⟨y649, hy649⟩ : ∃ y_ : List (List (S71)), y_ = (([t643, t646] : List (List (S71)))) := ⟨_, rfl⟩
 replace H : (some (y640, y649)) = some (r1, r2) := zqF hy649 H
 have Ny649 := zA hy649
 clear hy649
 simp only [Option.some.injEq, Prod.mk.injEq] at H
 obtain ⟨rfl, rfl⟩ := H
 go_enter Try.func49, Try.ntmps49
 go_wp2_with (first | ((with_reducible refine gate_dst (N := 0) rfl ?_); refine box_event ?hg (N := 0) ?hd (cs := #[.slice none 0 0, .slice none 0 0]) (t := 40) ?hr ?_; (case hd => rfl); (case hg => rfl); (case hr => first | (go_simp; done) | (go_simp; rfl)); intro gb636 hg w4 hbox hb; have n0_ := zA (below_step (zqA HB.out) hb); have n1_ := zA (hbox); have n2_ := zA ((by rw [hg]; exact (below_size (zqA HB.out)) : w.heap.size ≤ gb636)); have n3_ := zA ((by rw [hg]; exact (below_size (zqA HB.out)) : w.heap.size ≤ gb636)); clear HB; have HB := n0_; have BK636 := n1_; have GW636 := n2_; have GE636 := n3_; clear n0_ n1_ n2_ n3_; clear hb hbox hg) | ((with_reducible refine gate_callee (f := 50) rfl ?_); refine goesL_ (some 1) rfl rfl Try.func50 (by kernel_rfl) rfl #[] rfl zqE ?_; (with_reducible refine (pianolalaw04_L.calls  t637 _ A1.out).mono ?_); rintro e w5 ⟨v638, rfl, ho0, hb⟩; refine ⟨_, rfl, ?_⟩; have n0_ := zA (Kd.R_lower (Kd.R_newM (M := fun k_ => (w.heap.size ≤ k_)) ho0 (below_size (zqG HB.out GE636.out)) (fun k_ h_ => h_)) (below_size (zqG HB.out GE636.out))); have n1_ := zA (blk_below (g := gb636) (o := .cells #[.slice none 0 0, .slice none 0 0] 40 (0, 0)) (zqB BK636.out) hb); have n2_ := zA (below_step (zqG HB.out GE636.out) hb); clear BK636; clear HB; have HO639 := n0_; have BK636 := n1_; have HB := n2_; clear n0_ n1_ n2_; (try clear hb); (try clear hb2); (try clear hk); (try clear hi); (try clear ho0); obtain ⟨Ao6, co6, eo6⟩ := Kd.R_slice HO639.out; subst eo6) | ((with_reducible refine gate_dst (N := 2) rfl ?_); refine Kd.N_lit (Kd.slice 71 k71) _ 22 ?hg (N' := 2) ?hd (xs := ([t637] : List (List (S71)))) (inner := [.slice Ao6 t637.length co6]) (ok := (fun k_ => (w.heap.size ≤ k_) ∧ k_ ≠ gb636)) (okp := (fun k_ => (w.heap.size ≤ k_) ∧ k_ ≠ gb636)) ?hr ?hp (fun _ hk => hk) ((show ∀ k_, w5.heap.size ≤ k_ → (fun k_ => (w.heap.size ≤ k_) ∧ k_ ≠ gb636) k_ from fun k_ hk => ⟨(Nat.le_trans (below_size (zqG HB.out GE636.out)) hk), Kd.freshB (g := gb636) (o := .cells #[.slice none 0 0, .slice none 0 0] 40 (0, 0)) (zqB BK636.out) k_ hk⟩) _ (Nat.le_refl _)) (Below.refl _ _) (Nat.le_refl _) (by simp) ?_; (case hd => rfl); (case hg => rfl); (case hr => first | (go_simp; done) | (go_simp; rfl)); (case hp => exact (Reps.one (show Kd.FK (Kd.slice 71 k71) _ _ t637 [.slice Ao6 t637.length co6] from (Kd.FK_slice_mk (Kd.R_reads' (Kd.R_mono (ok' := (fun k_ => (w.heap.size ≤ k_) ∧ k_ ≠ gb636)) (Kd.R_types (HO639.out) BK636.out (by decide)) (fun k_ hk => ⟨hk.1.1, hk.2⟩))).2.1 (Kd.R_F (Kd.R_mono (ok' := (fun k_ => (w.heap.size ≤ k_) ∧ k_ ≠ gb636)) (Kd.R_types (HO639.out) BK636.out (by decide)) (fun k_ hk => ⟨hk.1.1, hk.2⟩))))) (Reps.none _ _))); intro v641 w7 ho8 hb hg_ hnew_; clear hg_ hnew_; (first | rw [← Ny640.out] at ho8 | (simp only [Int.reduceToNat] at ho8; rw [← Ny640.out] at ho8)); have n0_ := zA (Kd.N_lower ho8 (below_size (zqG HB.out GE636.out))); have n1_ := zA (blk_below (g := gb636) (o := .cells #[.slice none 0 0, .slice none 0 0] 40 (0, 0)) (zqB BK636.out) hb); have n2_ := zA (below_step (zqG HB.out GE636.out) hb); clear BK636; clear HB; clear HO639; have HO642 := n0_; have BK636 := n1_; have HB := n2_; clear n0_ n1_ n2_; clear hb ho8) | ((with_reducible refine gate_callee (f := 51) rfl ?_); refine goesL_ (some 3) rfl rfl Try.func51 (by kernel_rfl) rfl #[] rfl zqE ?_; (with_reducible refine (pianolalaw04_K.calls  t643 _ A2.out).mono ?_); rintro e w9 ⟨v644, rfl, ho0, hb⟩; refine ⟨_, rfl, ?_⟩; have n0_ := zA (Kd.N_elder' (zqN HO642.out) (Kd.R_base ho0) hb); have n1_ := zA (Kd.R_lower (Kd.R_newM (M := fun k_ => (w.heap.size ≤ k_)) ho0 (below_size (zqG HB.out GE636.out)) (fun k_ h_ => h_)) (below_size (zqG HB.out GE636.out))); have n2_ := zA (blk_below (g := gb636) (o := .cells #[.slice none 0 0, .slice none 0 0] 40 (0, 0)) (zqB BK636.out) hb); have n3_ := zA (below_step (zqG HB.out GE636.out) hb); clear HO642; clear BK636; clear HB; have HO642 := n0_; have HO645 := n1_; have BK636 := n2_; have HB := n3_; clear n0_ n1_ n2_ n3_; (try clear hb); (try clear hb2); (try clear hk); (try clear hi); (try clear ho0)) | ((with_reducible refine gate_callee (f := 51) rfl ?_); refine goesL_ (some 4) rfl rfl Try.func51 (by kernel_rfl) rfl #[] rfl zqE ?_; (with_reducible refine (pianolalaw04_K.calls  t646 _ A3.out).mono ?_); rintro e w10 ⟨v647, rfl, ho0, hb⟩; refine ⟨_, rfl, ?_⟩; have n0_ := zA (Kd.N_elder' (zqN HO642.out) (Kd.R_base ho0) hb); have n1_ := zA (Kd.R_elder' (zqC HO645.out) (Kd.R_base ho0) hb); have n2_ := zA (Kd.R_lower (Kd.R_new' (Kd.R_newM (M := fun k_ => (w.heap.size ≤ k_)) ho0 (below_size (zqG HB.out GE636.out)) (fun k_ h_ => h_)) (Kd.R_lt (zqC HO645.out))) (below_size (zqG HB.out GE636.out))); have n3_ := zA (blk_below (g := gb636) (o := .cells #[.slice none 0 0, .slice none 0 0] 40 (0, 0)) (zqB BK636.out) hb); have n4_ := zA (below_step (zqG HB.out GE636.out) hb); clear HO642; clear HO645; clear BK636; clear HB; have HO642 := n0_; have HO645 := n1_; have HO648 := n2_; have BK636 := n3_; have HB := n4_; clear n0_ n1_ n2_ n3_ n4_; (try clear hb); (try clear hb2); (try clear hk); (try clear hi); (try clear ho0); obtain ⟨Ao11, co11, eo11⟩ := Kd.R_slice HO645.out; subst eo11; obtain ⟨Ao12, co12, eo12⟩ := Kd.R_slice HO648.out; subst eo12) | ((with_reducible refine gate_dst (N := 5) rfl ?_); refine Kd.N_lit (Kd.slice 71 k71) _ 22 ?hg (N' := 5) ?hd (xs := ([t643, t646] : List (List (S71)))) (inner := [.slice Ao11 t643.length co11, .slice Ao12 t646.length co12]) (ok := (fun k_ => (w.heap.size ≤ k_) ∧ some k_ ≠ (v641 : Value).ownBlock ∧ k_ ≠ gb636)) (okp := (fun k_ => (w.heap.size ≤ k_) ∧ some k_ ≠ (v641 : Value).ownBlock ∧ k_ ≠ gb636)) ?hr ?hp (fun _ hk => hk) ((show ∀ k_, w10.heap.size ≤ k_ → (fun k_ => (w.heap.size ≤ k_) ∧ some k_ ≠ (v641 : Value).ownBlock ∧ k_ ≠ gb636) k_ from fun k_ hk => ⟨(Nat.le_trans (below_size (zqG HB.out GE636.out)) hk), Kd.fresh' (Kd.N_lt (zqN HO642.out)) k_ hk, Kd.freshB (g := gb636) (o := .cells #[.slice none 0 0, .slice none 0 0] 40 (0, 0)) (zqB BK636.out) k_ hk⟩) _ (Nat.le_refl _)) (Below.refl _ _) (Nat.le_refl _) (by simp) ?_; (case hd => rfl); (case hg => rfl); (case hr => first | (go_simp; done) | (go_simp; rfl)); (case hp => exact (Reps.one (show Kd.FK (Kd.slice 71 k71) _ _ t643 [.slice Ao11 t643.length co11] from (Kd.FK_slice_mk (Kd.R_reads' (Kd.R_mono (ok' := (fun k_ => (w.heap.size ≤ k_) ∧ some k_ ≠ (v641 : Value).ownBlock ∧ k_ ≠ gb636)) (Kd.R_types (Kd.R_apart' (HO645.out) (Kd.N_typed HO642.out) (by decide)) BK636.out (by decide)) (fun k_ hk => ⟨hk.1.1.1.1, ⟨hk.1.2, hk.2⟩⟩))).2.1 (Kd.R_F (Kd.R_mono (ok' := (fun k_ => (w.heap.size ≤ k_) ∧ some k_ ≠ (v641 : Value).ownBlock ∧ k_ ≠ gb636)) (Kd.R_types (Kd.R_apart' (HO645.out) (Kd.N_typed HO642.out) (by decide)) BK636.out (by decide)) (fun k_ hk => ⟨hk.1.1.1.1, ⟨hk.1.2, hk.2⟩⟩))))) (Reps.one (show Kd.FK (Kd.slice 71 k71) _ _ t646 [.slice Ao12 t646.length co12] from (Kd.FK_slice_mk (Kd.R_reads' (Kd.R_mono (ok' := (fun k_ => (w.heap.size ≤ k_) ∧ some k_ ≠ (v641 : Value).ownBlock ∧ k_ ≠ gb636)) (Kd.R_types (Kd.R_apart' (HO648.out) (Kd.N_typed HO642.out) (by decide)) BK636.out (by decide)) (fun k_ hk => ⟨hk.1.1.1.1, ⟨hk.1.2, hk.2⟩⟩))).2.1 (Kd.R_F (Kd.R_mono (ok' := (fun k_ => (w.heap.size ≤ k_) ∧ some k_ ≠ (v641 : Value).ownBlock ∧ k_ ≠ gb636)) (Kd.R_types (Kd.R_apart' (HO648.out) (Kd.N_typed HO642.out) (by decide)) BK636.out (by decide)) (fun k_ hk => ⟨hk.1.1.1.1, ⟨hk.1.2, hk.2⟩⟩))))) (Reps.none _ _)))); intro v650 w13 ho14 hb hg_ hnew_; clear hg_ hnew_; (first | rw [← Ny649.out] at ho14 | (simp only [Int.reduceToNat] at ho14; rw [← Ny649.out] at ho14)); have n0_ := zA (Kd.N_elder' (zqN HO642.out) (Kd.N_base ho14) hb); have n1_ := zA (Kd.N_lower ho14 (below_size (zqG HB.out GE636.out))); have n2_ := zA (blk_below (g := gb636) (o := .cells #[.slice none 0 0, .slice none 0 0] 40 (0, 0)) (zqB BK636.out) hb); have n3_ := zA (below_step (zqG HB.out GE636.out) hb); clear HO642; clear BK636; clear HB; clear HO645; clear HO648; have HO642 := n0_; have HO651 := n1_; have BK636 := n2_; have HB := n3_; clear n0_ n1_ n2_ n3_; clear hb ho14; obtain ⟨Ao15, co15, eo15⟩ := Kd.N_slice HO651.out; subst eo15; obtain ⟨Ao16, co16, eo16⟩ := Kd.N_slice HO642.out; subst eo16; have hcz17_0 : w13.cell? ⟨gb636, 0, none⟩ = some (.slice none 0 0) := (blk_cell BK636.out 0).trans rfl; have hcz17_1 : w13.cell? ⟨gb636, 1, none⟩ = some (.slice none 0 0) := (blk_cell BK636.out 1).trans rfl; have hfz17_0 := blk_frozen BK636.out 0; have hfz17_1 := blk_frozen BK636.out 1))
 refine bodyPost_ret (results_cell_row rfl _ _ gb636 40 #[.slice Ao16 y640.length co16, .slice Ao15 y649.length co15] (0, 0) _ rfl (by (with_reducible repeat (first | refine blk_drewN ?_ _ | refine blk_drew ?_ | refine blk_alloc ?_ _)); refine blk_put (cs := #[.slice Ao16 y640.length co16, .slice none 0 0]) ?_ 1 _ rfl; (with_reducible repeat (first | refine blk_drewN ?_ _ | refine blk_drew ?_ | refine blk_alloc ?_ _)); refine blk_put (cs := #[.slice none 0 0, .slice none 0 0]) ?_ 0 _ rfl; (with_reducible repeat (first | refine blk_drewN ?_ _ | refine blk_drew ?_ | refine blk_alloc ?_ _)); exact BK636.out) Try.underlying40 rfl (by kernel_rfl)) rfl ?_
 exact ⟨_, _, zqR, by (with_reducible repeat (first | apply Kd.N_alloc | apply Kd.N_drewN | apply Kd.N_drew)); exact Kd.N_mono (Kd.N_far (p := ⟨gb636, 1, none⟩) (Kd.N_far (p := ⟨gb636, 0, none⟩) (Kd.N_mono HO642.out (fun k_ hk => (⟨hk, hk.1.1.1.2⟩ : _ ∧ k_ ≠ gb636))) (fun _ hk => hk.2) (.slice Ao16 y640.length co16)) (fun _ hk => hk.2) (.slice Ao15 y649.length co15)) (fun _ hk => ⟨hk.1.1.1.1.1, hk.1.2⟩), by (with_reducible repeat (first | apply Kd.N_alloc | apply Kd.N_drewN | apply Kd.N_drew)); exact Kd.N_mono (Kd.N_far (p := ⟨gb636, 1, none⟩) (Kd.N_far (p := ⟨gb636, 0, none⟩) (Kd.N_mono HO651.out (fun k_ hk => (⟨hk, hk.2.2⟩ : _ ∧ k_ ≠ gb636))) (fun _ hk => hk.2) (.slice Ao16 y640.length co16)) (fun _ hk => hk.2) (.slice Ao15 y649.length co15)) (fun _ hk => ⟨hk.1.1, hk.1.2.1⟩), zqG HB.out GE636.out⟩
def pump_ranged.f (l0 : List (S71)) (a1 : Int) : Option (Int) := (pump_CheckBounds.f l0).bind fun t723 => (if t723 = 0 then ((pump_between.f 0 a1 200).bind fun t724 => (if t724 = true then (some t723) else (some 3))) else (some t723))
set_option maxHeartbeats 8000000 in
set_option maxRecDepth 100000 in
theorem pump_ranged.calls (A0 : Option Addr) (c0 : Nat) (l0 : List (S71)) (a1 : Int) (r : Int) (w : World) (hr0 : Kd.C k71 w A0 l0.length l0) (hc0 : l0.length ≤ c0) (h : pump_ranged.f l0 a1 = some r) :
  Calls Try.prog 82 #[.slice A0 l0.length c0, .int .i64 a1] w fun e w' => e = .returned (.int .i64 r) ∧ Below w.heap.size w w' := by
 have HR0 := zA hr0
 have HC0 := zA hc0
 clear hr0 hc0
 have HB := zA (Below.refl w.heap.size w)
 have H : ((pump_CheckBounds.f l0).bind fun t723 => (if t723 = 0 then ((pump_between.f 0 a1 200).bind fun t724 => (if t724 = true then (some t723) else (some 3))) else (some t723))) = some r := h
 clear h
 replace H := Option.bind_eq_some_iff.mp H
 obtain ⟨t723, A30, H⟩ := H
 replace H : (if t723 = 0 then ((pump_between.f 0 a1 200).bind fun t724 => (if t724 = true then (some t723) else (some 3))) else (some t723)) = some r := H
 have A3 := zA A30
 clear A30
 by_cases c4 : t723 = 0
 ·
  rw [if_pos c4] at H
  have c4b0 : (t723 == 0) = true := beq_iff_eq.mpr c4
  have c4b1 : (t723 != 0) = false := bne_eq_false_iff_eq.mpr c4
  clear c4
  replace H := Option.bind_eq_some_iff.mp H
  obtain ⟨t724, A50, H⟩ := H
  replace H : (if t724 = true then (some t723) else (some 3)) = some r := H
  have A5 := zA A50
  clear A50
  by_cases c6 : t724 = true
  ·
   subst c6
   have H1 : (some t723) = some r := by rw [if_pos rfl] at H; exact H
   clear H; have H := H1; clear H1
   obtain rfl := Option.some.inj H
   go_enter Try.func82, Try.ntmps82
   go_wp2_with (first | ((with_reducible refine gate_callee (f := 23) rfl ?_); refine goesL_ (some 7) rfl rfl Try.func23 (by kernel_rfl) rfl #[.slice A0 l0.length c0] rfl zqE ?_; (with_reducible refine (pump_CheckBounds.calls _ _ l0 t723 _ ?side1 ?side2 A3.out).mono ?_); (case side1 => exact zqK HR0.out); (case side2 => exact HC0.out); rintro e w7 ⟨rfl, hb⟩; refine ⟨_, rfl, ?_⟩; have n0_ := zA (below_step (zqA HB.out) hb); clear HB; have HB := n0_; clear n0_; (try clear hb); (try clear hb2); (try clear hk); (try clear hi)) | (go_at_call 85; (with_reducible refine (pump_between.calls 0 a1 200 true _ A5.out).mono ?_); rintro e w' ⟨rfl, ⟨nd, rfl⟩⟩))
   go_ret
   exact ⟨zqR, zqA HB.out⟩
  ·
   replace c6 := Bool.eq_false_iff.mpr c6
   subst c6
   have H1 : (some 3) = some r := by rw [if_neg (show ¬ (false = true) by decide)] at H; exact H
   clear H; have H := H1; clear H1
   obtain rfl := Option.some.inj H
   go_enter Try.func82, Try.ntmps82
   go_wp2_with (first | ((with_reducible refine gate_callee (f := 23) rfl ?_); refine goesL_ (some 7) rfl rfl Try.func23 (by kernel_rfl) rfl #[.slice A0 l0.length c0] rfl zqE ?_; (with_reducible refine (pump_CheckBounds.calls _ _ l0 t723 _ ?side1 ?side2 A3.out).mono ?_); (case side1 => exact zqK HR0.out); (case side2 => exact HC0.out); rintro e w8 ⟨rfl, hb⟩; refine ⟨_, rfl, ?_⟩; have n0_ := zA (below_step (zqA HB.out) hb); clear HB; have HB := n0_; clear n0_; (try clear hb); (try clear hb2); (try clear hk); (try clear hi)) | (go_at_call 85; (with_reducible refine (pump_between.calls 0 a1 200 false _ A5.out).mono ?_); rintro e w' ⟨rfl, ⟨nd, rfl⟩⟩))
   go_ret
   exact ⟨zqR, zqA HB.out⟩
 ·
  rw [if_neg c4] at H
  have c4b0 : (t723 == 0) = false := beq_eq_false_iff_ne.mpr c4
  have c4b1 : (t723 != 0) = true := bne_iff_ne.mpr c4
  obtain rfl := Option.some.inj H
  go_enter Try.func82, Try.ntmps82
  go_wp2_with (first | ((with_reducible refine gate_callee (f := 23) rfl ?_); refine goesL_ (some 7) rfl rfl Try.func23 (by kernel_rfl) rfl #[.slice A0 l0.length c0] rfl zqE ?_; (with_reducible refine (pump_CheckBounds.calls _ _ l0 t723 _ ?side1 ?side2 A3.out).mono ?_); (case side1 => exact zqK HR0.out); (case side2 => exact HC0.out); rintro e w9 ⟨rfl, hb⟩; refine ⟨_, rfl, ?_⟩; have n0_ := zA (below_step (zqA HB.out) hb); clear HB; have HB := n0_; clear n0_; (try clear hb); (try clear hb2); (try clear hk); (try clear hi)))
  go_ret
  exact ⟨zqR, zqA HB.out⟩
end Go.Proofs.Ythoeindopljmkaa.P
end
