/- Words and contracts for a claim. -/
import Derived.Test.YtpfkfbbekfkcgaaBase10
import Derived.Deep.RegionLawGrows
import Derived.Laws.EntriesVeiled
section
namespace Go.Proofs.Ytpfkfbbekfkcgaa.P
open Go.RowKit Go.Shelf Go.Proofs.YtpfkfbbekfkcgaaW.PrintWords Go.Proofs.YtpfkfbbekfkcgaaW.PrintLast Go.Proofs.YtpfkfbbekfkcgaaW.PrintMore
set_option linter.unusedVariables false
set_option linter.unusedSimpArgs false
attribute [local go_sem] Oper.semAt_some
def Env (Bs By Bn Bc l : Nat) (size N : Int) (W : World) : Prop :=
  W.cell? ⟨Bs, 0, none⟩ = some (.int .i64 size) ∧ W.cell? ⟨By, 0, none⟩ = some (.func (.yield l) #[] #[]) ∧ W.cell? ⟨Bn, 0, none⟩ = some (.int .i64 N) ∧
  W.cell? ⟨Bc, 0, none⟩ = some (.func (.func 88) #[] #[.pointer (some ⟨Bs, 0, none⟩), .pointer (some ⟨By, 0, none⟩), .pointer (some ⟨Bn, 0, none⟩), .pointer (some ⟨Bc, 0, none⟩)])
theorem Env.keep {Bs By Bn Bc l : Nat} {size N : Int} {A B : World} (h : Env Bs By Bn Bc l size N A) (k : KeepC A B) : Env Bs By Bn Bc l size N B :=
  ⟨k.cell h.1, k.cell h.2.1, k.cell h.2.2.1, k.cell h.2.2.2⟩
def ChooseEnd (n₁ : Nat) (J Jx : List (List Int) → World → Prop) (pre cs : List (List Int)) (W : World) (e : Ending) (W' : World) : Prop :=
  ∃ t : Bool, e = .returned (.bool t) ∧ (t = true → J (pre ++ cs) W' ∧ KeepC W W') ∧ (t = false → ∃ q, q <+: cs ∧ Jx (pre ++ q) W' ∧ KeepHi n₁ W W')
section
variable (Bs By Bn Bc l n₁ : Nat) (size N : Int) (J Jx : List (List Int) → World → Prop) (Pr : List Int → Prop)
set_option maxHeartbeats 2000000 in
set_option maxRecDepth 100000 in
theorem choose_zero
    (hY : ∀ m pre x v W1, J pre W1 → VI v x W1 → Pr x → YieldAt Fence.wide m Try.prog l #[v] W1 fun e W' =>
      (e = .returned (.bool true) ∧ J (pre ++ [x]) W' ∧ KeepC W1 W') ∨ (e = .returned (.bool false) ∧ Jx (pre ++ [x]) W' ∧ KeepHi n₁ W1 W'))
    (f : Int) (b : List Int) (v : Value) (pre : List (List Int)) (W : World) (hp : Pr b) (hb : (b.length : Int) = size) (hv : VI v b W) (hE : Env Bs By Bn Bc l size N W) (hJ : J pre W) :
    Calls Try.prog 88 #[v, .int .i64 f, .pointer (some ⟨Bs, 0, none⟩), .pointer (some ⟨By, 0, none⟩), .pointer (some ⟨Bn, 0, none⟩), .pointer (some ⟨Bc, 0, none⟩)] W (ChooseEnd n₁ J Jx pre [b] W) := by
  obtain ⟨A, c, rfl, lc, hr⟩ := hv
  obtain ⟨e1, e2, e3, e4⟩ := hE
  have hY2 := hY 9 pre b _ W hJ ⟨A, c, rfl, lc, hr⟩ hp
  obtain ⟨fn, tmps, assign, body, hy, hR⟩ := hY2
  have HR := Aside0.mk hR
  clear hR hY hr
  rw [← hb] at e1
  have sb : ((b.length : Int) == (b.length : Int)) = true := by simp
  refine callsIn_wide.1 (?_ : CallsIn Fence.wide 10 _ _ _ _ _)
  refine callsIn_of_wp Try.func88 rfl trivial ?_ rfl
  simp only [Try.ntmps88, List.size_toArray, List.length_cons, List.length_nil, Nat.reduceAdd, Nat.reduceSub, Array.replicate_succ, Array.replicate_zero, List.push_toArray, List.append_toArray, List.nil_append, List.cons_append]
  gi_wp2_with ((try refine ⟨fun h => (by cases h), ?_⟩); refine (HR.out).mono ?_; clear HR; rintro e W' (⟨rfl, h1, h2⟩ | ⟨rfl, h1, h2⟩))
  · go_ret
    exact ⟨true, rfl, fun _ => ⟨h1, h2⟩, fun h => nomatch h⟩
  · go_ret
    exact ⟨false, rfl, (fun h => nomatch h), fun _ => ⟨[b], List.prefix_refl _, h1, h2⟩⟩
theorem grown_keep {A B : World} (h : A.grownBy B none) : KeepC A B := ⟨h.size, fun k o hk _ => (h.block k (Array.getElem?_eq_some_iff.1 hk).1 (by simp)).trans hk⟩
theorem grown_drew (W : World) : W.grownBy W.drew none := ⟨rfl, rfl, rfl, Nat.le_refl _, fun _ _ _ => rfl⟩
theorem vi_own {w1 : World} {base : Nat} {v : Value} {b : List Int} {i : Int} (h : w1.ownsRow base 3 1 v (b.length + 1) (b.map (Value.int .i64) ++ [.int .i64 i])) : VI v (b ++ [i]) w1 := by
  have hR : Kd.R (Kd.int .i64) 3 w1 base (fun _ => True) v (b ++ [i]) := Kd.R_of_own (enc := Value.int .i64) (h1 := fun _ => rfl) (by simpa [encs] using h) (fun _ _ => trivial)
  exact Kd.R_reads hR
theorem keep_either {n₁ : Nat} {A B : World} {J : Prop} {cs : List (List Int)} {X : List (List Int) → Prop} {a : Addr} {v : Value} {t : Bool} (hn : n₁ ≤ a.block) (hc : A.cell? a = some v) (h1 : t = true → J ∧ KeepC A B) (h2 : t = false → ∃ q : List (List Int), q <+: cs ∧ X q ∧ KeepHi n₁ A B) : B.cell? a = some v := by
  cases t with
  | true => exact (h1 rfl).2.cell hc
  | false => obtain ⟨_, _, _, k⟩ := h2 rfl; exact k.cell hn hc
theorem vi_parts {A : Option Addr} {b : List Int} {W wr : World} (h : Kd.C (Kd.int .i64) W A b.length b) (k : KeepC W wr) :
    (A = none → b.length = 0 ∧ b.length = 0) ∧ ∀ ad, A = some ad → ∀ j u, (b.map (Value.int .i64))[j]? = some u → ∀ w2, KeepC wr w2 → w2.cell? (ad.add j) = some u := by
  refine ⟨fun e => ?_, fun ad e j u hu w2 k2 => ?_⟩
  · rcases Nat.eq_zero_or_pos b.length with h0 | h0
    · exact ⟨h0, h0⟩
    · obtain ⟨ad, e2, _⟩ := h.2.2 h0
      rw [e] at e2; cases e2
  · have hj : j < b.length := by
      have := (List.getElem?_eq_some_iff.1 hu).1
      simpa using this
    obtain ⟨ad2, e2, hc⟩ := h.2.2 (by omega)
    rw [e] at e2; injection e2 with e2; subst e2
    obtain ⟨c, _, hr, hcell⟩ := hc j b[j] (List.getElem?_eq_getElem hj)
    obtain rfl : c = [.int .i64 b[j]] := hr
    have h2 := hcell 0 _ rfl
    have e3 : u = .int .i64 b[j] := by
      rw [List.getElem?_map, List.getElem?_eq_getElem hj] at hu
      exact (Option.some.inj hu).symm
    rw [e3]
    have : (Kd.int .i64).sz = 1 := rfl
    rw [this, Nat.mul_one, Nat.add_zero] at h2
    exact k2.cell (k.cell h2)
set_option maxHeartbeats 4000000 in
set_option maxRecDepth 100000 in
theorem choose_c (hn₁ : n₁ ≤ Bc) (hN : N ≤ 1000000) (hs : size ≤ 1000000) (hJg : ∀ pre A B, J pre A → A.grownBy B none → J pre B)
    (hY : ∀ m pre x v W1, J pre W1 → VI v x W1 → Pr x → YieldAt Fence.wide m Try.prog l #[v] W1 fun e W' =>
      (e = .returned (.bool true) ∧ J (pre ++ [x]) W' ∧ KeepC W1 W') ∨ (e = .returned (.bool false) ∧ Jx (pre ++ [x]) W' ∧ KeepHi n₁ W1 W'))
    (d : Nat) : ∀ (r : Nat) (f : Int) (b : List Int) (v : Value) (pre : List (List Int)) (W : World), (b.length : Int) + d = size → 0 ≤ f → f + r = N → VI v b W → Env Bs By Bn Bc l size N W → J pre W → (∀ x ∈ combos d r f b, Pr x) →
    Calls Try.prog 88 #[v, .int .i64 f, .pointer (some ⟨Bs, 0, none⟩), .pointer (some ⟨By, 0, none⟩), .pointer (some ⟨Bn, 0, none⟩), .pointer (some ⟨Bc, 0, none⟩)] W (ChooseEnd n₁ J Jx pre (combos d r f b) W) := by
  induction d with
  | zero =>
    intro r f b v pre W hb _ _ hv hE hJ hP
    have e : combos 0 r f b = [b] := by cases r <;> rfl
    rw [e] at hP
    rw [e]
    exact choose_zero Bs By Bn Bc l n₁ size N J Jx Pr hY f b v pre W (hP b (List.mem_singleton_self b)) (by omega) hv hE hJ
  | succ d ih =>
    intro r f b v pre W hb f0 hr hv hE hJ hP
    obtain ⟨A, c, rfl, lc, hR⟩ := hv
    obtain ⟨e1, e2, e3, e4⟩ := hE
    have sb : ((b.length : Int) == size) = false := by simp; omega
    have IH := Aside0.mk ih
    have HV := Aside0.mk (And.intro lc hR)
    have HE := Aside0.mk (show Env Bs By Bn Bc l size N W from ⟨e1, e2, e3, e4⟩)
    have HJ := Aside0.mk hJ
    have HG := Aside0.mk hJg
    have HF := Aside0.mk (And.intro f0 hr)
    have HB := Aside0.mk hb
    obtain ⟨cs, hcs⟩ : ∃ cs, combos (d + 1) r f b = cs := ⟨_, rfl⟩
    rw [hcs]
    rw [hcs] at hP
    have HPr := Aside0.mk hP
    have HC := Aside0.mk hcs
    clear ih lc hR hJ hY hJg f0 hr hb hcs hP
    go_enter Try.func88, Try.ntmps88
    go_wp2
    go_loopg [9] r (fun kq v9 w' => ∃ i : Int, v9 = .int .i64 i ∧ Aside0 (0 ≤ i ∧ i + kq = N) ∧ Aside0 (∃ done, cs = done ++ combos (d + 1) kq i b ∧ J (pre ++ done) w') ∧ Aside0 (KeepC W w'))
    case atStart => exact ⟨f, rfl, HF, ⟨[], by simpa using HC.out.symm, by simpa using HJ.out⟩, ⟨KeepC.refl _⟩⟩
    case round =>
      obtain ⟨i, rfl, HI, HD, HK⟩ := hrel
      obtain ⟨g1, g2, g3, g4⟩ := HE.out.keep HK.out
      clear e1 e2 e3 e4
      by_cases c1 : i < N
      · have i0 := HI.out.1
        have c2 : i + 1 ≤ 1000000 := by omega
        have hw : IntKind.i64.wrap (i + 1) = i + 1 := (i64_w _).trans (by unfold wrap64; omega)
        go_wp2_with fail
        obtain ⟨i3, hi3, hz3, hs3, hb3⟩ := info_parts info3
        have lb : b.length ≤ 1000000 := by have := HB.out; omega
        have HP := Aside0.mk (vi_parts (wr := wr) (HV.out.2) HK.out)
        have lc := World.block_lt_of_cell? _ _ g4
        have G4 := Aside0.mk g4
        obtain ⟨done, hcs, hJ⟩ := HD.out
        obtain ⟨k1n, hk1⟩ : ∃ m, gk = m + 1 := ⟨gk - 1, by have := HI.out.2; omega⟩
        subst hk1
        have HJ2 := Aside0.mk hJ
        have HCB := Aside0.mk (show combos (d + 1) (k1n + 1) i b = combos d k1n (i + 1) (b ++ [i]) ++ combos (d + 1) k1n (i + 1) b from rfl)
        clear hJ
        go_region_held3 (fun w' => w'.cell? ⟨Bc, 0, none⟩ = some (.func (.func 88) #[] #[.pointer (some ⟨Bs, 0, none⟩), .pointer (some ⟨By, 0, none⟩), .pointer (some ⟨Bn, 0, none⟩), .pointer (some ⟨Bc, 0, none⟩)])) (go_keep)
          (first
            | (go_at_call 89; refine (Clip89 A b.length c _ HV.out.1).mono ?_; rintro e w' ⟨rfl, rfl⟩)
            | (refine step_append_grows (by rfl) (.tmp 25) (.tmp 27) 22 (by rfl) 3 i3 (.int .i64 0) 1 8 Try.underlying22 hi3 hz3 hs3 hb3 rfl (by decide) A b.length b.length (b.map (Value.int .i64)) (by rfl) HP.out.1 (by simp) (fun ad e j u hu => HP.out.2 ad e j u hu _ (KeepC.of_below (by repeat (first | exact Below.refl _ _ | apply below_alloc | apply below_drew1 | apply pw_below_drewN)))) ⟨wr.heap.size, 0, none⟩ 1 1 [.int .i64 i] (by rfl) (by rfl) (World.news_of_block (cs := #[.int .i64 i]) (t := 3) (fr := (0, 0)) (heap_alloc_new _ _)) (by simp [Value.oneCell']) (by omega) (by unfold maxLen; omega) (by omega) ?_; intro v' w1 hown hgrow; have kk : KeepC wr w1 := KeepC.trans (KeepC.of_below (by repeat (first | exact Below.refl _ _ | apply below_alloc | apply below_drew1 | apply pw_below_drewN))) (grown_keep hgrow); have k1 := kk.cell G4.out; have HO := Aside0.mk hown; have HGR := Aside0.mk hgrow; have KK := Aside0.mk kk; clear hown hgrow kk)
            | (go_at_call 88; refine (IH.out k1n (i + 1) (b ++ [i]) v' (pre ++ done) _ (by have := HB.out; simp; omega) (by omega) (by have := HI.out.2; omega) (vi_own HO.out) (HE.out.keep (HK.out.trans KK.out)) (HG.out _ _ _ (HG.out _ _ _ (HG.out _ _ _ HJ2.out (World.grownBy_alloc _ _ none)) (grown_drew _)) HGR.out) (fun x hx => HPr.out x (by rw [hcs, HCB.out]; exact List.mem_append_right _ (List.mem_append_left _ hx)))).mono ?_; rintro e w2 ⟨t, rfl, ht1, ht2⟩; have k2 := keep_either (a := ⟨Bc, 0, none⟩) hn₁ k1 ht1 ht2; have HT := Aside0.mk (And.intro ht1 ht2); clear ht1 ht2))
        all_goals
          clear hw
          cases t with
          | true =>
            obtain ⟨hJ3, hK3⟩ := HT.out.1 rfl
            have HJ3 := Aside0.mk hJ3
            have HK3 := Aside0.mk ((HK.out.trans KK.out).trans hK3)
            clear hJ3 hK3 HT k1 k2
            go_wp2
            go_roundg k1n
            case measure => omega
            case rel => exact ⟨i + 1, by first | rfl | simp, ⟨by omega, by have := HI.out.2; omega⟩, ⟨done ++ combos d k1n (i + 1) (b ++ [i]), by rw [hcs, HCB.out, List.append_assoc], by rw [← List.append_assoc]; exact HJ3.out⟩, HK3⟩
          | false =>
            obtain ⟨q, hq, hJ3, hK3⟩ := HT.out.2 rfl
            have HF := Aside0.mk (And.intro hq (And.intro hJ3 ((((HK.out.trans KK.out).hi n₁)).trans hK3)))
            clear hq hJ3 hK3 HT k1 k2
            go_wp2
            go_ret
            obtain ⟨⟨q2, hq⟩, hJ3, hK3⟩ := HF.out
            exact ⟨false, rfl, (fun h => nomatch h), fun _ => ⟨done ++ q, ⟨q2 ++ combos (d + 1) k1n (i + 1) b, by rw [hcs, HCB.out, ← hq]; simp [List.append_assoc]⟩, by rw [← List.append_assoc]; exact hJ3, hK3⟩⟩
      · obtain ⟨done, hcs, hJ⟩ := HD.out
        have hz : gk = 0 := by have := HI.out.2; omega
        subst hz
        have hcs2 : cs = done := by rw [hcs]; simp [combos]
        have HX := Aside0.mk hcs2
        go_wp2
        go_ret
        exact ⟨true, rfl, fun _ => ⟨by first | (rw [HX.out]; exact hJ) | (simpa [combos] using hJ), HK.out⟩, fun h => nomatch h⟩
end
def StopsEnd (J Jx : List (List Int) → World → Prop) (cs : List (List Int)) (e : Ending) (W' : World) : Prop :=
  (∃ v, e = .returned v) ∧ ((∃ xs, xs = cs ∧ J xs W') ∨ (∃ pre, pre <+: cs ∧ Jx pre W'))
def allCombos (n size : Nat) : List (List Int) := combos size n 0 []
set_option maxHeartbeats 2000000 in
set_option maxRecDepth 100000 in
theorem choices_c (n size : Int) (w : World) :
    Calls Try.prog 67 #[.int .i64 n, .int .i64 size] w fun e w' => e = .returned (.func (.func 87) #[] #[.pointer (some ⟨w.heap.size + 1, 0, none⟩), .pointer (some ⟨w.heap.size, 0, none⟩)]) ∧
      w' = (w.alloc (.cells #[.int .i64 n] 3)).alloc (.cells #[.int .i64 size] 3) := by
  go_enter Try.func67, Try.ntmps67
  go_wp2
  go_ret
  exact ⟨rfl, rfl⟩
set_option maxHeartbeats 2000000 in
set_option maxRecDepth 100000 in
theorem choices_stops (n size : Nat) (Bs Bn n₁ : Nat) (w : World) (hn : n ≤ 1000000) (hs : size ≤ 1000000) (h1 : n₁ ≤ w.heap.size)
    (cs : w.cell? ⟨Bs, 0, none⟩ = some (.int .i64 size)) (cn : w.cell? ⟨Bn, 0, none⟩ = some (.int .i64 n)) :
    SeqV Try.prog 87 #[.pointer (some ⟨Bs, 0, none⟩), .pointer (some ⟨Bn, 0, none⟩)] (fun v x W' => VI v x W' ∧ x ∈ allCombos n size) n₁ (fun xs => xs = allCombos n size) (fun pre => pre <+: allCombos n size) w := by
  intro l J Jx W hW hJ hJx hY h0
  have bs := World.block_lt_of_cell? _ _ cs
  have bn := World.block_lt_of_cell? _ _ cn
  have cs2 := (hW.cell (p := ⟨Bs, 0, none⟩) bs).trans cs
  have cn2 := (hW.cell (p := ⟨Bn, 0, none⟩) bn).trans cn
  have hg : ∀ pre A B, J pre A → A.grownBy B none → J pre B := fun pre A B h g => hJ pre A B none h g (fun r e => nomatch e)
  obtain ⟨W2, hW2⟩ : ∃ W2, ((W.alloc (.cells #[.func (.yield l) #[] #[]] 129)).alloc (.cells #[.func (.func 88) #[] #[.pointer (some ⟨Bs, 0, none⟩), .pointer (some ⟨W.heap.size, 0, none⟩), .pointer (some ⟨Bn, 0, none⟩), .pointer (some ⟨W.heap.size + 1, 0, none⟩)]] 106)) = W2 := ⟨_, rfl⟩
  have kW : Below W.heap.size W W2 := by rw [← hW2]; exact below_alloc (below_alloc (Below.refl _ _) _) _
  have hE : Env Bs W.heap.size Bn (W.heap.size + 1) l size n W2 := by
    refine ⟨(kW.cell (p := ⟨Bs, 0, none⟩) (Nat.lt_of_lt_of_le bs hW.size)).trans cs2, ?_, (kW.cell (p := ⟨Bn, 0, none⟩) (Nat.lt_of_lt_of_le bn hW.size)).trans cn2, ?_⟩
    · rw [← hW2]; simp
    · rw [← hW2]; simp
  have hJ2 : J [] W2 := by rw [← hW2]; exact hg _ _ _ (hg _ _ _ h0 (World.grownBy_alloc _ _ none)) (World.grownBy_alloc _ _ none)
  have H := choose_c Bs W.heap.size Bn (W.heap.size + 1) l n₁ size n J Jx (fun x => x ∈ allCombos n size) (Nat.le_trans h1 (Nat.le_trans hW.size (Nat.le_succ _))) (by omega) (by omega) hg
    (fun m pre x v W1 hj hv hp => hY m pre x v W1 hj ⟨hv, hp⟩) size n 0 [] (.slice none 0 0) [] W2 (by simp) (by omega) (by omega) ⟨none, 0, rfl, Nat.le_refl _, Kd.C_nil _ _⟩ hE hJ2 (fun x hx => hx)
  refine callsIn_wide.2 ?_
  show Calls Try.prog 87 #[.func (.yield l) #[] #[], .pointer (some ⟨Bs, 0, none⟩), .pointer (some ⟨Bn, 0, none⟩)] W (StopsEnd J Jx (allCombos n size))
  have HH := Aside0.mk H
  have HW := Aside0.mk hW2
  clear H hW2 hJ2 hE kW cs2 cn2 bs bn hg hY hJ hJx h0 cs cn
  go_enter Try.func87, Try.ntmps87
  go_wp2_with (go_at_call 88; rw [HW.out]; refine HH.out.mono ?_; rintro e W3 ⟨t, rfl, ht1, ht2⟩; have HT := Aside0.mk (And.intro ht1 ht2); clear ht1 ht2)
  go_end0
  refine ⟨⟨_, rfl⟩, ?_⟩
  cases t with
  | true => exact .inl ⟨_, rfl, (HT.out.1 rfl).1⟩
  | false =>
    obtain ⟨q, hq, hj, _⟩ := HT.out.2 rfl
    exact .inr ⟨q, hq, hj⟩
end Go.Proofs.Ytpfkfbbekfkcgaa.P
end
