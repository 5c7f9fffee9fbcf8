/- Words and contracts for a claim. -/
import Derived.Test.YtpfkfbbekfkcgaaBase5
import Derived.Shelf.Abstract
section
namespace Go.Proofs.Ytpfkfbbekfkcgaa.P
open Go.RowKit Go.Shelf Go.Proofs.YtpfkfbbekfkcgaaW.PrintWords Go.Proofs.YtpfkfbbekfkcgaaW.PrintLast Go.Proofs.YtpfkfbbekfkcgaaW.PrintMore
attribute [local go_sem] max2_int min2_int max_two min_two max_three min_three max_four min_four
set_option linter.unusedVariables false
set_option linter.unusedSimpArgs false
def zipF (F : Int → Int → Int) (p q : List Int) : List Int := (List.range (max p.length q.length)).map fun i => F (p.getD i 0) (q.getD i 0)
def all251 (p : List Int) : Prop := ∀ x ∈ p, F251 x
def zipTo (F : Int → Int → Int) (p q : List Int) (n : Nat) : List Int := (List.range n).map fun i => F (p.getD i 0) (q.getD i 0)
theorem zipTo_succ (F : Int → Int → Int) (p q : List Int) (n : Nat) : zipTo F p q (n + 1) = zipTo F p q n ++ [F (p.getD n 0) (q.getD n 0)] := by
  unfold zipTo
  rw [List.range_succ, List.map_append]; rfl
theorem zipTo_len (F : Int → Int → Int) (p q : List Int) (n : Nat) : (zipTo F p q n).length = n := by simp [zipTo]
theorem rd_in {p : List Int} (h : all251 p) {i : Int} (h0 : 0 ≤ i) (h1 : i < p.length) : F251 (rd p i) := by
  unfold rd
  rw [List.getD_eq_getElem?_getD, List.getElem?_eq_getElem (by omega)]
  exact h _ (List.getElem_mem _)
theorem rd_past {p : List Int} {i : Int} (h1 : ¬ i < p.length) : p.getD i.toNat 0 = 0 := by
  rw [List.getD_eq_getElem?_getD, List.getElem?_eq_none (by omega)]; rfl
set_option maxHeartbeats 4000000 in
set_option maxRecDepth 100000 in
theorem combine_c (g : Nat) (F : Int → Int → Int) (eg : ∀ args w, (callFunc g args).run Try.prog w = .ok (.enter g args) w)
    (hg : ∀ a b W, F251 a → F251 b → Calls Try.prog g #[.int .i64 a, .int .i64 b] W fun e w' => e = .returned (.int .i64 (F a b)) ∧ w' = W)
    (A0 : Option Addr) (c0 : Nat) (p : List Int) (A1 : Option Addr) (c1 : Nat) (q : List Int) (w : World)
    (hp : all251 p) (hq : all251 q) (pl : p.length ≤ 1000000) (ql : q.length ≤ 1000000)
    (hr0 : Kd.C (Kd.int .i64) w A0 p.length p) (hc0 : p.length ≤ c0) (hr1 : Kd.C (Kd.int .i64) w A1 q.length q) (hc1 : q.length ≤ c1) :
    Calls Try.prog 82 #[.slice A0 p.length c0, .slice A1 q.length c1, .func (.func g) #[] #[]] w
      fun e w' => ∃ v0_ : Value, e = .returned v0_ ∧ Kd.R (Kd.int .i64) 86 w' w.heap.size (fun _ => True) v0_ (zipF F p q) ∧ Below w.heap.size w w' := by
  have HR0 := Aside0.mk hr0
  have HR1 := Aside0.mk hr1
  have HG := Aside0.mk hg
  have HP := Aside0.mk hp
  have HQ := Aside0.mk hq
  have HL := Aside0.mk (And.intro pl ql)
  clear hr0 hr1 hg hp hq pl ql hc0 hc1
  obtain ⟨M, hM, hM2⟩ : ∃ M : Int, (if p.length < q.length then (q.length : Int) else (p.length : Int)) = M ∧ M = (max p.length q.length : Nat) := ⟨_, rfl, by split <;> omega⟩
  have HM2 := Aside0.mk hM2
  clear hM2
  go_enter Try.func82, Try.ntmps82
  go_wp2
  clear hM
  go_loopg [7, 16] (max p.length q.length) (fun kq v7 v16 w' => ∃ i : Int, v16 = .int .i64 i ∧ Aside0 (0 ≤ i ∧ (kq : Int) = (max p.length q.length : Nat) - i) ∧ Aside0 (Kd.R (Kd.int .i64) 86 w' w.heap.size (fun _ => True) v7 (zipTo F p q i.toNat)) ∧ Aside0 (Below w.heap.size w w'))
  case atStart => exact ⟨0, rfl, ⟨by omega, by omega⟩, ⟨Kd.R_nil _ _ _ _ _⟩, ⟨Below.refl _ _⟩⟩
  case round =>
    obtain ⟨i, rfl, HI, HO, HB⟩ := hrel
    have i0 := HI.out.1
    have hl := HL.out
    by_cases c : i < M
    · have ci := Aside0.mk (show i < (max p.length q.length : Nat) by rw [← HM2.out]; exact c)
      have i1 := Aside0.mk (show i < 1000000 by have := ci.out; omega)
      have i2 := i1.out
      by_cases ca : i < (p.length : Int)
      · by_cases cb : i < (q.length : Int)
        · obtain ⟨ad0, e0, hx0⟩ := Kd.at_int HR0.out i i0 ca
          cases e0
          replace hx0 := (HB.out.cell (World.block_lt_of_cell? w _ hx0)).trans hx0
          have va : F251 (rd p i) := rd_in HP.out i0 ca
          obtain ⟨ad1, e1, hx1⟩ := Kd.at_int HR1.out i i0 cb
          cases e1
          replace hx1 := (HB.out.cell (World.block_lt_of_cell? w _ hx1)).trans hx1
          have vb : F251 (rd q i) := rd_in HQ.out i0 cb
          have G := Aside0.mk (fun W => HG.out (rd p i) (rd q i) W va vb)
          obtain ⟨z, hz⟩ : ∃ z_, F (rd p i) (rd q i) = z_ := ⟨_, rfl⟩
          rw [hz] at G
          have N := Aside0.mk (show zipTo F p q (i + 1).toNat = zipTo F p q i.toNat ++ [z] by rw [show (i + 1).toNat = i.toNat + 1 by omega, zipTo_succ, ← hz]; rfl)
          clear hz va vb
          have LM := Aside0.mk (show (zipTo F p q i.toNat).length < 17592186044416 by rw [zipTo_len]; omega)
          generalize zipTo F p q i.toNat = x5 at HO N LM
          go_wp2_with (first | (go_at_fn g; refine (G.out _).mono ?_; rintro e w' ⟨rfl, rfl⟩) | ((with_reducible refine gate_builtin (b := .append) (xs := #[.tmp 35, .tmp 40]) rfl ?_); at_builtin; refine Kd.R_append (Kd.int .i64) (w0 := w) w.heap.size rfl (.tmp 35) (.tmp 40) 82 86 (.int .i64 0) 8 rfl Try.underlying82 info86 rfl (by decide) (by omega) u7 x5 z [.int .i64 z] (fun _ => True) (fun _ => False) rfl rfl ?aP (fun _ hk => hk.elim) ?aF ?aO ?aB ?aS ?aL ?_; (case aP => exact rfl); (case aB => exact (by repeat (first | (with_reducible first | exact HB.out | apply below_alloc | apply pw_below_drewN | apply below_drew1) | exact HB.out))); (case aF => exact (fun _ _ => trivial)); (case aO => exact (by (with_reducible repeat (first | apply Kd.R_alloc | apply Kd.R_drewN | apply Kd.R_drew)); exact HO.out)); (case aS => exact (below_size (by repeat (first | (with_reducible first | exact HB.out | apply below_alloc | apply pw_below_drewN | apply below_drew1) | exact HB.out)))); (case aL => have := LM.out; omega); intro v533 w8 ho hb hg2 hat; rw [← N.out] at ho; have n0_ := Aside0.mk (hb); have n1_ := Aside0.mk (ho); clear HB; clear HO; have HB := n0_; have HO := n1_; clear n0_ n1_; clear ho hb hg2 hat))
          have i3 := ci.out
          have i4 := HI.out.2
          go_roundg (max p.length q.length - (i + 1)).toNat
          case measure => omega
          case rel => exact ⟨i + 1, by first | rfl | simp, ⟨by omega, by omega⟩, HO, HB⟩
        · obtain ⟨ad0, e0, hx0⟩ := Kd.at_int HR0.out i i0 ca
          cases e0
          replace hx0 := (HB.out.cell (World.block_lt_of_cell? w _ hx0)).trans hx0
          have va : F251 (rd p i) := rd_in HP.out i0 ca
          have zb := Aside0.mk (rd_past cb)
          have vb : F251 0 := ⟨by decide, by decide⟩
          have G := Aside0.mk (fun W => HG.out (rd p i) 0 W va vb)
          obtain ⟨z, hz⟩ : ∃ z_, F (rd p i) 0 = z_ := ⟨_, rfl⟩
          rw [hz] at G
          have N := Aside0.mk (show zipTo F p q (i + 1).toNat = zipTo F p q i.toNat ++ [z] by rw [show (i + 1).toNat = i.toNat + 1 by omega, zipTo_succ, zb.out, ← hz]; rfl)
          clear hz va vb
          have LM := Aside0.mk (show (zipTo F p q i.toNat).length < 17592186044416 by rw [zipTo_len]; omega)
          generalize zipTo F p q i.toNat = x5 at HO N LM
          go_wp2_with (first | (go_at_fn g; refine (G.out _).mono ?_; rintro e w' ⟨rfl, rfl⟩) | ((with_reducible refine gate_builtin (b := .append) (xs := #[.tmp 35, .tmp 40]) rfl ?_); at_builtin; refine Kd.R_append (Kd.int .i64) (w0 := w) w.heap.size rfl (.tmp 35) (.tmp 40) 82 86 (.int .i64 0) 8 rfl Try.underlying82 info86 rfl (by decide) (by omega) u7 x5 z [.int .i64 z] (fun _ => True) (fun _ => False) rfl rfl ?aP (fun _ hk => hk.elim) ?aF ?aO ?aB ?aS ?aL ?_; (case aP => exact rfl); (case aB => exact (by repeat (first | (with_reducible first | exact HB.out | apply below_alloc | apply pw_below_drewN | apply below_drew1) | exact HB.out))); (case aF => exact (fun _ _ => trivial)); (case aO => exact (by (with_reducible repeat (first | apply Kd.R_alloc | apply Kd.R_drewN | apply Kd.R_drew)); exact HO.out)); (case aS => exact (below_size (by repeat (first | (with_reducible first | exact HB.out | apply below_alloc | apply pw_below_drewN | apply below_drew1) | exact HB.out)))); (case aL => have := LM.out; omega); intro v533 w8 ho hb hg2 hat; rw [← N.out] at ho; have n0_ := Aside0.mk (hb); have n1_ := Aside0.mk (ho); clear HB; clear HO; have HB := n0_; have HO := n1_; clear n0_ n1_; clear ho hb hg2 hat))
          have i3 := ci.out
          have i4 := HI.out.2
          go_roundg (max p.length q.length - (i + 1)).toNat
          case measure => omega
          case rel => exact ⟨i + 1, by first | rfl | simp, ⟨by omega, by omega⟩, HO, HB⟩
      · by_cases cb : i < (q.length : Int)
        · have za := Aside0.mk (rd_past ca)
          have va : F251 0 := ⟨by decide, by decide⟩
          obtain ⟨ad1, e1, hx1⟩ := Kd.at_int HR1.out i i0 cb
          cases e1
          replace hx1 := (HB.out.cell (World.block_lt_of_cell? w _ hx1)).trans hx1
          have vb : F251 (rd q i) := rd_in HQ.out i0 cb
          have G := Aside0.mk (fun W => HG.out 0 (rd q i) W va vb)
          obtain ⟨z, hz⟩ : ∃ z_, F 0 (rd q i) = z_ := ⟨_, rfl⟩
          rw [hz] at G
          have N := Aside0.mk (show zipTo F p q (i + 1).toNat = zipTo F p q i.toNat ++ [z] by rw [show (i + 1).toNat = i.toNat + 1 by omega, zipTo_succ, za.out, ← hz]; rfl)
          clear hz va vb
          have LM := Aside0.mk (show (zipTo F p q i.toNat).length < 17592186044416 by rw [zipTo_len]; omega)
          generalize zipTo F p q i.toNat = x5 at HO N LM
          go_wp2_with (first | (go_at_fn g; refine (G.out _).mono ?_; rintro e w' ⟨rfl, rfl⟩) | ((with_reducible refine gate_builtin (b := .append) (xs := #[.tmp 35, .tmp 40]) rfl ?_); at_builtin; refine Kd.R_append (Kd.int .i64) (w0 := w) w.heap.size rfl (.tmp 35) (.tmp 40) 82 86 (.int .i64 0) 8 rfl Try.underlying82 info86 rfl (by decide) (by omega) u7 x5 z [.int .i64 z] (fun _ => True) (fun _ => False) rfl rfl ?aP (fun _ hk => hk.elim) ?aF ?aO ?aB ?aS ?aL ?_; (case aP => exact rfl); (case aB => exact (by repeat (first | (with_reducible first | exact HB.out | apply below_alloc | apply pw_below_drewN | apply below_drew1) | exact HB.out))); (case aF => exact (fun _ _ => trivial)); (case aO => exact (by (with_reducible repeat (first | apply Kd.R_alloc | apply Kd.R_drewN | apply Kd.R_drew)); exact HO.out)); (case aS => exact (below_size (by repeat (first | (with_reducible first | exact HB.out | apply below_alloc | apply pw_below_drewN | apply below_drew1) | exact HB.out)))); (case aL => have := LM.out; omega); intro v533 w8 ho hb hg2 hat; rw [← N.out] at ho; have n0_ := Aside0.mk (hb); have n1_ := Aside0.mk (ho); clear HB; clear HO; have HB := n0_; have HO := n1_; clear n0_ n1_; clear ho hb hg2 hat))
          have i3 := ci.out
          have i4 := HI.out.2
          go_roundg (max p.length q.length - (i + 1)).toNat
          case measure => omega
          case rel => exact ⟨i + 1, by first | rfl | simp, ⟨by omega, by omega⟩, HO, HB⟩
        · exact absurd ci.out (by omega)
    · have e : i = (max p.length q.length : Nat) := by
        have := HI.out.2
        rw [HM2.out] at c
        omega
      have E := Aside0.mk (show zipTo F p q i.toNat = zipF F p q by rw [e]; rfl)
      clear e
      go_wp2
      go_ret
      exact ⟨_, rfl, by rw [← E.out]; exact HO.out, HB.out⟩
end Go.Proofs.Ytpfkfbbekfkcgaa.P
end
section
namespace Go.Proofs.Ytpfkfbbekfkcgaa.P
open Go.RowKit Go.Shelf Go.Proofs.YtpfkfbbekfkcgaaW.PrintWords Go.Proofs.YtpfkfbbekfkcgaaW.PrintLast Go.Proofs.YtpfkfbbekfkcgaaW.PrintMore
attribute [local go_sem] max2_int min2_int max_two min_two max_three min_three max_four min_four
set_option linter.unusedVariables false
set_option linter.unusedSimpArgs false
theorem take_rdI {l : List Int} {i : Int} (h0 : 0 ≤ i) (h1 : i < l.length) : l.take (i + 1).toNat = l.take i.toNat ++ [rd l i] := by
  rw [show (i + 1).toNat = i.toNat + 1 by omega, List.take_succ_eq_append_getElem (by omega)]
  congr 2
  unfold rd
  rw [List.getD_eq_getElem?_getD, List.getElem?_eq_getElem (by omega)]; rfl
set_option maxHeartbeats 4000000 in
set_option maxRecDepth 100000 in
theorem fold62_c (A0 : Option Addr) (c0 : Nat) (p : List Int) (w : World) (pl : p.length ≤ 1000000)
    (hr0 : Kd.C (Kd.int .i64) w A0 p.length p) (hc0 : p.length ≤ c0) :
    Calls Try.prog 62 #[.slice A0 p.length c0, .slice none 0 0, .func (.func 63) #[] #[]] w
      fun e w' => ∃ v0_ : Value, e = .returned v0_ ∧ Kd.R (Kd.int .i64) 3 w' w.heap.size (fun _ => True) v0_ p ∧ Below w.heap.size w w' := by
  have HR0 := Aside0.mk hr0
  clear hr0 hc0
  go_enter Try.func62, Try.ntmps62
  go_wp2
  go_loopg [1, 11] p.length (fun kq v1 v11 w' => ∃ i : Int, v11 = .int .i64 i ∧ Aside0 (0 ≤ i ∧ (kq : Int) = p.length - i) ∧ Aside0 (Kd.R (Kd.int .i64) 3 w' w.heap.size (fun _ => True) v1 (p.take i.toNat)) ∧ Aside0 (Below w.heap.size w w'))
  case atStart => exact ⟨0, rfl, ⟨by omega, by omega⟩, ⟨Kd.R_nil _ _ _ _ _⟩, ⟨Below.refl _ _⟩⟩
  case round =>
    obtain ⟨i, rfl, HI, HO, HB⟩ := hrel
    have i0 := HI.out.1
    by_cases c : i < (p.length : Int)
    · obtain ⟨ad0, e0, hx0⟩ := Kd.at_int HR0.out i i0 c
      cases e0
      replace hx0 := (HB.out.cell (World.block_lt_of_cell? w _ hx0)).trans hx0
      have N := Aside0.mk (take_rdI i0 c)
      have LM := Aside0.mk (show (p.take i.toNat).length < 17592186044416 by rw [List.length_take]; omega)
      generalize p.take i.toNat = x5 at HO N LM
      go_wp2_with (first | ((with_reducible refine gate_builtin (b := .append) (xs := #[.tmp 5, .tmp 7]) rfl ?_); at_builtin; refine Kd.R_append (Kd.int .i64) (w0 := w) w.heap.size rfl (.tmp 5) (.tmp 7) 22 3 (.int .i64 0) 8 rfl Try.underlying22 info3 rfl (by decide) (by omega) u1 x5 (rd p i) [.int .i64 (rd p i)] (fun _ => True) (fun _ => False) rfl rfl ?aP (fun _ hk => hk.elim) ?aF ?aO ?aB ?aS ?aL ?_; (case aP => exact rfl); (case aB => exact (by repeat (first | (with_reducible first | exact HB.out | apply below_alloc | apply pw_below_drewN | apply below_drew1) | exact HB.out))); (case aF => exact (fun _ _ => trivial)); (case aO => exact (by (with_reducible repeat (first | apply Kd.R_alloc | apply Kd.R_drewN | apply Kd.R_drew)); exact HO.out)); (case aS => exact (below_size (by repeat (first | (with_reducible first | exact HB.out | apply below_alloc | apply pw_below_drewN | apply below_drew1) | exact HB.out)))); (case aL => have := LM.out; omega); intro v533 w8 ho hb hg2 hat; rw [← N.out] at ho; have n0_ := Aside0.mk (hb); have n1_ := Aside0.mk (ho); clear HB; clear HO; have HB := n0_; have HO := n1_; clear n0_ n1_; clear ho hb hg2 hat) | go_in)
      have i4 := HI.out.2
      go_roundg (p.length - (i + 1)).toNat
      case measure => omega
      case rel => exact ⟨i + 1, by first | rfl | simp, ⟨by omega, by omega⟩, HO, HB⟩
    · have E := Aside0.mk (show p.take i.toNat = p from List.take_of_length_le (by omega))
      go_wp2
      go_ret
      exact ⟨_, rfl, by have h := HO.out; rw [E.out] at h; exact h, HB.out⟩
end Go.Proofs.Ytpfkfbbekfkcgaa.P
end
section
namespace Go.Proofs.Ytpfkfbbekfkcgaa.P
open Go.RowKit Go.Shelf Go.Proofs.YtpfkfbbekfkcgaaW.PrintWords Go.Proofs.YtpfkfbbekfkcgaaW.PrintLast Go.Proofs.YtpfkfbbekfkcgaaW.PrintMore
set_option linter.unusedVariables false
set_option linter.unusedSimpArgs false
def btw (a b c : Int) : Bool := decide (a ≤ b) && decide (b ≤ c)
theorem btw_f (a b c : Int) : vault_between.f a b c = some (btw a b c) := by
  unfold vault_between.f btw
  by_cases h : a ≤ b <;> simp [h]
theorem btw_c (a b c : Int) (w : World) : Calls Try.prog 49 #[.int .i64 a, .int .i64 b, .int .i64 c] w fun e w' => e = .returned (.bool (btw a b c)) ∧ Drawn0 w w' :=
  vault_between.calls a b c _ w (btw_f a b c)
def scan : List S61 → List S61 → Int
  | _, [] => 0
  | b, s :: r => if (btw 1 s.f0 20 && btw 0 s.f1 250) = false then 3 else if b.any (fun t => t.f0 == s.f0) then 9 else scan (b ++ [s]) r
def vault_check.f (need : Int) (l : List S61) : Option Int := some (if btw 1 need 8 = false then 3 else if l.length > 20 then 5 else scan [] l)
def Met (B : Nat) (b : List S61) (w : World) : Prop := ∀ j : Nat, j < 21 → w.cell? ⟨B, j, none⟩ = some (.bool (b.any (fun t => t.f0 == (j : Int)))) ∧ w.frozen? ⟨B, j, none⟩ = false
theorem btw_iff {a b c : Int} : btw a b c = true ↔ a ≤ b ∧ b ≤ c := by simp [btw]
theorem scan_step {l : List S61} {i : Int} (h0 : 0 ≤ i) (h1 : i < l.length) : scan (l.take i.toNat) (l.drop i.toNat) =
    if (btw 1 (rd_T61 l i).f0 20 && btw 0 (rd_T61 l i).f1 250) = false then 3 else if (l.take i.toNat).any (fun t => t.f0 == (rd_T61 l i).f0) then 9 else scan (l.take (i + 1).toNat) (l.drop (i + 1).toNat) := by
  have e : l.drop i.toNat = rd_T61 l i :: l.drop (i + 1).toNat := by
    rw [show (i + 1).toNat = i.toNat + 1 by omega, List.drop_eq_getElem_cons (by omega)]
    congr 1
    unfold rd_T61
    rw [List.getD_eq_getElem?_getD, List.getElem?_eq_getElem (by omega)]; rfl
  have e2 : l.take (i + 1).toNat = l.take i.toNat ++ [rd_T61 l i] := by
    rw [show (i + 1).toNat = i.toNat + 1 by omega, List.take_succ_eq_append_getElem (by omega)]
    congr 2
    unfold rd_T61
    rw [List.getD_eq_getElem?_getD, List.getElem?_eq_getElem (by omega)]; rfl
  rw [e, e2]
  rfl
theorem take_rd {l : List S61} {i : Int} (h0 : 0 ≤ i) (h1 : i < l.length) : l.take (i.toNat + 1) = l.take i.toNat ++ [rd_T61 l i] := by
  rw [List.take_succ_eq_append_getElem (by omega)]
  congr 2
  unfold rd_T61
  rw [List.getD_eq_getElem?_getD, List.getElem?_eq_getElem (by omega)]; rfl
theorem met_step {B : Nat} {b : List S61} {w : World} (h : Met B b w) (hB : B < w.heap.size) (o : Obj) (n : Nat) (s : S61) (y0 : 1 ≤ s.f0) (y1 : s.f0 ≤ 20) :
    Met B (b ++ [s]) (((w.alloc o).drewN n).setCell ⟨B, s.f0.toNat, none⟩ (.bool true)) := by
  have e : ∀ k : Nat, k < 21 → ((w.alloc o).drewN n).cell? ⟨B, k, none⟩ = w.cell? ⟨B, k, none⟩ := fun k _ => (below_alloc (Below.refl w.heap.size w) o).cell (p := ⟨B, k, none⟩) hB
  intro j hj
  constructor
  · by_cases c : j = s.f0.toNat
    · subst c
      rw [World.cell?_setCell_same _ _ _ ((e _ hj).trans (h _ hj).1)]
      rw [List.any_append]
      simp [show ((s.f0.toNat : Nat) : Int) = s.f0 by omega]
    · rw [World.cell?_setCell_other _ _ _ _ (by intro q; injection q with q1 q2; exact c q2.symm), e j hj, (h j hj).1, List.any_append]
      congr 2
      have : (s.f0 == (j : Int)) = false := by simp; omega
      simp [this]
  · rw [World.frozen?_setCell]
    exact ((below_alloc (Below.refl w.heap.size w) o).frozen (p := ⟨B, j, none⟩) hB).trans (h j hj).2
theorem met_start0 (w : World) : Met w.heap.size [] (w.alloc (.cells #[.bool false, .bool false, .bool false, .bool false, .bool false, .bool false, .bool false, .bool false, .bool false, .bool false, .bool false, .bool false, .bool false, .bool false, .bool false, .bool false, .bool false, .bool false, .bool false, .bool false, .bool false] 120)) := by
  intro j hj
  have h := heap_alloc_new w (.cells #[.bool false, .bool false, .bool false, .bool false, .bool false, .bool false, .bool false, .bool false, .bool false, .bool false, .bool false, .bool false, .bool false, .bool false, .bool false, .bool false, .bool false, .bool false, .bool false, .bool false, .bool false] 120)
  refine ⟨?_, ?_⟩
  · rcases (by omega : j = 0 ∨ j = 1 ∨ j = 2 ∨ j = 3 ∨ j = 4 ∨ j = 5 ∨ j = 6 ∨ j = 7 ∨ j = 8 ∨ j = 9 ∨ j = 10 ∨ j = 11 ∨ j = 12 ∨ j = 13 ∨ j = 14 ∨ j = 15 ∨ j = 16 ∨ j = 17 ∨ j = 18 ∨ j = 19 ∨ j = 20) with rfl | rfl | rfl | rfl | rfl | rfl | rfl | rfl | rfl | rfl | rfl | rfl | rfl | rfl | rfl | rfl | rfl | rfl | rfl | rfl | rfl
    all_goals simp
  · exact World.frozen?_alloc_at _ _ _ _ rfl
theorem met_start (w : World) (nd : Nat) : Met w.heap.size [] ((w.drewN nd).alloc (.cells #[.bool false, .bool false, .bool false, .bool false, .bool false, .bool false, .bool false, .bool false, .bool false, .bool false, .bool false, .bool false, .bool false, .bool false, .bool false, .bool false, .bool false, .bool false, .bool false, .bool false, .bool false] 120)) := met_start0 (w.drewN nd)
set_option maxHeartbeats 4000000 in
set_option maxRecDepth 100000 in
theorem vault_check.calls (need : Int) (A1 : Option Addr) (c1 : Nat) (l1 : List S61) (r : Int) (w : World) (hr1 : Kd.C k61 w A1 l1.length l1) (hc1 : l1.length ≤ c1) (h : vault_check.f need l1 = some r) :
    Calls Try.prog 56 #[.int .i64 need, .slice A1 l1.length c1] w fun e w' => e = .returned (.int .i64 r) ∧ Below w.heap.size w w' := by
  have H := Option.some.inj h
  clear h
  by_cases b1 : btw 1 need 8 = false
  · rw [if_pos b1] at H
    subst H
    go_enter Try.func56, Try.ntmps56
    go_wp2_with (go_at_call 49; refine (btw_c _ _ _ _).mono ?_; rintro e w' ⟨rfl, ⟨nd, rfl⟩⟩)
    go_ret
    exact ⟨rfl, by repeat (first | exact Below.refl _ _ | apply below_alloc | apply pw_below_drewN | apply below_drew1)⟩
  · rw [if_neg b1] at H
    replace b1 : btw 1 need 8 = true := by simpa using b1
    by_cases b2 : l1.length > 20
    · rw [if_pos b2] at H
      subst H
      have b3 : decide (20 < (l1.length : Int)) = true := decide_eq_true (by omega)
      clear b2
      go_enter Try.func56, Try.ntmps56
      go_wp2_with (go_at_call 49; refine (btw_c _ _ _ _).mono ?_; rintro e w' ⟨rfl, ⟨nd, rfl⟩⟩)
      go_ret
      exact ⟨rfl, by repeat (first | exact Below.refl _ _ | apply below_alloc | apply pw_below_drewN | apply below_drew1)⟩
    · rw [if_neg b2] at H
      have b3 : decide (20 < (l1.length : Int)) = false := decide_eq_false (by omega)
      have HX := Aside0.mk H
      have HR := Aside0.mk hr1
      clear H hr1
      go_enter Try.func56, Try.ntmps56
      go_wp2_with (go_at_call 49; refine (btw_c _ _ _ _).mono ?_; rintro e w' ⟨rfl, ⟨nd, rfl⟩⟩)
      have HL : Aside0 (l1.length ≤ 20) := ⟨by omega⟩
      clear b2
      go_loopg [18] l1.length (fun kq v18 w' => ∃ i : Int, v18 = .int .i64 i ∧ Aside0 (0 ≤ i ∧ (kq : Int) = l1.length - i ∧ scan (l1.take i.toNat) (l1.drop i.toNat) = r) ∧ Aside0 (Met w.heap.size (l1.take i.toNat) w') ∧ Aside0 (Below w.heap.size w w' ∧ w.heap.size < w'.heap.size))
      case atStart =>
        refine ⟨0, rfl, ⟨by omega, by omega, HX.out⟩, ⟨met_start w nd⟩, ⟨?_, ?_⟩⟩
        · repeat (first | exact Below.refl _ _ | apply below_alloc | apply pw_below_drewN | apply below_drew1)
        · simp
      case round =>
        obtain ⟨i, rfl, HI, HM, HB⟩ := hrel
        by_cases c : i < (l1.length : Int)
        · have p := HI.out.1
          obtain ⟨ad, e, h0, h1⟩ := at_T61 HR.out i p c
          cases e
          replace h0 := (HB.out.1.cell (World.block_lt_of_cell? w _ h0)).trans h0
          replace h1 := (HB.out.1.cell (World.block_lt_of_cell? w _ h1)).trans h1
          have hs : scan (l1.take i.toNat) (l1.drop i.toNat) = if (btw 1 (rd_T61 l1 i).f0 20 && btw 0 (rd_T61 l1 i).f1 250) = false then 3 else if (l1.take i.toNat).any (fun t => t.f0 == (rd_T61 l1 i).f0) then 9 else scan (l1.take (i + 1).toNat) (l1.drop (i + 1).toNat) := scan_step HI.out.1 c
          have hX := HI.out.2.2
          rw [hs] at hX
          clear hs
          by_cases x1 : btw 1 (rd_T61 l1 i).f0 20 = true
          · by_cases x2 : btw 0 (rd_T61 l1 i).f1 250 = true
            · rw [x1, x2, if_neg (by simp)] at hX
              obtain ⟨y0, y1⟩ := btw_iff.1 x1
              have y2 := eq_true (show 0 ≤ (rd_T61 l1 i).f0 by omega)
              have y3 := eq_true (show (rd_T61 l1 i).f0 < 21 by omega)
              have cm := (HM.out (rd_T61 l1 i).f0.toNat (by omega)).1
              have cf := (HM.out (rd_T61 l1 i).f0.toNat (by omega)).2
              rw [show ((rd_T61 l1 i).f0.toNat : Int) = (rd_T61 l1 i).f0 by omega] at cm
              replace cf := ((below_alloc (Below.refl wr.heap.size wr) (.cells #[.int .i64 (rd_T61 l1 i).f0, .int .i64 (rd_T61 l1 i).f1] 61)).frozen (p := ⟨w.heap.size, (rd_T61 l1 i).f0.toNat, none⟩) HB.out.2).trans cf
              replace cm := Lib.cell?_alloc_some (.cells #[.int .i64 (rd_T61 l1 i).f0, .int .i64 (rd_T61 l1 i).f1] 61) cm
              by_cases x3 : (l1.take i.toNat).any (fun t => t.f0 == (rd_T61 l1 i).f0) = true
              · rw [if_pos x3] at hX
                rw [x3] at cm
                subst hX
                clear x3
                go_wp2_with (go_at_call 49; refine (btw_c _ _ _ _).mono ?_; rintro e w' ⟨rfl, ⟨nd2, rfl⟩⟩)
                go_ret
                exact ⟨rfl, by repeat (first | exact HB.out.1 | apply below_alloc | apply pw_below_drewN | apply below_drew1)⟩
              · rw [if_neg x3] at hX
                replace x3 : (l1.take i.toNat).any (fun t => t.f0 == (rd_T61 l1 i).f0) = false := by simpa using x3
                rw [x3] at cm
                clear x3
                have HL2 := HL.out
                go_wp2_with (go_at_call 49; refine (btw_c _ _ _ _).mono ?_; rintro e w' ⟨rfl, ⟨nd2, rfl⟩⟩)
                have hs := Aside0.mk hX
                have hi := HI.out.2.1
                have HM2 := HM.out
                have HB2 := HB.out
                clear hX
                go_roundg (l1.length - (i + 1)).toNat
                case measure => omega
                case rel =>
                  refine ⟨i + 1, by first | rfl | simp, ⟨by omega, by omega, hs.out⟩, ⟨?_⟩, ⟨?_, ?_⟩⟩
                  · rw [show (i + 1).toNat = i.toNat + 1 by omega, take_rd HI.out.1 c]
                    exact met_step HM2 HB2.2 _ _ _ y0 y1
                  · exact (pw_below_drewN (below_alloc HB2.1 _) _).setCell (Nat.le_refl _) _
                  · simp; omega
            · replace x2 : btw 0 (rd_T61 l1 i).f1 250 = false := by simpa using x2
              rw [x1, x2, if_pos (by simp)] at hX
              subst hX
              go_wp2_with (go_at_call 49; refine (btw_c _ _ _ _).mono ?_; rintro e w' ⟨rfl, ⟨nd2, rfl⟩⟩)
              go_ret
              exact ⟨rfl, by repeat (first | exact HB.out.1 | apply below_alloc | apply pw_below_drewN | apply below_drew1)⟩
          · replace x1 : btw 1 (rd_T61 l1 i).f0 20 = false := by simpa using x1
            rw [x1, if_pos (by simp)] at hX
            subst hX
            go_wp2_with (go_at_call 49; refine (btw_c _ _ _ _).mono ?_; rintro e w' ⟨rfl, ⟨nd2, rfl⟩⟩)
            go_ret
            exact ⟨rfl, by repeat (first | exact HB.out.1 | apply below_alloc | apply pw_below_drewN | apply below_drew1)⟩
        · have hX := HI.out.2.2
          have hz := HI.out.1
          rw [List.drop_eq_nil_of_le (by omega)] at hX
          replace hX : (0 : Int) = r := hX
          subst hX
          go_wp2
          go_ret
          exact ⟨rfl, HB.out.1⟩
end Go.Proofs.Ytpfkfbbekfkcgaa.P
end
section
namespace Go.Proofs.Ytpfkfbbekfkcgaa.P
open Go.RowKit Go.Shelf Go.Proofs.YtpfkfbbekfkcgaaW.PrintWords Go.Proofs.YtpfkfbbekfkcgaaW.PrintLast Go.Proofs.YtpfkfbbekfkcgaaW.PrintMore
attribute [local go_sem] max2_int min2_int max_two min_two max_three min_three max_four min_four
set_option linter.unusedVariables false
set_option linter.unusedSimpArgs false
def ev (p : List Int) (x : Int) : Int := p.foldr (fun c v => ((v * x) % 251 + c) % 251) 0
theorem ev_in (p : List Int) (x : Int) : F251 (ev p x) := by
  cases p with
  | nil => exact ⟨Int.le_refl _, by show (0 : Int) ≤ 250; decide⟩
  | cons c p => exact mod_in _
theorem at_l0 (p : List Int) (x : Int) (hx : F251 x) (hp : all251 p) (hl : p.length ≤ 1000000) : ∀ (n : Nat), n ≤ p.length → ∀ k, n < k →
    vault_polynomial_at.l0 k p x (ev (p.drop n) x) ((n : Int) - 1) = some (ev p x) := by
  intro n
  induction n with
  | zero =>
    intro hn k hk
    obtain ⟨k, rfl⟩ : ∃ m, k = m + 1 := ⟨k - 1, by omega⟩
    simp only [vault_polynomial_at.l0]
    rw [if_neg (by omega)]; rfl
  | succ n ih =>
    intro hn k hk
    obtain ⟨k, rfl⟩ : ∃ m, k = m + 1 := ⟨k - 1, by omega⟩
    simp only [vault_polynomial_at.l0]
    have e : rd p (((n + 1 : Nat) : Int) - 1) = p[n] := by
      unfold rd
      rw [show (((n + 1 : Nat) : Int) - 1).toNat = n by omega, List.getD_eq_getElem?_getD, List.getElem?_eq_getElem (by omega)]; rfl
    rw [if_pos (by omega), times_f _ _ (ev_in _ _) hx]
    simp only [Option.bind_some]
    rw [if_pos (by omega), if_pos (by omega), e, plus_f _ _ (mod_in _) (hp _ (List.getElem_mem _))]
    simp only [Option.bind_some]
    have e2 : ev (p.drop n) x = (ev (p.drop (n + 1)) x * x % 251 + p[n]) % 251 := by
      rw [List.drop_eq_getElem_cons (by omega)]; rfl
    rw [← e2, show wrap64 (((n + 1 : Nat) : Int) - 1 - 1) = (n : Int) - 1 by unfold wrap64; omega]
    exact ih (by omega) k (by omega)
theorem at_f (p : List Int) (x : Int) (hx : F251 x) (hp : all251 p) (hl : p.length ≤ 1000000) : vault_polynomial_at.f (p.length + 1) p x = some (ev p x) := by
  unfold vault_polynomial_at.f
  rw [show wrap64 ((p.length : Int) - 1) = (p.length : Int) - 1 by unfold wrap64; omega]
  have := at_l0 p x hx hp hl p.length (Nat.le_refl _) (p.length + 1) (by omega)
  rwa [List.drop_length] at this
def scale (p : List Int) (a : Int) : List Int := p.map fun c => (c * a) % 251
theorem scaled_l0 (p : List Int) (a : Int) (ha : F251 a) (hp : all251 p) (hl : p.length ≤ 1000000) : ∀ (d n : Nat), n + d = p.length → ∀ k, d < k →
    vault_polynomial_scaled.l0 k a (scale (p.take n) a) p (p.length : Int) (n : Int) = some (scale p a) := by
  intro d
  induction d with
  | zero =>
    intro n hn k hk
    obtain ⟨k, rfl⟩ : ∃ m, k = m + 1 := ⟨k - 1, by omega⟩
    simp only [vault_polynomial_scaled.l0]
    rw [if_neg (by omega), List.take_of_length_le (by omega)]
  | succ d ih =>
    intro n hn k hk
    obtain ⟨k, rfl⟩ : ∃ m, k = m + 1 := ⟨k - 1, by omega⟩
    simp only [vault_polynomial_scaled.l0]
    have e : rd p (n : Int) = p[n] := by
      unfold rd
      rw [Int.toNat_natCast, List.getD_eq_getElem?_getD, List.getElem?_eq_getElem (by omega)]; rfl
    have e2 : scale (p.take n) a ++ [p[n] * a % 251] = scale (p.take (n + 1)) a := by
      unfold scale
      rw [List.take_succ_eq_append_getElem (by omega), List.map_append]; rfl
    rw [if_pos (by omega), if_pos (by omega), if_pos (by omega), e, times_f _ _ (hp _ (List.getElem_mem _)) ha]
    simp only [Option.bind_some]
    rw [if_pos (by unfold scale; rw [List.length_map, List.length_take]; omega), e2, show wrap64 ((n : Int) + 1) = ((n + 1 : Nat) : Int) by unfold wrap64; omega]
    exact ih (n + 1) (by omega) k (by omega)
theorem scaled_f (p : List Int) (a : Int) (ha : F251 a) (hp : all251 p) (hl : p.length ≤ 1000000) : vault_polynomial_scaled.f (p.length + 1) p a = some (scale p a) :=
  scaled_l0 p a ha hp hl p.length 0 (by omega) (p.length + 1) (by omega)
theorem scale_in (p : List Int) (a : Int) : all251 (scale p a) := by
  intro x hx
  obtain ⟨c, _, rfl⟩ := List.mem_map.1 hx
  exact mod_in _
theorem scale_len (p : List Int) (a : Int) : (scale p a).length = p.length := List.length_map _
theorem zipF_len (F : Int → Int → Int) (p q : List Int) : (zipF F p q).length = max p.length q.length := by simp [zipF]
def addF (a b : Int) : Int := (a + b) % 251
def subF (a b : Int) : Int := (a - b) % 251
theorem zipF_in {F : Int → Int → Int} (hF : ∀ a b, F251 (F a b)) (p q : List Int) : all251 (zipF F p q) := by
  intro x hx
  obtain ⟨c, _, rfl⟩ := List.mem_map.1 hx
  exact hF _ _
def solveStep (s : List Int × List Int) (x : S61) : List Int × List Int :=
  (zipF addF s.1 (scale s.2 ((x.f1 - ev s.1 x.f0) % 251 * inv (ev s.2 x.f0) % 251)), zipF subF (0 :: s.2) (scale s.2 x.f0))
def solved (l : List S61) : List Int × List Int := l.foldl solveStep ([], [1])
theorem solved_snoc (l : List S61) (x : S61) : solved (l ++ [x]) = solveStep (solved l) x := by simp [solved]
theorem snoc_ind {α : Type} {P : List α → Prop} (h0 : P []) (h1 : ∀ l x, P l → P (l ++ [x])) (l : List α) : P l := by
  have : ∀ l : List α, P l.reverse := by
    intro l
    induction l with
    | nil => exact h0
    | cons x l ih => rw [List.reverse_cons]; exact h1 _ _ ih
  have h := this l.reverse
  rwa [List.reverse_reverse] at h
theorem solved_in (l : List S61) : all251 (solved l).1 ∧ all251 (solved l).2 ∧ (solved l).1.length ≤ l.length ∧ (solved l).2.length = l.length + 1 := by
  refine snoc_ind (P := fun l => all251 (solved l).1 ∧ all251 (solved l).2 ∧ (solved l).1.length ≤ l.length ∧ (solved l).2.length = l.length + 1) ?_ ?_ l
  · exact ⟨fun x h => by simp [solved] at h, fun x h => by simp [solved] at h; subst h; exact ⟨by decide, by decide⟩, by simp [solved], by simp [solved]⟩
  · rintro l x ⟨h1, h2, h3, h4⟩
    rw [solved_snoc]
    refine ⟨zipF_in (fun _ _ => mod_in _) _ _, zipF_in (fun _ _ => mod_in _) _ _, ?_, ?_⟩
    · simp only [solveStep, zipF_len, scale_len, List.length_append, List.length_singleton]; omega
    · simp only [solveStep, zipF_len, scale_len, List.length_append, List.length_cons, List.length_nil]
      rw [Nat.max_eq_left (by omega)]; omega
theorem eg73 : ∀ args w, (callFunc 73 args).run Try.prog w = .ok (.enter 73 args) w := enters_of Try.func73 (by kernel_rfl) rfl
theorem eg81 : ∀ args w, (callFunc 81 args).run Try.prog w = .ok (.enter 81 args) w := enters_of Try.func81 (by kernel_rfl) rfl
set_option maxHeartbeats 8000000 in
set_option maxRecDepth 100000 in
theorem solve_c (A0 : Option Addr) (c0 : Nat) (l : List S61) (w : World) (hlen : l.length ≤ 1000) (hl : ∀ s ∈ l, F251 s.f0 ∧ F251 s.f1)
    (hr0 : Kd.C k61 w A0 l.length l) (hc0 : l.length ≤ c0) :
    Calls Try.prog 60 #[.slice A0 l.length c0] w
      fun e w' => ∃ v0_ : Value, e = .returned v0_ ∧ Kd.R (Kd.int .i64) 86 w' w.heap.size (fun _ => True) v0_ (solved l).1 ∧ Below w.heap.size w w' := by
  have HR := Aside0.mk hr0
  have HL := Aside0.mk hl
  clear hr0 hc0 hl
  go_enter Try.func60, Try.ntmps60
  go_wp2_with (first | ((with_reducible refine gate_dst (N := 9) rfl ?_); refine Kd.R_lit (Kd.int .i64) _ 86 ?hg (N := 9) ?hd (xs := ([] : List Int)) (inner := []) (ok := fun _ => True) (okp := fun _ => True) ?hr ?hp (fun _ hk => hk) trivial (Below.refl _ _) (Nat.le_refl _) (by simp) ?_; (case hd => rfl); (case hg => rfl); (case hr => first | (go_simp; done) | (go_simp; rfl)); (case hp => exact (Reps.none _ _)); intro v9 w9_9 ho_9 hb_9 hg_ hnew_; clear hg_ hnew_) | ((with_reducible refine gate_dst (N := 10) rfl ?_); refine Kd.R_lit (Kd.int .i64) _ 86 ?hg (N := 10) ?hd (xs := ([1] : List Int)) (inner := [.int .i64 1]) (ok := fun _ => True) (okp := fun _ => True) ?hr ?hp (fun _ hk => hk) trivial (Below.refl _ _) (Nat.le_refl _) (by simp) ?_; (case hd => rfl); (case hg => rfl); (case hr => first | (go_simp; done) | (go_simp; rfl)); (case hp => exact (Reps.one (show Kd.M (Kd.int .i64) _ _ _ 1 [.int .i64 1] from rfl) (Reps.none _ _))); intro v10 w9_10 ho_10 hb_10 hg_ hnew_; clear hg_ hnew_))
  have HO3 := Aside0.mk (Kd.R_below (Kd.R_below ho_9 (Below.refl _ _)) hb_10)
  have HO4 := Aside0.mk (Kd.R_lower ho_10 hb_9.size)
  have HB := Aside0.mk (below_step hb_9 hb_10)
  clear ho_9 ho_10 hb_9 hb_10
  go_loopg [3, 4, 13] l.length (fun kq v3 v4 v13 w' => ∃ i : Int, v13 = .int .i64 i ∧ Aside0 (0 ≤ i ∧ (kq : Int) = l.length - i ∧ i ≤ l.length) ∧ Aside0 (Kd.R (Kd.int .i64) 86 w' w.heap.size (fun _ => True) v3 (solved (l.take i.toNat)).1) ∧ Aside0 (Kd.R (Kd.int .i64) 86 w' w.heap.size (fun _ => True) v4 (solved (l.take i.toNat)).2) ∧ Aside0 (Below w.heap.size w w'))
  case atStart => exact ⟨0, rfl, ⟨by omega, by omega, by omega⟩, HO3, HO4, HB⟩
  case round =>
    clear HB HO3 HO4
    obtain ⟨i, rfl, HI, HP, HQ, HB⟩ := hrel
    have i0 := HI.out.1
    by_cases c : i < (l.length : Int)
    · obtain ⟨ad, e, h0, h1⟩ := at_T61 HR.out i i0 c
      cases e
      replace h0 := (HB.out.cell (World.block_lt_of_cell? w _ h0)).trans h0
      replace h1 := (HB.out.cell (World.block_lt_of_cell? w _ h1)).trans h1
      have hx : rd_T61 l i ∈ l := by
        unfold rd_T61
        rw [List.getD_eq_getElem?_getD, List.getElem?_eq_getElem (by omega)]
        exact List.getElem_mem _
      obtain ⟨vk, vv⟩ := HL.out _ hx
      have N := Aside0.mk (show solved (l.take (i + 1).toNat) = solveStep (solved (l.take i.toNat)) (rd_T61 l i) by rw [show (i + 1).toNat = i.toNat + 1 by omega, take_rd i0 c, solved_snoc])
      obtain ⟨pa, qa, pl, ql⟩ := solved_in (l.take i.toNat)
      obtain ⟨p, q, hpq⟩ : ∃ p q, solved (l.take i.toNat) = (p, q) := ⟨_, _, rfl⟩
      rw [hpq] at HP HQ N pa qa pl ql
      clear hpq
      simp only at HP HQ pa qa pl ql
      have tl : (l.take i.toNat).length ≤ 1000 := by rw [List.length_take]; omega
      have pl2 : p.length ≤ 1000 := by omega
      have ql2 : q.length ≤ 1001 := by omega
      clear pl ql tl
      obtain ⟨Ap, cp, rfl, lp, rp⟩ := Kd.R_reads HP.out
      obtain ⟨Aq, cq, rfl, lq, rq⟩ := Kd.R_reads HQ.out
      have HE := Aside0.mk (show F251 (rd_T61 l i).f0 ∧ F251 (rd_T61 l i).f1 from ⟨vk, vv⟩)
      have CP := Aside0.mk (fun W hW => vault_polynomial_at.calls (p.length + 1) Ap cp p (rd_T61 l i).f0 _ W (Kd.C_below rp hW) lp (at_f p _ vk pa (by omega)))
      have CQ := Aside0.mk (fun W hW => vault_polynomial_at.calls (q.length + 1) Aq cq q (rd_T61 l i).f0 _ W (Kd.C_below rq hW) lq (at_f q _ vk qa (by omega)))
      have N2 := Aside0.mk (show solveStep (p, q) (rd_T61 l i) = (zipF addF p (scale q (((rd_T61 l i).f1 - ev p (rd_T61 l i).f0) % 251 * inv (ev q (rd_T61 l i).f0) % 251)), zipF subF (0 :: q) (scale q (rd_T61 l i).f0)) from rfl)
      have EP := Aside0.mk (ev_in p (rd_T61 l i).f0)
      have EQ := Aside0.mk (ev_in q (rd_T61 l i).f0)
      have RP := Aside0.mk rp
      have RQ := Aside0.mk rq
      have LP := Aside0.mk (And.intro lp pl2)
      have LQ := Aside0.mk (And.intro lq ql2)
      have PA := Aside0.mk pa
      have QA := Aside0.mk qa
      clear rp rq lp lq pa qa pl2 ql2 vk vv hx
      generalize rd_T61 l i = x at *
      generalize ev p x.f0 = yp at *
      generalize ev q x.f0 = yq at *
      have NB := Aside0.mk (Below.refl wr.heap.size wr)
      go_wp2_with fail
      go_quiet ((first
        | (go_at_call 50; first | (with_reducible exact quiet0 (CP.out _ (by repeat (first | (with_reducible first | exact NB.out | apply below_alloc | apply pw_below_drewN | apply below_drew1) | exact NB.out)))) | (with_reducible exact quiet0 (CQ.out _ (by repeat (first | (with_reducible first | exact NB.out | apply below_alloc | apply pw_below_drewN | apply below_drew1) | exact NB.out)))))
        | (go_at_call 81; exact quiet0 (minus_c _ _ _ HE.out.2 EP.out))
        | (go_at_call 54; exact quiet0 (inv_c _ _ EQ.out))
        | (go_at_call 78; exact quiet0 (times_c _ _ _ (mod_in _) (inv_in _)))))
      go_wp2_with fail
      refine (vault_polynomial_scaled.calls (q.length + 1) Aq cq q _ _ _ (Kd.C_below RQ.out (by repeat (first | (with_reducible first | exact NB.out | apply below_alloc | apply pw_below_drewN | apply below_drew1) | exact NB.out))) LQ.out.1 (scaled_f q _ (mod_in _) QA.out (by have := LQ.out.2; omega))).mono ?_
      rintro e w2 ⟨v0, rfl, ho, hb⟩
      obtain ⟨A2, c2, rfl, l2, r2⟩ := Kd.R_reads ho
      clear ho
      have NB2 := Aside0.mk (below_step (by repeat (first | (with_reducible first | exact NB.out | apply below_alloc | apply pw_below_drewN | apply below_drew1) | exact NB.out)) hb)
      clear hb
      have R2 := Aside0.mk r2
      have L2 := Aside0.mk l2
      clear r2 l2
      go_wp2_with fail
      refine (combine_c 73 addF eg73 (fun a b W ha hb => plus_s a b W ha hb) _ _ _ _ _ _ _ PA.out (scale_in _ _) (by have := LP.out.2; omega) (by rw [scale_len]; have := LQ.out.2; omega) (Kd.C_below RP.out NB2.out) LP.out.1 R2.out L2.out).mono ?_
      rintro e w3 ⟨v3, rfl, ho, hb⟩
      have NB3 := Aside0.mk (below_step NB2.out hb)
      have HO3 := Aside0.mk (Kd.R_lower ho (Nat.le_trans HB.out.size NB2.out.size))
      clear hb ho NB2 R2 L2
      go_wp2_with (first | ((with_reducible refine gate_dst (N := 35) rfl ?_); refine Kd.R_lit (Kd.int .i64) _ 86 ?hg (N := 35) ?hd (xs := ([0] : List Int)) (inner := [.int .i64 0]) (ok := fun _ => True) (okp := fun _ => True) ?hr ?hp (fun _ hk => hk) trivial (Below.refl _ _) (Nat.le_refl _) (by simp) ?_; (case hd => rfl); (case hg => rfl); (case hr => first | (go_simp; done) | (go_simp; rfl)); (case hp => exact (Reps.one (show Kd.M (Kd.int .i64) _ _ _ 0 [.int .i64 0] from rfl) (Reps.none _ _))); intro v35 w9_35 ho_35 hb_35 hg_ hnew_; clear hg_ hnew_) | ((with_reducible refine gate_builtin (b := .append) (xs := #[.tmp 35, .tmp 36]) rfl ?_); at_builtin; refine Kd.R_append_rows (Kd.int .i64) (w0 := w3) w3.heap.size rfl (.tmp 35) (.tmp 36) 82 86 (.int .i64 0) 8 rfl Try.underlying82 info86 rfl (by decide) (by omega) v35 [0] q Aq q.length cq (fun _ => True) (fun _ => False) rfl rfl ?aO ?aR (fun _ _ h => h) (fun _ h => h.elim) ?aF ?aB ?aS ?aL ?_; (case aO => exact ho_35); (case aR => exact Kd.C_below RQ.out (below_step NB3.out hb_35)); (case aF => exact fun _ _ => trivial); (case aB => exact hb_35); (case aS => exact hb_35.size); (case aL => have := LQ.out.2; simp; omega); intro v37 w37 ho37 hb37 hg hat; clear hg hat ho_35 hb_35))
      obtain ⟨A4, c4, rfl, l4, r4⟩ := Kd.R_reads ho37
      have NB4 := Aside0.mk (below_step NB3.out hb37)
      have H37 := Aside0.mk hb37
      have R4 := Aside0.mk r4
      have L4 := Aside0.mk l4
      clear ho37 r4 l4 hb37
      refine (vault_polynomial_scaled.calls (q.length + 1) Aq cq q _ _ _ (Kd.C_below RQ.out (by repeat (first | (with_reducible first | exact NB4.out | apply below_alloc | apply pw_below_drewN | apply below_drew1) | exact NB4.out))) LQ.out.1 (scaled_f q _ HE.out.1 QA.out (by have := LQ.out.2; omega))).mono ?_
      rintro e w5 ⟨v5, rfl, ho, hb⟩
      obtain ⟨A5, c5, rfl, l5, r5⟩ := Kd.R_reads ho
      have NB5 := Aside0.mk (below_step (by repeat (first | (with_reducible first | exact NB4.out | apply below_alloc | apply pw_below_drewN | apply below_drew1) | exact NB4.out)) hb)
      have R5 := Aside0.mk r5
      have L5 := Aside0.mk l5
      have NB45 := Aside0.mk hb
      clear ho hb r5 l5
      go_wp2_with fail
      refine (combine_c 81 subF eg81 (fun a b W ha hb => minus_s a b W ha hb) A4 c4 (0 :: q) _ _ _ _ (fun y hy => by cases hy with | head => exact ⟨by decide, by decide⟩ | tail _ h => exact QA.out y h) (scale_in _ _) (by have := LQ.out.2; simp; omega) (by rw [scale_len]; have := LQ.out.2; omega) (Kd.C_below R4.out NB45.out) L4.out R5.out L5.out).mono ?_
      rintro e w6 ⟨v6, rfl, ho, hb⟩
      have NB6 := Aside0.mk (below_step NB5.out hb)
      have HO4 := Aside0.mk (Kd.R_lower ho (Nat.le_trans HB.out.size NB5.out.size))
      have HO3' := Aside0.mk (Kd.R_below HO3.out (show Below w3.heap.size w3 w6 from below_step (below_step (show Below w3.heap.size w3 w37 from H37.out) NB45.out) hb))
      clear HO3
      have HO3 := HO3'
      clear HO3' hb ho
      have HB2 := Aside0.mk (below_step HB.out NB6.out)
      have i4 := HI.out.2
      go_wp2
      go_roundg (l.length - (i + 1)).toNat
      case measure => omega
      case rel => exact ⟨i + 1, by first | rfl | simp, ⟨by omega, by omega, by omega⟩, ⟨by rw [N.out, N2.out]; exact HO3.out⟩, ⟨by rw [N.out, N2.out]; exact HO4.out⟩, HB2⟩
    · have E := Aside0.mk (show l.take i.toNat = l from List.take_of_length_le (by omega))
      go_wp2
      go_ret
      exact ⟨_, rfl, by have h := HP.out; rw [E.out] at h; exact h, HB.out⟩
end Go.Proofs.Ytpfkfbbekfkcgaa.P
end
