/- Words and contracts for a claim. -/
import Derived.Test.YtpfkfbbekfkcgaaBase16
import Derived.Below
import Derived.Deep.Draws
import Derived.Deep.AppendLies
import Derived.Maps.AppendAt
import Derived.OwnWalk
import Derived.Laws.BytesArg
import Derived.Laws.MakeOwn
import Derived.Laws.OwnMore
import Derived.Deep.OwnRows
import Derived.Tactics
import Derived.Lib.ConvBytes
import Derived.Laws.Slices
import Derived.WalkKit
import Derived.KernelRfl
import Derived.RowKit3
import Derived.Deep.LoopGhost
import Derived.Deep.QuietTactic
import Derived.BigQuiet
import Derived.WideLaws
import Derived.Deep.DeepCutAuto
import Derived.Deep.CutBlock
import Derived.Deep.RegionHeld3
import Derived.Laws.Rows
import Derived.Lib.AppendStr
import Derived.ArgAppend
import Derived.Laws.IdiomCopy
import Derived.RowKit
section
set_option linter.unusedVariables false
set_option linter.unusedSimpArgs false
namespace Go.Proofs.YtpfkfbbekfkcgaaW.PrintWords
open Go.RowKit
theorem more_rounds {α : Type} {g : Nat → Option α} (h : ∀ k, LeO (g k) (g (k + 1))) (k : Nat) : ∀ j, LeO (g k) (g (k + j))
  | 0 => LeO.refl _
  | j + 1 => (more_rounds h k j).trans (h (k + j))
theorem at_rounds {α : Type} {g : Nat → Option α} (h : ∀ k, LeO (g k) (g (k + 1))) {k k' : Nat} (hk : k ≤ k') {r : α} (hr : g k = some r) : g k' = some r := by
  have := more_rounds h k (k' - k) r hr
  rwa [Nat.add_sub_cancel' hk] at this
theorem KeepBut.blk {w w1 : World} {g g' : Nat} {row : Option Nat} {o : Obj} (h : KeepBut w w1 g row) (hb : w.heap[g']? = some o) (hg : g' ≠ g) (hr : some g' ≠ row) : w1.heap[g']? = some o := (h.2 g' (blk_lt hb) hg hr).trans hb
theorem KeepBut.own {w w1 : World} {g : Nat} {row : Option Nat} {base : Nat} {e : TypeId} {size n : Nat} {v : Value} {xs : List Value} (h : KeepBut w w1 g row) (ho : w.ownsRow base e size v n xs) (hg : v.ownBlock ≠ some g) (hr : v.ownBlock = none ∨ v.ownBlock ≠ row) : w1.ownsRow base e size v n xs := by
  obtain ⟨h1, h2⟩ := ho
  refine ⟨h1, ?_⟩
  rcases h2 with h2 | ⟨b, cap, cur, rfl, hb, hh, r⟩
  · exact .inl h2
  · refine .inr ⟨b, cap, cur, rfl, hb, h.blk hh ?_ ?_, r⟩
    · intro e
      exact hg (by rw [← e]; rfl)
    · rcases hr with hr | hr
      · simp [Value.ownBlock] at hr
      · exact hr
theorem Ev.of {α : Type} {g : Nat → Option α} {r : α} (hg : ∀ k, LeO (g k) (g (k + 1))) {k : Nat} (h : g k = some r) : Ev g r := ⟨k, fun _ hk => at_rounds hg hk h⟩
theorem Ev.rounds {α : Type} {g : Nat → Option α} {r : α} (h : Ev g r) : ∃ k, g k = some r := by
  obtain ⟨K, h⟩ := h
  exact ⟨K, h K (Nat.le_refl _)⟩
theorem blk_below {w w1 : World} {g : Nat} {o : Obj} (h : w.heap[g]? = some o) (hb : Below w.heap.size w w1) : w1.heap[g]? = some o := (hb.block g (blk_lt h)).trans h
namespace Kd
section
variable {α : Type} {d : Kd α} {e : Nat} {w w1 : World} {base : Nat} {ok ok' : Nat → Prop} {v : Value} {xs : List α}
theorem R_types (h : d.R e w base ok v xs) {g t : Nat} {cells : Array Value} (hb : w.heap[g]? = some (.cells cells t (0, 0))) (ht : ∀ q, q ∈ e :: d.E → q ≠ t) : d.R e w base (fun k => ok k ∧ k ≠ g) v xs :=
  R_mono (R_bound h) (fun k hk => ⟨hk.1, by
    obtain ⟨_, _, _, q, hq, cells', hc⟩ := hk
    rintro rfl
    rw [hc] at hb
    injection hb with hb
    injection hb with _ hb
    exact ht q hq hb⟩)
end
theorem C_of_reads {α : Type} {enc : α → Value} {d : α} {h1 : ∀ x, (enc x).oneCell' = true} {w : World} {A : Option Addr} {n : Nat} {xs : List α} (h : ReadsOf enc d w A n xs) : (scalar enc h1).C w A n xs := by
  refine ⟨h.1, h.2.1, fun hn => ?_⟩
  obtain ⟨ad, e, hc⟩ := h.2.2 hn
  refine ⟨ad, e, fun j p hj => ⟨[enc p], rfl, rfl, fun i u hu => ?_⟩⟩
  obtain ⟨hl, hp⟩ := List.getElem?_eq_some_iff.1 hj
  have h2 := hc j (by have := h.1; omega)
  rw [List.getD_eq_getElem?_getD, hj] at h2
  cases i with
  | zero =>
    have : enc p = u := by simpa using hu
    subst this
    simpa [scalar] using h2
  | succ i => simp at hu
end Kd
theorem ReadsInt.ofRow {k : IntKind} {w : World} {a : Option Addr} {len cap : Nat} {zs : List Int} (h : (a = none ∧ len = 0 ∧ cap = 0 ∧ zs = []) ∨ ∃ x, a = some x ∧ len ≤ cap ∧ cap ≤ maxLen ∧ zs.length = cap ∧ (∀ i, i < zs.length → w.cell? (x.add i) = some (.int k (zs.getD i 0))) ∧ ∀ n ∈ zs, (Lit.int k n).wf = true) :
    ∃ l : List Int, len = l.length ∧ ReadsInt w k a l.length l ∧ l.length ≤ maxLen ∧ ∀ x ∈ l, (Lit.int k x).wf = true := by
  rcases h with ⟨rfl, rfl, rfl, rfl⟩ | ⟨x, rfl, hl, hm, hz, hc, hw⟩
  · exact ⟨[], rfl, ReadsInt.nil _ _, Nat.zero_le _, fun x hx => by simp at hx⟩
  · have e : (zs.take len).length = len := by simp; omega
    have hm' : len ≤ maxLen := Nat.le_trans hl hm
    refine ⟨zs.take len, e.symm, ⟨rfl, by rw [e]; simpa [maxLen] using hm', fun _ => ⟨x, rfl, fun j hj => ?_⟩⟩, by rw [e]; exact hm', fun y hy => hw y (List.mem_of_mem_take hy)⟩
    rw [e] at hj
    rw [hc j (by omega)]
    simp [List.getD, List.getElem?_take, hj]
theorem ReadsInt.ofRowC {k : IntKind} {w : World} {a : Option Addr} {len cap : Nat} {zs : List Int} (h : (a = none ∧ len = 0 ∧ cap = 0 ∧ zs = []) ∨ ∃ x, a = some x ∧ len ≤ cap ∧ cap ≤ maxLen ∧ zs.length = cap ∧ (∀ i, i < zs.length → w.cell? (x.add i) = some (.int k (zs.getD i 0))) ∧ ∀ n ∈ zs, (Lit.int k n).wf = true) :
    ∃ l : List Int, len = l.length ∧ ReadsInt w k a l.length l ∧ l.length ≤ maxLen ∧ (∀ x ∈ l, (Lit.int k x).wf = true) ∧ l.length ≤ cap := by
  have hl : len ≤ cap := by
    rcases h with ⟨_, rfl, rfl, _⟩ | ⟨_, _, h, _⟩
    · exact Nat.le_refl _
    · exact h
  obtain ⟨l, e, h1, h2, h3⟩ := ReadsInt.ofRow h
  exact ⟨l, e, h1, h2, h3, e ▸ hl⟩
end Go.Proofs.YtpfkfbbekfkcgaaW.PrintWords
end
section
namespace Go.Proofs.Ytpfkfbbekfkcgaa.P
open Go.RowKit Go.Proofs.YtpfkfbbekfkcgaaW.PrintWords Go.Proofs.YtpfkfbbekfkcgaaW.PrintLast Go.Proofs.YtpfkfbbekfkcgaaW.PrintMore
attribute [local go_sem] max2_int min2_int max_two min_two max_three min_three max_four min_four
set_option linter.unusedVariables false
set_option linter.unusedSimpArgs false
attribute [local go_sem high] eqA61
set_option maxHeartbeats 8000000 in
set_option maxRecDepth 100000 in
theorem pianolalaw09_Lock_made.calls (k : Nat) (A0 : Option Addr) (c0 : Nat) (l0 : List Int) (r : List Int) (w : World) (hr0 : Kd.C (Kd.int .u8) w A0 l0.length l0) (hc0 : l0.length ≤ c0) (h : pianolalaw09_Lock_made.f k l0 = some r) :
    Calls Try.prog 41 #[.slice A0 l0.length c0] w fun e w' => ∃ v0_ : Value, e = .returned (v0_) ∧ Kd.R (Kd.int .i64) 3 w' w.heap.size (fun _ => True) v0_ r ∧ Below w.heap.size w w' := by
  have HR0 := Aside0.mk hr0
  have HC0 := Aside0.mk hc0
  clear hr0 hc0
  have HB := Aside0.mk (Below.refl w.heap.size w)
  have H : (pianolalaw09_Lock_made.l0 k l0 ([] : List Int) 0) = some r := h
  clear h
  have H' := Aside0.mk H
  clear H
  go_enter Try.func41, Try.ntmps41
  go_wp2
  go_loopg [3, 4] k (fun kq v3 v4 w' => ∃ (x3_1 : List Int) (x4_1 : Int), v4 = .int .i64 x4_1 ∧ Aside0 (pianolalaw09_Lock_made.l0 kq l0 x3_1 x4_1 = some r) ∧ Aside0 (kq ≤ k) ∧ Aside0 (Kd.R (Kd.int .i64) 3 w' w.heap.size (fun _ => True) v3 x3_1) ∧ Aside0 (Below w.heap.size w w'))
  case atStart => exact ⟨(([] : List Int)), (0), (by first | rfl | (simp; done) | (simp [*]; done)), H', ⟨Nat.le_refl _⟩, ⟨by first | exact Kd.R_nil _ _ _ _ _ | exact Kd.N_nil _ _ _ _ _ | exact Kd.V_nil _ _ _ _ _ | exact Kd.Q_nil _ _ _ _ _ | exact Kd.S_nil _ _ _ _ _⟩, ⟨by repeat (first | (with_reducible first | exact HB.out | apply below_alloc | apply pw_below_drewN | apply below_drew1) | exact HB.out)⟩⟩
  case round =>
    clear H'
    obtain ⟨x3_1, x4_1, rfl, HA, HK1, HO_3, HB⟩ := hrel
    cases gk with
    | zero => exact absurd HA.out (by simp [pianolalaw09_Lock_made.l0])
    | succ k1 =>
      have H := HA.out
      clear HA
      simp only [pianolalaw09_Lock_made.l0] at H
      by_cases c2 : x4_1 < (l0.length : Int)
      · rw [if_pos c2] at H
        have c2b0 : decide (x4_1 < (l0.length : Int)) = true := decide_eq_true c2
        clear c2
        by_cases c3 : x4_1 < 8
        · rw [if_pos c3] at H
          have c3b0 : decide (x4_1 < 8) = true := decide_eq_true c3
          clear c3
          by_cases c4 : 0 ≤ x4_1
          · rw [if_pos c4] at H
            have c4b0 : decide (0 ≤ x4_1) = true := decide_eq_true c4
            clear c4
            by_cases c5 : x3_1.length < 17592186044416
            · rw [if_pos c5] at H
              have LMc5 := Aside0.mk c5
              clear c5
              obtain ⟨y410, hy410⟩ : ∃ y_ : List Int, y_ = (x3_1 ++ [Int.tmod (wrap64 (rd l0 x4_1)) 251]) := ⟨_, rfl⟩
              replace H : (pianolalaw09_Lock_made.l0 k1 l0 y410 (wrap64 (x4_1 + 1))) = some r := by first | (rw [hy410]; with_reducible exact H) | (have H2_ := (Option.bind_some _ _).symm.trans H; rw [hy410]; with_reducible exact H2_) | (have H2_ := (Option.bind_some _ _).symm.trans H; with_reducible exact H2_) | with_reducible exact H | (rw [hy410]; exact H) | exact H
              have Ny410 := Aside0.mk hy410
              clear hy410
              have H' := Aside0.mk H
              clear H
              have p409 : 0 ≤ (x4_1 : Int) := of_decide_eq_true (by first | (with_reducible assumption) | assumption)
              have q409 : x4_1 < (l0.length : Int) := of_decide_eq_true (by first | (with_reducible assumption) | assumption)
              obtain ⟨ad409, e409, hx409_0⟩ := Kd.at_int HR0.out x4_1 p409 q409
              cases e409
              replace hx409_0 := (HB.out.cell (World.block_lt_of_cell? w _ hx409_0)).trans hx409_0
              replace p409 := eq_true p409
              replace q409 := eq_true q409
              go_wp2_with (first | ((with_reducible refine gate_builtin (b := .append) (xs := #[.tmp 15, .tmp 22]) rfl ?_); at_builtin; refine Kd.R_append (Kd.int .i64) (w0 := w) w.heap.size rfl (.tmp 15) (.tmp 22) 22 3 (.int .i64 0) 8 rfl Try.underlying22 info3 rfl (by decide) (by omega) u3 x3_1 (Int.tmod (wrap64 (rd l0 x4_1)) 251) [.int .i64 (Int.tmod (wrap64 (rd l0 x4_1)) 251)] (fun _ => True) (fun _ => False) rfl rfl ?aP (fun _ hk => hk.elim) ?aF ?aO ?aB ?aS ?aL ?_; (case aP => exact rfl); (case aB => exact (by repeat (first | (with_reducible first | exact HB.out | apply below_alloc | apply pw_below_drewN | apply below_drew1) | exact HB.out))); (case aF => exact (fun _ _ => trivial)); (case aO => exact (by (with_reducible repeat (first | apply Kd.R_alloc | apply Kd.R_drewN | apply Kd.R_drew)); exact HO_3.out)); (case aS => exact (below_size (by repeat (first | (with_reducible first | exact HB.out | apply below_alloc | apply pw_below_drewN | apply below_drew1) | exact HB.out)))); (case aL => have := LMc5.out; omega); intro v411 w6 ho hb hg hat; rw [← Ny410.out] at ho; have n0_ := Aside0.mk (hb); have n1_ := Aside0.mk (ho); clear HB; clear HO_3; have HB := n0_; have HO412 := n1_; clear n0_ n1_; clear ho hb hg hat))
              go_roundg k1
              case measure => have := HK1.out; omega
              case rel => exact ⟨(y410), (wrap64 (x4_1 + 1)), (by first | rfl | (simp; done) | (simp [*]; done)), H', ⟨by have := HK1.out; omega⟩, ⟨by (with_reducible repeat (first | apply Kd.R_alloc | apply Kd.R_drewN | apply Kd.R_drew)); exact HO412.out⟩, ⟨by repeat (first | (with_reducible first | exact HB.out | apply below_alloc | apply pw_below_drewN | apply below_drew1) | exact HB.out)⟩⟩
            · rw [if_neg c5] at H
              exact absurd H (by simp)
          · rw [if_neg c4] at H
            exact absurd H (by simp)
        · rw [if_neg c3] at H
          have c3b0 : decide (x4_1 < 8) = false := decide_eq_false c3
          clear c3
          by_cases c7 : (x3_1.length : Int) = 0
          · rw [if_pos c7] at H
            have c7b0 : ((x3_1.length : Int) == 0) = true := beq_iff_eq.mpr c7
            have c7b1 : ((x3_1.length : Int) != 0) = false := bne_eq_false_iff_eq.mpr c7
            clear c7
            obtain ⟨y413, hy413⟩ : ∃ y_ : List Int, y_ = (([0] : List Int)) := ⟨_, rfl⟩
            replace H : (some y413) = some r := by first | (rw [hy413]; with_reducible exact H) | (have H2_ := (Option.bind_some _ _).symm.trans H; rw [hy413]; with_reducible exact H2_) | (have H2_ := (Option.bind_some _ _).symm.trans H; with_reducible exact H2_) | with_reducible exact H | (rw [hy413]; exact H) | exact H
            have Ny413 := Aside0.mk hy413
            clear hy413
            obtain rfl := Option.some.inj H
            obtain ⟨Ao8, co8, eo8⟩ := Kd.R_slice HO_3.out
            subst eo8
            go_wp2_with (first | ((with_reducible refine gate_dst (N := 27) rfl ?_); refine Kd.R_lit (Kd.int .i64) _ 3 ?hg (N := 27) ?hd (xs := ([0] : List Int)) (inner := [.int .i64 0]) (ok := fun _ => True) (okp := fun _ => True) ?hr ?hp (fun _ hk => hk) trivial (Below.refl _ _) (Nat.le_refl _) (by simp) ?_; (case hd => rfl); (case hg => rfl); (case hr => first | (go_simp; done) | (go_simp; rfl)); (case hp => exact (Reps.one (show Kd.M (Kd.int .i64) _ _ _ 0 [.int .i64 0] from rfl) (Reps.none _ _))); intro v414 w9 ho10 hb hg_ hnew_; clear hg_ hnew_; (first | rw [← Ny413.out] at ho10 | (simp only [Int.reduceToNat] at ho10; rw [← Ny413.out] at ho10)); have n0_ := Aside0.mk (Kd.R_elder' (by (with_reducible repeat (first | apply Kd.R_alloc | apply Kd.R_drewN | apply Kd.R_drew)); exact HO_3.out) (Kd.R_base ho10) hb); have n1_ := Aside0.mk (Kd.R_lower (Kd.R_new' ho10 (Kd.R_lt (by (with_reducible repeat (first | apply Kd.R_alloc | apply Kd.R_drewN | apply Kd.R_drew)); exact HO_3.out))) (below_size (by repeat (first | (with_reducible first | exact HB.out | apply below_alloc | apply pw_below_drewN | apply below_drew1) | exact HB.out)))); have n2_ := Aside0.mk (below_step (by repeat (first | (with_reducible first | exact HB.out | apply below_alloc | apply pw_below_drewN | apply below_drew1) | exact HB.out)) hb); clear HO_3; clear HB; have HO_3 := n0_; have HO415 := n1_; have HB := n2_; clear n0_ n1_ n2_; clear hb ho10))
            go_ret
            exact ⟨_, by first | rfl | (simp [errW_none, errW_some] <;> rfl) | (simp [*, errW_none, errW_some] <;> rfl), by (with_reducible repeat (first | apply Kd.R_alloc | apply Kd.R_drewN | apply Kd.R_drew)); exact Kd.R_mono HO415.out (fun _ hk => trivial), by repeat (first | (with_reducible first | exact HB.out | apply below_alloc | apply pw_below_drewN | apply below_drew1) | exact HB.out)⟩
          · rw [if_neg c7] at H
            have c7b0 : ((x3_1.length : Int) == 0) = false := beq_eq_false_iff_ne.mpr c7
            have c7b1 : ((x3_1.length : Int) != 0) = true := bne_iff_ne.mpr c7
            have c7b2 : ¬ (x3_1 = []) := fun h_ => c7 (by rw [h_]; rfl)
            obtain rfl := Option.some.inj H
            obtain ⟨Ao11, co11, eo11⟩ := Kd.R_slice HO_3.out
            subst eo11
            go_wp2
            go_ret
            exact ⟨_, by first | rfl | (simp [errW_none, errW_some] <;> rfl) | (simp [*, errW_none, errW_some] <;> rfl), by (with_reducible repeat (first | apply Kd.R_alloc | apply Kd.R_drewN | apply Kd.R_drew)); exact HO_3.out, by repeat (first | (with_reducible first | exact HB.out | apply below_alloc | apply pw_below_drewN | apply below_drew1) | exact HB.out)⟩
      · rw [if_neg c2] at H
        have c2b0 : decide (x4_1 < (l0.length : Int)) = false := decide_eq_false c2
        clear c2
        by_cases c12 : (x3_1.length : Int) = 0
        · rw [if_pos c12] at H
          have c12b0 : ((x3_1.length : Int) == 0) = true := beq_iff_eq.mpr c12
          have c12b1 : ((x3_1.length : Int) != 0) = false := bne_eq_false_iff_eq.mpr c12
          clear c12
          obtain ⟨y416, hy416⟩ : ∃ y_ : List Int, y_ = (([0] : List Int)) := ⟨_, rfl⟩
          replace H : (some y416) = some r := by first | (rw [hy416]; with_reducible exact H) | (have H2_ := (Option.bind_some _ _).symm.trans H; rw [hy416]; with_reducible exact H2_) | (have H2_ := (Option.bind_some _ _).symm.trans H; with_reducible exact H2_) | with_reducible exact H | (rw [hy416]; exact H) | exact H
          have Ny416 := Aside0.mk hy416
          clear hy416
          obtain rfl := Option.some.inj H
          obtain ⟨Ao13, co13, eo13⟩ := Kd.R_slice HO_3.out
          subst eo13
          go_wp2_with (first | ((with_reducible refine gate_dst (N := 27) rfl ?_); refine Kd.R_lit (Kd.int .i64) _ 3 ?hg (N := 27) ?hd (xs := ([0] : List Int)) (inner := [.int .i64 0]) (ok := fun _ => True) (okp := fun _ => True) ?hr ?hp (fun _ hk => hk) trivial (Below.refl _ _) (Nat.le_refl _) (by simp) ?_; (case hd => rfl); (case hg => rfl); (case hr => first | (go_simp; done) | (go_simp; rfl)); (case hp => exact (Reps.one (show Kd.M (Kd.int .i64) _ _ _ 0 [.int .i64 0] from rfl) (Reps.none _ _))); intro v417 w14 ho15 hb hg_ hnew_; clear hg_ hnew_; (first | rw [← Ny416.out] at ho15 | (simp only [Int.reduceToNat] at ho15; rw [← Ny416.out] at ho15)); have n0_ := Aside0.mk (Kd.R_elder' (by (with_reducible repeat (first | apply Kd.R_alloc | apply Kd.R_drewN | apply Kd.R_drew)); exact HO_3.out) (Kd.R_base ho15) hb); have n1_ := Aside0.mk (Kd.R_lower (Kd.R_new' ho15 (Kd.R_lt (by (with_reducible repeat (first | apply Kd.R_alloc | apply Kd.R_drewN | apply Kd.R_drew)); exact HO_3.out))) (below_size (by repeat (first | (with_reducible first | exact HB.out | apply below_alloc | apply pw_below_drewN | apply below_drew1) | exact HB.out)))); have n2_ := Aside0.mk (below_step (by repeat (first | (with_reducible first | exact HB.out | apply below_alloc | apply pw_below_drewN | apply below_drew1) | exact HB.out)) hb); clear HO_3; clear HB; have HO_3 := n0_; have HO418 := n1_; have HB := n2_; clear n0_ n1_ n2_; clear hb ho15))
          go_ret
          exact ⟨_, by first | rfl | (simp [errW_none, errW_some] <;> rfl) | (simp [*, errW_none, errW_some] <;> rfl), by (with_reducible repeat (first | apply Kd.R_alloc | apply Kd.R_drewN | apply Kd.R_drew)); exact Kd.R_mono HO418.out (fun _ hk => trivial), by repeat (first | (with_reducible first | exact HB.out | apply below_alloc | apply pw_below_drewN | apply below_drew1) | exact HB.out)⟩
        · rw [if_neg c12] at H
          have c12b0 : ((x3_1.length : Int) == 0) = false := beq_eq_false_iff_ne.mpr c12
          have c12b1 : ((x3_1.length : Int) != 0) = true := bne_iff_ne.mpr c12
          have c12b2 : ¬ (x3_1 = []) := fun h_ => c12 (by rw [h_]; rfl)
          obtain rfl := Option.some.inj H
          obtain ⟨Ao16, co16, eo16⟩ := Kd.R_slice HO_3.out
          subst eo16
          go_wp2
          go_ret
          exact ⟨_, by first | rfl | (simp [errW_none, errW_some] <;> rfl) | (simp [*, errW_none, errW_some] <;> rfl), by (with_reducible repeat (first | apply Kd.R_alloc | apply Kd.R_drewN | apply Kd.R_drew)); exact HO_3.out, by repeat (first | (with_reducible first | exact HB.out | apply below_alloc | apply pw_below_drewN | apply below_drew1) | exact HB.out)⟩
end Go.Proofs.Ytpfkfbbekfkcgaa.P
end
section
namespace Go.Proofs.Ytpfkfbbekfkcgaa.P
open Go.RowKit Go.Proofs.YtpfkfbbekfkcgaaW.PrintWords Go.Proofs.YtpfkfbbekfkcgaaW.PrintLast Go.Proofs.YtpfkfbbekfkcgaaW.PrintMore
attribute [local go_sem] max2_int min2_int max_two min_two max_three min_three max_four min_four
set_option linter.unusedVariables false
set_option linter.unusedSimpArgs false
attribute [local go_sem high] eqA61
mutual
def pianolalaw09_VaultRestored.j0 : Nat → Int → List Int → Bool → Option (Bool)
  | 0, _, _, _ => none
  | k + 1, x2, x7, x75 => if x75 = true then (some false) else ((vault_Deal.f k x7 (wrap64 (1 + (Int.tmod (wrap64 (x2)) 20)))).bind fun bt452 => (if bt452.2 = 0 then (pianolalaw09_VaultRestored.j1 k x7 bt452.1 ((bt452.1.length : Int) != (wrap64 (1 + (Int.tmod (wrap64 (x2)) 20))))) else (pianolalaw09_VaultRestored.j1 k x7 bt452.1 true)))
def pianolalaw09_VaultRestored.j1 : Nat → List Int → List (S61) → Bool → Option (Bool)
  | 0, _, _, _ => none
  | k + 1, x7, x16, x93 => if x93 = true then (some false) else (pianolalaw09_VaultRestored.l0 k x7 x16 (x16.length : Int) 0)
def pianolalaw09_VaultRestored.l0 : Nat → List Int → List (S61) → Int → Int → Option (Bool)
  | 0, _, _, _, _ => none
  | k + 1, x7, x94, x95, x96 => if x96 < x95 then (if 0 ≤ x96 then (if x96 < (x94.length : Int) then ((vault_Value.f k x7 (wrap64 (x96 + 1))).bind fun bt459 => (if bt459.2 = 0 then ((pianolalaw09_at.f k x7 (wrap64 (x96 + 1))).bind fun t461 => (if bt459.1 = t461 then (if (!(((rd_T61 x94 x96).f0) == (wrap64 (x96 + 1))) || (!(((rd_T61 x94 x96).f1) == bt459.1))) = true then (some false) else (pianolalaw09_VaultRestored.l0 k x7 x94 x95 (wrap64 (x96 + 1)))) else (some false))) else (some false))) else (none)) else (none)) else ((pianolalaw09_works.f).bind fun t456 => (some t456))
end
def pianolalaw09_VaultRestored.f (k : Nat) (l0 : List Int) (l1 : List Int) (a2 : Int) : Option (Bool) := (pianolalaw09_Lock_made.f k l0).bind fun t436 => ((pianolalaw09_some.f k t436 l1 (t436.length : Int)).bind fun t439 => ((vault_Restore.f (t436.length : Int) t439).bind fun bt442 => ((vault_Secret.f (t436.length : Int) t439).bind fun bt446 => ((vault_Agree.f (t436.length : Int) t439).bind fun bt448 => (if bt442.2 = 0 then (if bt446.2 = 0 then (if bt448.2 = 0 then ((pianolalaw09_numbers.f k bt442.1 t436).bind fun t450 => (if t450 = true then (if 0 < (t436.length : Int) then (if bt446.1 = (rd t436 0) then (pianolalaw09_VaultRestored.j0 k a2 t436 (!bt448.1)) else (pianolalaw09_VaultRestored.j0 k a2 t436 true)) else (none)) else (pianolalaw09_VaultRestored.j0 k a2 t436 true))) else (pianolalaw09_VaultRestored.j0 k a2 t436 true)) else (pianolalaw09_VaultRestored.j0 k a2 t436 true)) else (pianolalaw09_VaultRestored.j0 k a2 t436 true))))))
theorem pianolalaw09_VaultRestored.mono_l : ∀ k, (∀ y0 y1 y2, LeO (pianolalaw09_VaultRestored.j0 k y0 y1 y2) (pianolalaw09_VaultRestored.j0 (k + 1) y0 y1 y2)) ∧ (∀ y0 y1 y2, LeO (pianolalaw09_VaultRestored.j1 k y0 y1 y2) (pianolalaw09_VaultRestored.j1 (k + 1) y0 y1 y2)) ∧ (∀ y0 y1 y2 y3, LeO (pianolalaw09_VaultRestored.l0 k y0 y1 y2 y3) (pianolalaw09_VaultRestored.l0 (k + 1) y0 y1 y2 y3))
  | 0 => ⟨fun _ _ _ r h => by simp [pianolalaw09_VaultRestored.j0] at h, fun _ _ _ r h => by simp [pianolalaw09_VaultRestored.j1] at h, fun _ _ _ _ r h => by simp [pianolalaw09_VaultRestored.l0] at h⟩
  | k + 1 => by
    obtain ⟨ih0, ih1, ih2⟩ := pianolalaw09_VaultRestored.mono_l k
    refine ⟨?_, ?_, ?_⟩
    · intro y0 y1 y2
      unfold pianolalaw09_VaultRestored.j0
      repeat' first
      | (with_reducible exact ih0 _ _ _)
      | (with_reducible exact ih1 _ _ _)
      | (with_reducible exact ih2 _ _ _ _)
      | (with_reducible exact pianolalaw09_Lock_made.mono _ _)
      | (with_reducible exact pianolalaw09_at.mono _ _ _)
      | (with_reducible exact pianolalaw09_numbers.mono _ _ _)
      | (with_reducible exact pianolalaw09_some.mono _ _ _ _)
      | (with_reducible exact vault_Deal.mono _ _ _)
      | (with_reducible exact vault_Value.mono _ _ _)
      | (with_reducible exact LeO.refl _)
      | (with_reducible exact LeO.none _)
      | (with_reducible refine LeO.ite ?_ ?_)
      | (with_reducible refine LeO.bind ?_ (fun _ => ?_))
      | exact ih0 _ _ _
      | exact ih1 _ _ _
      | exact ih2 _ _ _ _
      | exact pianolalaw09_Lock_made.mono _ _
      | exact pianolalaw09_at.mono _ _ _
      | exact pianolalaw09_numbers.mono _ _ _
      | exact pianolalaw09_some.mono _ _ _ _
      | exact vault_Deal.mono _ _ _
      | exact vault_Value.mono _ _ _
      | exact LeO.none _
      | refine LeO.ite ?_ ?_
      | refine LeO.bind ?_ (fun _ => ?_)
    · intro y0 y1 y2
      unfold pianolalaw09_VaultRestored.j1
      repeat' first
      | (with_reducible exact ih0 _ _ _)
      | (with_reducible exact ih1 _ _ _)
      | (with_reducible exact ih2 _ _ _ _)
      | (with_reducible exact pianolalaw09_Lock_made.mono _ _)
      | (with_reducible exact pianolalaw09_at.mono _ _ _)
      | (with_reducible exact pianolalaw09_numbers.mono _ _ _)
      | (with_reducible exact pianolalaw09_some.mono _ _ _ _)
      | (with_reducible exact vault_Deal.mono _ _ _)
      | (with_reducible exact vault_Value.mono _ _ _)
      | (with_reducible exact LeO.refl _)
      | (with_reducible exact LeO.none _)
      | (with_reducible refine LeO.ite ?_ ?_)
      | (with_reducible refine LeO.bind ?_ (fun _ => ?_))
      | exact ih0 _ _ _
      | exact ih1 _ _ _
      | exact ih2 _ _ _ _
      | exact pianolalaw09_Lock_made.mono _ _
      | exact pianolalaw09_at.mono _ _ _
      | exact pianolalaw09_numbers.mono _ _ _
      | exact pianolalaw09_some.mono _ _ _ _
      | exact vault_Deal.mono _ _ _
      | exact vault_Value.mono _ _ _
      | exact LeO.none _
      | refine LeO.ite ?_ ?_
      | refine LeO.bind ?_ (fun _ => ?_)
    · intro y0 y1 y2 y3
      unfold pianolalaw09_VaultRestored.l0
      repeat' first
      | (with_reducible exact ih0 _ _ _)
      | (with_reducible exact ih1 _ _ _)
      | (with_reducible exact ih2 _ _ _ _)
      | (with_reducible exact pianolalaw09_Lock_made.mono _ _)
      | (with_reducible exact pianolalaw09_at.mono _ _ _)
      | (with_reducible exact pianolalaw09_numbers.mono _ _ _)
      | (with_reducible exact pianolalaw09_some.mono _ _ _ _)
      | (with_reducible exact vault_Deal.mono _ _ _)
      | (with_reducible exact vault_Value.mono _ _ _)
      | (with_reducible exact LeO.refl _)
      | (with_reducible exact LeO.none _)
      | (with_reducible refine LeO.ite ?_ ?_)
      | (with_reducible refine LeO.bind ?_ (fun _ => ?_))
      | exact ih0 _ _ _
      | exact ih1 _ _ _
      | exact ih2 _ _ _ _
      | exact pianolalaw09_Lock_made.mono _ _
      | exact pianolalaw09_at.mono _ _ _
      | exact pianolalaw09_numbers.mono _ _ _
      | exact pianolalaw09_some.mono _ _ _ _
      | exact vault_Deal.mono _ _ _
      | exact vault_Value.mono _ _ _
      | exact LeO.none _
      | refine LeO.ite ?_ ?_
      | refine LeO.bind ?_ (fun _ => ?_)
theorem pianolalaw09_VaultRestored.mono : ∀ a0 a1 a2 k, LeO (pianolalaw09_VaultRestored.f k a0 a1 a2) (pianolalaw09_VaultRestored.f (k + 1) a0 a1 a2) := by
  intro a0 a1 a2 k
  obtain ⟨ih0, ih1, ih2⟩ := pianolalaw09_VaultRestored.mono_l k
  unfold pianolalaw09_VaultRestored.f
  repeat' first
      | (with_reducible exact ih0 _ _ _)
      | (with_reducible exact ih1 _ _ _)
      | (with_reducible exact ih2 _ _ _ _)
      | (with_reducible exact pianolalaw09_Lock_made.mono _ _)
      | (with_reducible exact pianolalaw09_at.mono _ _ _)
      | (with_reducible exact pianolalaw09_numbers.mono _ _ _)
      | (with_reducible exact pianolalaw09_some.mono _ _ _ _)
      | (with_reducible exact vault_Deal.mono _ _ _)
      | (with_reducible exact vault_Value.mono _ _ _)
      | (with_reducible exact LeO.refl _)
      | (with_reducible exact LeO.none _)
      | (with_reducible refine LeO.ite ?_ ?_)
      | (with_reducible refine LeO.bind ?_ (fun _ => ?_))
      | exact ih0 _ _ _
      | exact ih1 _ _ _
      | exact ih2 _ _ _ _
      | exact pianolalaw09_Lock_made.mono _ _
      | exact pianolalaw09_at.mono _ _ _
      | exact pianolalaw09_numbers.mono _ _ _
      | exact pianolalaw09_some.mono _ _ _ _
      | exact vault_Deal.mono _ _ _
      | exact vault_Value.mono _ _ _
      | exact LeO.none _
      | refine LeO.ite ?_ ?_
      | refine LeO.bind ?_ (fun _ => ?_)
set_option maxHeartbeats 8000000 in
set_option maxRecDepth 100000 in
theorem pianolalaw09_VaultRestored.calls (k : Nat) (A0 : Option Addr) (c0 : Nat) (l0 : List Int) (A1 : Option Addr) (c1 : Nat) (l1 : List Int) (a2 : Int) (r : Bool) (w : World) (hr0 : Kd.C (Kd.int .u8) w A0 l0.length l0) (hc0 : l0.length ≤ c0) (hr1 : Kd.C (Kd.int .u8) w A1 l1.length l1) (hc1 : l1.length ≤ c1) (h : pianolalaw09_VaultRestored.f k l0 l1 a2 = some r) :
    Calls Try.prog 8 #[.slice A0 l0.length c0, .slice A1 l1.length c1, .int .u8 a2] w fun e w' => e = .returned (.bool r) ∧ Below w.heap.size w w' := by
  have hu61 := Try.underlying61
  have HR0 := Aside0.mk hr0
  have HC0 := Aside0.mk hc0
  clear hr0 hc0
  have HR1 := Aside0.mk hr1
  have HC1 := Aside0.mk hc1
  clear hr1 hc1
  have HB := Aside0.mk (Below.refl w.heap.size w)
  have H : ((pianolalaw09_Lock_made.f k l0).bind fun t436 => ((pianolalaw09_some.f k t436 l1 (t436.length : Int)).bind fun t439 => ((vault_Restore.f (t436.length : Int) t439).bind fun bt442 => ((vault_Secret.f (t436.length : Int) t439).bind fun bt446 => ((vault_Agree.f (t436.length : Int) t439).bind fun bt448 => (if bt442.2 = 0 then (if bt446.2 = 0 then (if bt448.2 = 0 then ((pianolalaw09_numbers.f k bt442.1 t436).bind fun t450 => (if t450 = true then (if 0 < (t436.length : Int) then (if bt446.1 = (rd t436 0) then (pianolalaw09_VaultRestored.j0 k a2 t436 (!bt448.1)) else (pianolalaw09_VaultRestored.j0 k a2 t436 true)) else (none)) else (pianolalaw09_VaultRestored.j0 k a2 t436 true))) else (pianolalaw09_VaultRestored.j0 k a2 t436 true)) else (pianolalaw09_VaultRestored.j0 k a2 t436 true)) else (pianolalaw09_VaultRestored.j0 k a2 t436 true))))))) = some r := h
  clear h
  replace H := Option.bind_eq_some_iff.mp H
  obtain ⟨t436, A40, H⟩ := H
  replace H : ((pianolalaw09_some.f k t436 l1 (t436.length : Int)).bind fun t439 => ((vault_Restore.f (t436.length : Int) t439).bind fun bt442 => ((vault_Secret.f (t436.length : Int) t439).bind fun bt446 => ((vault_Agree.f (t436.length : Int) t439).bind fun bt448 => (if bt442.2 = 0 then (if bt446.2 = 0 then (if bt448.2 = 0 then ((pianolalaw09_numbers.f k bt442.1 t436).bind fun t450 => (if t450 = true then (if 0 < (t436.length : Int) then (if bt446.1 = (rd t436 0) then (pianolalaw09_VaultRestored.j0 k a2 t436 (!bt448.1)) else (pianolalaw09_VaultRestored.j0 k a2 t436 true)) else (none)) else (pianolalaw09_VaultRestored.j0 k a2 t436 true))) else (pianolalaw09_VaultRestored.j0 k a2 t436 true)) else (pianolalaw09_VaultRestored.j0 k a2 t436 true)) else (pianolalaw09_VaultRestored.j0 k a2 t436 true)))))) = some r := H
  have A4 := Aside0.mk A40
  clear A40
  replace H := Option.bind_eq_some_iff.mp H
  obtain ⟨t439, A50, H⟩ := H
  replace H : ((vault_Restore.f (t436.length : Int) t439).bind fun bt442 => ((vault_Secret.f (t436.length : Int) t439).bind fun bt446 => ((vault_Agree.f (t436.length : Int) t439).bind fun bt448 => (if bt442.2 = 0 then (if bt446.2 = 0 then (if bt448.2 = 0 then ((pianolalaw09_numbers.f k bt442.1 t436).bind fun t450 => (if t450 = true then (if 0 < (t436.length : Int) then (if bt446.1 = (rd t436 0) then (pianolalaw09_VaultRestored.j0 k a2 t436 (!bt448.1)) else (pianolalaw09_VaultRestored.j0 k a2 t436 true)) else (none)) else (pianolalaw09_VaultRestored.j0 k a2 t436 true))) else (pianolalaw09_VaultRestored.j0 k a2 t436 true)) else (pianolalaw09_VaultRestored.j0 k a2 t436 true)) else (pianolalaw09_VaultRestored.j0 k a2 t436 true))))) = some r := H
  have A5 := Aside0.mk A50
  clear A50
  replace H := Option.bind_eq_some_iff.mp H
  obtain ⟨⟨t442, t443⟩, A60, H⟩ := H
  replace H : ((vault_Secret.f (t436.length : Int) t439).bind fun bt446 => ((vault_Agree.f (t436.length : Int) t439).bind fun bt448 => (if t443 = 0 then (if bt446.2 = 0 then (if bt448.2 = 0 then ((pianolalaw09_numbers.f k t442 t436).bind fun t450 => (if t450 = true then (if 0 < (t436.length : Int) then (if bt446.1 = (rd t436 0) then (pianolalaw09_VaultRestored.j0 k a2 t436 (!bt448.1)) else (pianolalaw09_VaultRestored.j0 k a2 t436 true)) else (none)) else (pianolalaw09_VaultRestored.j0 k a2 t436 true))) else (pianolalaw09_VaultRestored.j0 k a2 t436 true)) else (pianolalaw09_VaultRestored.j0 k a2 t436 true)) else (pianolalaw09_VaultRestored.j0 k a2 t436 true)))) = some r := H
  have A6 := Aside0.mk A60
  clear A60
  replace H := Option.bind_eq_some_iff.mp H
  obtain ⟨⟨t446, t447⟩, A70, H⟩ := H
  replace H : ((vault_Agree.f (t436.length : Int) t439).bind fun bt448 => (if t443 = 0 then (if t447 = 0 then (if bt448.2 = 0 then ((pianolalaw09_numbers.f k t442 t436).bind fun t450 => (if t450 = true then (if 0 < (t436.length : Int) then (if t446 = (rd t436 0) then (pianolalaw09_VaultRestored.j0 k a2 t436 (!bt448.1)) else (pianolalaw09_VaultRestored.j0 k a2 t436 true)) else (none)) else (pianolalaw09_VaultRestored.j0 k a2 t436 true))) else (pianolalaw09_VaultRestored.j0 k a2 t436 true)) else (pianolalaw09_VaultRestored.j0 k a2 t436 true)) else (pianolalaw09_VaultRestored.j0 k a2 t436 true))) = some r := H
  have A7 := Aside0.mk A70
  clear A70
  replace H := Option.bind_eq_some_iff.mp H
  obtain ⟨⟨t448, t449⟩, A80, H⟩ := H
  replace H : (if t443 = 0 then (if t447 = 0 then (if t449 = 0 then ((pianolalaw09_numbers.f k t442 t436).bind fun t450 => (if t450 = true then (if 0 < (t436.length : Int) then (if t446 = (rd t436 0) then (pianolalaw09_VaultRestored.j0 k a2 t436 (!t448)) else (pianolalaw09_VaultRestored.j0 k a2 t436 true)) else (none)) else (pianolalaw09_VaultRestored.j0 k a2 t436 true))) else (pianolalaw09_VaultRestored.j0 k a2 t436 true)) else (pianolalaw09_VaultRestored.j0 k a2 t436 true)) else (pianolalaw09_VaultRestored.j0 k a2 t436 true)) = some r := H
  have A8 := Aside0.mk A80
  clear A80
  have HC9 := Aside0.mk H
  clear H
  go_enter Try.func8, Try.ntmps8
  go_upto_region 6 with (first | ((with_reducible refine gate_callee (f := 41) rfl ?_); refine goesL_ (some 22) rfl rfl Try.func41 (by kernel_rfl) rfl #[.slice A0 l0.length c0] rfl (by (try simp only [List.map_toArray, List.map_cons, List.map_nil]); first | done | rfl | (simp only [List.length_drop, List.length_take]; rfl)) ?_; (with_reducible refine (pianolalaw09_Lock_made.calls k _ _ l0 t436 _ ?side1 ?side2 A4.out).mono ?_); (case side1 => repeat (first | exact HR0.out | (with_reducible refine Kd.C_alloc ?_ _) | (with_reducible refine Kd.C_drewN ?_ _) | (with_reducible refine Kd.C_drew ?_))); (case side2 => exact HC0.out); rintro e w10 ⟨v437, rfl, ho0, hb⟩; refine ⟨_, rfl, ?_⟩; have n0_ := Aside0.mk (Kd.R_lower ho0 (below_size (by repeat (first | (with_reducible first | exact HB.out | apply below_alloc | apply pw_below_drewN | apply below_drew1) | exact HB.out)))); have n1_ := Aside0.mk (below_step (by repeat (first | (with_reducible first | exact HB.out | apply below_alloc | apply pw_below_drewN | apply below_drew1) | exact HB.out)) hb); clear HB; have HO438 := n0_; have HB := n1_; clear n0_ n1_; (try clear hb); (try clear hb2); (try clear hk); (try clear hi); (try clear ho0); obtain ⟨Ao11, co11, eo11⟩ := Kd.R_slice HO438.out; subst eo11) | ((with_reducible refine gate_callee (f := 42) rfl ?_); refine goesL_ (some 27) rfl rfl Try.func42 (by kernel_rfl) rfl #[.slice Ao11 t436.length co11, .slice A1 l1.length c1, .int .i64 (t436.length : Int)] rfl (by (try simp only [List.map_toArray, List.map_cons, List.map_nil]); first | done | rfl | (simp only [List.length_drop, List.length_take]; rfl)) ?_; (with_reducible refine (pianolalaw09_some.calls k _ _ t436 _ _ l1 (t436.length : Int) t439 _ ?side1 ?side2 ?side3 ?side4 A5.out).mono ?_); (case side1 => repeat (first | exact (Kd.R_reads' HO438.out).2.2 | (with_reducible refine Kd.C_alloc ?_ _) | (with_reducible refine Kd.C_drewN ?_ _) | (with_reducible refine Kd.C_drew ?_))); (case side2 => exact (Kd.R_reads' HO438.out).2.1); (case side3 => repeat (first | exact (Kd.C_below HR1.out HB.out) | (with_reducible refine Kd.C_alloc ?_ _) | (with_reducible refine Kd.C_drewN ?_ _) | (with_reducible refine Kd.C_drew ?_))); (case side4 => exact HC1.out); rintro e w12 ⟨v440, rfl, ho0, hb⟩; refine ⟨_, rfl, ?_⟩; have n0_ := Aside0.mk (Kd.R_below (by (with_reducible repeat (first | apply Kd.R_alloc | apply Kd.R_drewN | apply Kd.R_drew)); exact HO438.out) hb); have n1_ := Aside0.mk (Kd.R_lower ho0 (below_size (by repeat (first | (with_reducible first | exact HB.out | apply below_alloc | apply pw_below_drewN | apply below_drew1) | exact HB.out)))); have n2_ := Aside0.mk (below_step (by repeat (first | (with_reducible first | exact HB.out | apply below_alloc | apply pw_below_drewN | apply below_drew1) | exact HB.out)) hb); clear HO438; clear HB; have HO438 := n0_; have HO441 := n1_; have HB := n2_; clear n0_ n1_ n2_; (try clear hb); (try clear hb2); (try clear hk); (try clear hi); (try clear ho0); obtain ⟨Ao13, co13, eo13⟩ := Kd.R_slice HO441.out; subst eo13) | ((with_reducible refine gate_callee (f := 28) rfl ?_); refine goesL_ (some 32) rfl rfl Try.func28 (by kernel_rfl) rfl #[.int .i64 (t436.length : Int), .slice Ao13 t439.length co13] rfl (by (try simp only [List.map_toArray, List.map_cons, List.map_nil]); first | done | rfl | (simp only [List.length_drop, List.length_take]; rfl)) ?_; (with_reducible refine (vault_Restore.calls (t436.length : Int) _ _ t439 t442 t443 _ ?side1 ?side2 A6.out).mono ?_); (case side1 => repeat (first | exact (Kd.R_reads' HO441.out).2.2 | (with_reducible refine Kd.C_alloc ?_ _) | (with_reducible refine Kd.C_drewN ?_ _) | (with_reducible refine Kd.C_drew ?_))); (case side2 => exact (Kd.R_reads' HO441.out).2.1); rintro e w14 ⟨v444, rfl, ho0, hb⟩; refine ⟨_, rfl, ?_⟩; have n0_ := Aside0.mk (Kd.R_elder' (by (with_reducible repeat (first | apply Kd.R_alloc | apply Kd.R_drewN | apply Kd.R_drew)); exact HO438.out) (Kd.R_base ho0) hb); have n1_ := Aside0.mk (Kd.R_below (by (with_reducible repeat (first | apply Kd.R_alloc | apply Kd.R_drewN | apply Kd.R_drew)); exact HO441.out) hb); have n2_ := Aside0.mk (Kd.R_lower (Kd.R_new' ho0 (Kd.R_lt (by (with_reducible repeat (first | apply Kd.R_alloc | apply Kd.R_drewN | apply Kd.R_drew)); exact HO438.out))) (below_size (by repeat (first | (with_reducible first | exact HB.out | apply below_alloc | apply pw_below_drewN | apply below_drew1) | exact HB.out)))); have n3_ := Aside0.mk (below_step (by repeat (first | (with_reducible first | exact HB.out | apply below_alloc | apply pw_below_drewN | apply below_drew1) | exact HB.out)) hb); clear HO438; clear HO441; clear HB; have HO438 := n0_; have HO441 := n1_; have HO445 := n2_; have HB := n3_; clear n0_ n1_ n2_ n3_; (try clear hb); (try clear hb2); (try clear hk); (try clear hi); (try clear ho0)) | ((with_reducible refine gate_callee (f := 30) rfl ?_); refine goesL_ (some 39) rfl rfl Try.func30 (by kernel_rfl) rfl #[.int .i64 (t436.length : Int), .slice Ao13 t439.length co13] rfl (by (try simp only [List.map_toArray, List.map_cons, List.map_nil]); first | done | rfl | (simp only [List.length_drop, List.length_take]; rfl)) ?_; (with_reducible refine (vault_Secret.calls (t436.length : Int) _ _ t439 t446 t447 _ ?side1 ?side2 A7.out).mono ?_); (case side1 => repeat (first | exact (Kd.R_reads' HO441.out).2.2 | (with_reducible refine Kd.C_alloc ?_ _) | (with_reducible refine Kd.C_drewN ?_ _) | (with_reducible refine Kd.C_drew ?_))); (case side2 => exact (Kd.R_reads' HO441.out).2.1); rintro e w15 ⟨rfl, hb⟩; refine ⟨_, rfl, ?_⟩; have n0_ := Aside0.mk (Kd.R_below (by (with_reducible repeat (first | apply Kd.R_alloc | apply Kd.R_drewN | apply Kd.R_drew)); exact HO438.out) hb); have n1_ := Aside0.mk (Kd.R_below (by (with_reducible repeat (first | apply Kd.R_alloc | apply Kd.R_drewN | apply Kd.R_drew)); exact HO441.out) hb); have n2_ := Aside0.mk (Kd.R_below (by (with_reducible repeat (first | apply Kd.R_alloc | apply Kd.R_drewN | apply Kd.R_drew)); exact HO445.out) hb); have n3_ := Aside0.mk (below_step (by repeat (first | (with_reducible first | exact HB.out | apply below_alloc | apply pw_below_drewN | apply below_drew1) | exact HB.out)) hb); clear HO438; clear HO441; clear HO445; clear HB; have HO438 := n0_; have HO441 := n1_; have HO445 := n2_; have HB := n3_; clear n0_ n1_ n2_ n3_; (try clear hb); (try clear hb2); (try clear hk); (try clear hi)) | ((with_reducible refine gate_callee (f := 25) rfl ?_); refine goesL_ (some 46) rfl rfl Try.func25 (by kernel_rfl) rfl #[.int .i64 (t436.length : Int), .slice Ao13 t439.length co13] rfl (by (try simp only [List.map_toArray, List.map_cons, List.map_nil]); first | done | rfl | (simp only [List.length_drop, List.length_take]; rfl)) ?_; (with_reducible refine (vault_Agree.calls (t436.length : Int) _ _ t439 t448 t449 _ ?side1 ?side2 A8.out).mono ?_); (case side1 => repeat (first | exact (Kd.R_reads' HO441.out).2.2 | (with_reducible refine Kd.C_alloc ?_ _) | (with_reducible refine Kd.C_drewN ?_ _) | (with_reducible refine Kd.C_drew ?_))); (case side2 => exact (Kd.R_reads' HO441.out).2.1); rintro e w16 ⟨rfl, hb⟩; refine ⟨_, rfl, ?_⟩; have n0_ := Aside0.mk (Kd.R_below (by (with_reducible repeat (first | apply Kd.R_alloc | apply Kd.R_drewN | apply Kd.R_drew)); exact HO438.out) hb); have n1_ := Aside0.mk (Kd.R_below (by (with_reducible repeat (first | apply Kd.R_alloc | apply Kd.R_drewN | apply Kd.R_drew)); exact HO441.out) hb); have n2_ := Aside0.mk (Kd.R_below (by (with_reducible repeat (first | apply Kd.R_alloc | apply Kd.R_drewN | apply Kd.R_drew)); exact HO445.out) hb); have n3_ := Aside0.mk (below_step (by repeat (first | (with_reducible first | exact HB.out | apply below_alloc | apply pw_below_drewN | apply below_drew1) | exact HB.out)) hb); clear HO438; clear HO441; clear HO445; clear HB; have HO438 := n0_; have HO441 := n1_; have HO445 := n2_; have HB := n3_; clear n0_ n1_ n2_ n3_; (try clear hb); (try clear hb2); (try clear hk); (try clear hi)))
  (try simp only [Act.put, List.setIfInBounds_toArray, List.set_cons_zero, List.set_cons_succ])
  go_cut [75] (fun v75 wc => ∃ (kq : Nat) (x75_8 : Bool), v75 = .bool x75_8 ∧ Aside0 (pianolalaw09_VaultRestored.j0 kq a2 t436 x75_8 = some r) ∧ Aside0 (kq ≤ k) ∧ Aside0 (Kd.R (Kd.int .i64) 3 wc w.heap.size (fun _ => True) (.slice Ao11 t436.length co11) t436) ∧ Aside0 (Below w.heap.size w wc))
  case first =>
    have H := HC9.out
    clear HC9
    by_cases c17 : t443 = 0
    · rw [if_pos c17] at H
      have c17b0 : (t443 == 0) = true := beq_iff_eq.mpr c17
      have c17b1 : (t443 != 0) = false := bne_eq_false_iff_eq.mpr c17
      clear c17
      (first | rw [c17b0] | (simp only [i64_w, i32_w]; rw [c17b0]) | skip)
      by_cases c18 : t447 = 0
      · rw [if_pos c18] at H
        have c18b0 : (t447 == 0) = true := beq_iff_eq.mpr c18
        have c18b1 : (t447 != 0) = false := bne_eq_false_iff_eq.mpr c18
        clear c18
        by_cases c19 : t449 = 0
        · rw [if_pos c19] at H
          have c19b0 : (t449 == 0) = true := beq_iff_eq.mpr c19
          have c19b1 : (t449 != 0) = false := bne_eq_false_iff_eq.mpr c19
          clear c19
          replace H := Option.bind_eq_some_iff.mp H
          obtain ⟨t450, A200, H⟩ := H
          replace H : (if t450 = true then (if 0 < (t436.length : Int) then (if t446 = (rd t436 0) then (pianolalaw09_VaultRestored.j0 k a2 t436 (!t448)) else (pianolalaw09_VaultRestored.j0 k a2 t436 true)) else (none)) else (pianolalaw09_VaultRestored.j0 k a2 t436 true)) = some r := H
          have A20 := Aside0.mk A200
          clear A200
          by_cases c21 : t450 = true
          · subst c21
            have H1 : (if 0 < (t436.length : Int) then (if t446 = (rd t436 0) then (pianolalaw09_VaultRestored.j0 k a2 t436 (!t448)) else (pianolalaw09_VaultRestored.j0 k a2 t436 true)) else (none)) = some r := by rw [if_pos rfl] at H; exact H
            clear H
            have H := H1
            clear H1
            by_cases c22 : 0 < (t436.length : Int)
            · rw [if_pos c22] at H
              have c22b0 : decide (0 < (t436.length : Int)) = true := decide_eq_true c22
              have c22b1 : decide (0 < t436.length) = true := decide_eq_true (by omega)
              clear c22
              by_cases c23 : t446 = (rd t436 0)
              · rw [if_pos c23] at H
                have c23b0 : (t446 == (rd t436 0)) = true := beq_iff_eq.mpr c23
                have c23b1 : (t446 != (rd t436 0)) = false := bne_eq_false_iff_eq.mpr c23
                clear c23
                have H' := Aside0.mk H
                clear H
                obtain ⟨Ao24, co24, eo24⟩ := Kd.R_slice HO445.out
                subst eo24
                go_wp2_with (first | (go_at_call 32; (with_reducible refine (pianolalaw09_numbers.calls k _ _ t442 _ _ t436 true _ ?side1 ?side2 ?side3 ?side4 A20.out).mono ?_); (case side1 => repeat (first | exact (Kd.R_reads' HO445.out).2.2 | (with_reducible refine Kd.C_alloc ?_ _) | (with_reducible refine Kd.C_drewN ?_ _) | (with_reducible refine Kd.C_drew ?_))); (case side2 => exact (Kd.R_reads' HO445.out).2.1); (case side3 => repeat (first | exact (Kd.R_reads' HO438.out).2.2 | (with_reducible refine Kd.C_alloc ?_ _) | (with_reducible refine Kd.C_drewN ?_ _) | (with_reducible refine Kd.C_drew ?_))); (case side4 => exact (Kd.R_reads' HO438.out).2.1); rintro e w' ⟨rfl, ⟨nd, rfl⟩⟩; have p451 : 0 ≤ (0 : Int) := (by omega); have q451 : 0 < (t436.length : Int) := of_decide_eq_true (by first | (with_reducible assumption) | assumption); obtain ⟨ad451, e451, hx451_0⟩ := Kd.at_int (Kd.R_reads' HO438.out).2.2 0 p451 q451; cases e451; have qi451 : (0 < t436.length) = True := eq_true (by omega); (try rw [show ((0 : Int)).toNat = 0 from rfl] at hx451_0); (try rw [Addr.add_zero'] at hx451_0); replace p451 := eq_true p451; replace q451 := eq_true q451))
                go_meet
                case rel => exact ⟨_, (!t448), (by first | rfl | (simp; done) | (simp [*]; done)), H', ⟨by first | omega | exact Nat.le_refl _⟩, ⟨by (with_reducible repeat (first | apply Kd.R_alloc | apply Kd.R_drewN | apply Kd.R_drew)); exact Kd.R_mono HO438.out (fun _ hk => trivial)⟩, ⟨by repeat (first | (with_reducible first | exact HB.out | apply below_alloc | apply pw_below_drewN | apply below_drew1) | exact HB.out)⟩⟩
              · rw [if_neg c23] at H
                have c23b0 : (t446 == (rd t436 0)) = false := beq_eq_false_iff_ne.mpr c23
                have c23b1 : (t446 != (rd t436 0)) = true := bne_iff_ne.mpr c23
                have H' := Aside0.mk H
                clear H
                obtain ⟨Ao25, co25, eo25⟩ := Kd.R_slice HO445.out
                subst eo25
                go_wp2_with (first | (go_at_call 32; (with_reducible refine (pianolalaw09_numbers.calls k _ _ t442 _ _ t436 true _ ?side1 ?side2 ?side3 ?side4 A20.out).mono ?_); (case side1 => repeat (first | exact (Kd.R_reads' HO445.out).2.2 | (with_reducible refine Kd.C_alloc ?_ _) | (with_reducible refine Kd.C_drewN ?_ _) | (with_reducible refine Kd.C_drew ?_))); (case side2 => exact (Kd.R_reads' HO445.out).2.1); (case side3 => repeat (first | exact (Kd.R_reads' HO438.out).2.2 | (with_reducible refine Kd.C_alloc ?_ _) | (with_reducible refine Kd.C_drewN ?_ _) | (with_reducible refine Kd.C_drew ?_))); (case side4 => exact (Kd.R_reads' HO438.out).2.1); rintro e w' ⟨rfl, ⟨nd, rfl⟩⟩; have p451 : 0 ≤ (0 : Int) := (by omega); have q451 : 0 < (t436.length : Int) := of_decide_eq_true (by first | (with_reducible assumption) | assumption); obtain ⟨ad451, e451, hx451_0⟩ := Kd.at_int (Kd.R_reads' HO438.out).2.2 0 p451 q451; cases e451; have qi451 : (0 < t436.length) = True := eq_true (by omega); (try rw [show ((0 : Int)).toNat = 0 from rfl] at hx451_0); (try rw [Addr.add_zero'] at hx451_0); replace p451 := eq_true p451; replace q451 := eq_true q451))
                go_meet
                case rel => exact ⟨_, (true), (by first | rfl | (simp; done) | (simp [*]; done)), H', ⟨by first | omega | exact Nat.le_refl _⟩, ⟨by (with_reducible repeat (first | apply Kd.R_alloc | apply Kd.R_drewN | apply Kd.R_drew)); exact Kd.R_mono HO438.out (fun _ hk => trivial)⟩, ⟨by repeat (first | (with_reducible first | exact HB.out | apply below_alloc | apply pw_below_drewN | apply below_drew1) | exact HB.out)⟩⟩
            · rw [if_neg c22] at H
              exact absurd H (by simp)
          · replace c21 := Bool.eq_false_iff.mpr c21
            subst c21
            have H1 : (pianolalaw09_VaultRestored.j0 k a2 t436 true) = some r := by rw [if_neg (show ¬ (false = true) by decide)] at H; exact H
            clear H
            have H := H1
            clear H1
            have H' := Aside0.mk H
            clear H
            obtain ⟨Ao26, co26, eo26⟩ := Kd.R_slice HO445.out
            subst eo26
            go_wp2_with (first | (go_at_call 32; (with_reducible refine (pianolalaw09_numbers.calls k _ _ t442 _ _ t436 false _ ?side1 ?side2 ?side3 ?side4 A20.out).mono ?_); (case side1 => repeat (first | exact (Kd.R_reads' HO445.out).2.2 | (with_reducible refine Kd.C_alloc ?_ _) | (with_reducible refine Kd.C_drewN ?_ _) | (with_reducible refine Kd.C_drew ?_))); (case side2 => exact (Kd.R_reads' HO445.out).2.1); (case side3 => repeat (first | exact (Kd.R_reads' HO438.out).2.2 | (with_reducible refine Kd.C_alloc ?_ _) | (with_reducible refine Kd.C_drewN ?_ _) | (with_reducible refine Kd.C_drew ?_))); (case side4 => exact (Kd.R_reads' HO438.out).2.1); rintro e w' ⟨rfl, ⟨nd, rfl⟩⟩))
            go_meet
            case rel => exact ⟨_, (true), (by first | rfl | (simp; done) | (simp [*]; done)), H', ⟨by first | omega | exact Nat.le_refl _⟩, ⟨by (with_reducible repeat (first | apply Kd.R_alloc | apply Kd.R_drewN | apply Kd.R_drew)); exact Kd.R_mono HO438.out (fun _ hk => trivial)⟩, ⟨by repeat (first | (with_reducible first | exact HB.out | apply below_alloc | apply pw_below_drewN | apply below_drew1) | exact HB.out)⟩⟩
        · rw [if_neg c19] at H
          have c19b0 : (t449 == 0) = false := beq_eq_false_iff_ne.mpr c19
          have c19b1 : (t449 != 0) = true := bne_iff_ne.mpr c19
          have H' := Aside0.mk H
          clear H
          go_wp2
          go_meet
          case rel => exact ⟨_, (true), (by first | rfl | (simp; done) | (simp [*]; done)), H', ⟨by first | omega | exact Nat.le_refl _⟩, ⟨by (with_reducible repeat (first | apply Kd.R_alloc | apply Kd.R_drewN | apply Kd.R_drew)); exact Kd.R_mono HO438.out (fun _ hk => trivial)⟩, ⟨by repeat (first | (with_reducible first | exact HB.out | apply below_alloc | apply pw_below_drewN | apply below_drew1) | exact HB.out)⟩⟩
      · rw [if_neg c18] at H
        have c18b0 : (t447 == 0) = false := beq_eq_false_iff_ne.mpr c18
        have c18b1 : (t447 != 0) = true := bne_iff_ne.mpr c18
        have H' := Aside0.mk H
        clear H
        go_wp2
        go_meet
        case rel => exact ⟨_, (true), (by first | rfl | (simp; done) | (simp [*]; done)), H', ⟨by first | omega | exact Nat.le_refl _⟩, ⟨by (with_reducible repeat (first | apply Kd.R_alloc | apply Kd.R_drewN | apply Kd.R_drew)); exact Kd.R_mono HO438.out (fun _ hk => trivial)⟩, ⟨by repeat (first | (with_reducible first | exact HB.out | apply below_alloc | apply pw_below_drewN | apply below_drew1) | exact HB.out)⟩⟩
    · rw [if_neg c17] at H
      have c17b0 : (t443 == 0) = false := beq_eq_false_iff_ne.mpr c17
      have c17b1 : (t443 != 0) = true := bne_iff_ne.mpr c17
      (first | rw [c17b0] | (simp only [i64_w, i32_w]; rw [c17b0]) | skip)
      have H' := Aside0.mk H
      clear H
      go_wp2
      go_meet
      case rel => exact ⟨_, (true), (by first | rfl | (simp; done) | (simp [*]; done)), H', ⟨by first | omega | exact Nat.le_refl _⟩, ⟨by (with_reducible repeat (first | apply Kd.R_alloc | apply Kd.R_drewN | apply Kd.R_drew)); exact Kd.R_mono HO438.out (fun _ hk => trivial)⟩, ⟨by repeat (first | (with_reducible first | exact HB.out | apply below_alloc | apply pw_below_drewN | apply below_drew1) | exact HB.out)⟩⟩
  case rest =>
    clear HC9
    try clear c1
    try clear c2
    try clear p2
    try clear c3
    try clear c4
    try clear p4
    try clear q4
    try clear hx4
    try clear qi4
    try clear c8
    try clear c17
    try clear c17b0
    try clear c17b1
    try clear c18
    try clear c18b0
    try clear c18b1
    try clear c19
    try clear c19b0
    try clear c19b1
    try clear c21
    try clear c22
    try clear c22b0
    try clear c22b1
    try clear c23
    try clear c23b0
    try clear c23b1
    try clear c25
    try clear hx451_0
    try clear p451
    try clear q451
    obtain ⟨kq, x75_8, rfl, HA, HJ8, HO_7, HB⟩ := hcut
    cases kq with
    | zero => exact absurd HA.out (by simp [pianolalaw09_VaultRestored.j0])
    | succ kj8 =>
      have H := HA.out
      clear HA
      simp only [pianolalaw09_VaultRestored.j0] at H
      by_cases c27 : x75_8 = true
      · subst c27
        have H1 : (some false) = some r := by rw [if_pos rfl] at H; exact H
        clear H
        have H := H1
        clear H1
        obtain rfl := Option.some.inj H
        go_wp2
        go_ret
        exact ⟨by first | rfl | (simp [errW_none, errW_some] <;> rfl) | (simp [*, errW_none, errW_some] <;> rfl), by repeat (first | (with_reducible first | exact HB.out | apply below_alloc | apply pw_below_drewN | apply below_drew1) | exact HB.out)⟩
      · replace c27 := Bool.eq_false_iff.mpr c27
        subst c27
        have H1 : ((vault_Deal.f kj8 t436 (wrap64 (1 + (Int.tmod (wrap64 (a2)) 20)))).bind fun bt452 => (if bt452.2 = 0 then (pianolalaw09_VaultRestored.j1 kj8 t436 bt452.1 ((bt452.1.length : Int) != (wrap64 (1 + (Int.tmod (wrap64 (a2)) 20))))) else (pianolalaw09_VaultRestored.j1 kj8 t436 bt452.1 true))) = some r := by rw [if_neg (show ¬ (false = true) by decide)] at H; exact H
        clear H
        have H := H1
        clear H1
        replace H := Option.bind_eq_some_iff.mp H
        obtain ⟨⟨t452, t453⟩, A280, H⟩ := H
        replace H : (if t453 = 0 then (pianolalaw09_VaultRestored.j1 kj8 t436 t452 ((t452.length : Int) != (wrap64 (1 + (Int.tmod (wrap64 (a2)) 20))))) else (pianolalaw09_VaultRestored.j1 kj8 t436 t452 true)) = some r := H
        have A28 := Aside0.mk A280
        clear A280
        have HC29 := Aside0.mk H
        clear H
        go_upto_region 10 with (first | ((with_reducible refine gate_callee (f := 22) rfl ?_); refine goesL_ (some 83) rfl rfl Try.func22 (by kernel_rfl) rfl #[.slice Ao11 t436.length co11, .int .i64 (wrap64 (1 + (Int.tmod (wrap64 (a2)) 20)))] rfl (by (try simp only [List.map_toArray, List.map_cons, List.map_nil]); first | done | rfl | (simp only [List.length_drop, List.length_take]; rfl)) ?_; (with_reducible refine (vault_Deal.calls kj8 _ _ t436 (wrap64 (1 + (Int.tmod (wrap64 (a2)) 20))) t452 t453 _ ?side1 ?side2 A28.out).mono ?_); (case side1 => repeat (first | exact (Kd.R_reads' HO_7.out).2.2 | (with_reducible refine Kd.C_alloc ?_ _) | (with_reducible refine Kd.C_drewN ?_ _) | (with_reducible refine Kd.C_drew ?_))); (case side2 => exact (Kd.R_reads' HO_7.out).2.1); rintro e w30 ⟨v454, rfl, ho0, hb⟩; refine ⟨_, rfl, ?_⟩; have n0_ := Aside0.mk (Kd.R_below (by (with_reducible repeat (first | apply Kd.R_alloc | apply Kd.R_drewN | apply Kd.R_drew)); exact HO_7.out) hb); have n1_ := Aside0.mk (Kd.R_lower ho0 (below_size (by repeat (first | (with_reducible first | exact HB.out | apply below_alloc | apply pw_below_drewN | apply below_drew1) | exact HB.out)))); have n2_ := Aside0.mk (below_step (by repeat (first | (with_reducible first | exact HB.out | apply below_alloc | apply pw_below_drewN | apply below_drew1) | exact HB.out)) hb); clear HO_7; clear HB; have HO_7 := n0_; have HO455 := n1_; have HB := n2_; clear n0_ n1_ n2_; (try clear hb); (try clear hb2); (try clear hk); (try clear hi); (try clear ho0)))
        (try simp only [Act.put, List.setIfInBounds_toArray, List.set_cons_zero, List.set_cons_succ])
        go_cut [93] (fun v93 wc => ∃ (kq : Nat) (x93_28 : Bool), v93 = .bool x93_28 ∧ Aside0 (pianolalaw09_VaultRestored.j1 kq t436 t452 x93_28 = some r) ∧ Aside0 (kq ≤ kj8) ∧ Aside0 (Kd.R (Kd.int .i64) 3 wc w.heap.size (fun _ => True) (.slice Ao11 t436.length co11) t436) ∧ Aside0 (Kd.R k61 61 wc w.heap.size (fun _ => True) v454 t452) ∧ Aside0 (Below w.heap.size w wc))
        case first =>
          have H := HC29.out
          clear HC29
          by_cases c31 : t453 = 0
          · rw [if_pos c31] at H
            have c31b0 : (t453 == 0) = true := beq_iff_eq.mpr c31
            have c31b1 : (t453 != 0) = false := bne_eq_false_iff_eq.mpr c31
            clear c31
            (first | rw [c31b0] | (simp only [i64_w, i32_w]; rw [c31b0]) | skip)
            have H' := Aside0.mk H
            clear H
            obtain ⟨Ao32, co32, eo32⟩ := Kd.R_slice HO455.out
            subst eo32
            go_wp2
            go_meet
            case rel => exact ⟨_, (((t452.length : Int) != (wrap64 (1 + (Int.tmod (wrap64 (a2)) 20))))), (by first | rfl | (simp; done) | (simp [*]; done)), H', ⟨by have := HJ8.out; first | omega | exact Nat.le_refl _⟩, ⟨by (with_reducible repeat (first | apply Kd.R_alloc | apply Kd.R_drewN | apply Kd.R_drew)); exact HO_7.out⟩, ⟨by (with_reducible repeat (first | apply Kd.R_alloc | apply Kd.R_drewN | apply Kd.R_drew)); exact HO455.out⟩, ⟨by repeat (first | (with_reducible first | exact HB.out | apply below_alloc | apply pw_below_drewN | apply below_drew1) | exact HB.out)⟩⟩
          · rw [if_neg c31] at H
            have c31b0 : (t453 == 0) = false := beq_eq_false_iff_ne.mpr c31
            have c31b1 : (t453 != 0) = true := bne_iff_ne.mpr c31
            (first | rw [c31b0] | (simp only [i64_w, i32_w]; rw [c31b0]) | skip)
            have H' := Aside0.mk H
            clear H
            go_wp2
            go_meet
            case rel => exact ⟨_, (true), (by first | rfl | (simp; done) | (simp [*]; done)), H', ⟨by have := HJ8.out; first | omega | exact Nat.le_refl _⟩, ⟨by (with_reducible repeat (first | apply Kd.R_alloc | apply Kd.R_drewN | apply Kd.R_drew)); exact HO_7.out⟩, ⟨by (with_reducible repeat (first | apply Kd.R_alloc | apply Kd.R_drewN | apply Kd.R_drew)); exact HO455.out⟩, ⟨by repeat (first | (with_reducible first | exact HB.out | apply below_alloc | apply pw_below_drewN | apply below_drew1) | exact HB.out)⟩⟩
        case rest =>
          clear HC29
          try clear c1
          try clear c2
          try clear p2
          try clear c3
          try clear c4
          try clear p4
          try clear q4
          try clear hx4
          try clear qi4
          try clear p6
          try clear c8
          try clear c17
          try clear c17b0
          try clear c17b1
          try clear c18
          try clear c18b0
          try clear c18b1
          try clear c19
          try clear c19b0
          try clear c19b1
          try clear c21
          try clear c22
          try clear c22b0
          try clear c22b1
          try clear c23
          try clear c23b0
          try clear c23b1
          try clear c25
          try clear c27
          try clear c28
          try clear c30
          try clear c31
          try clear c31b0
          try clear c31b1
          try clear hx451_0
          try clear p2
          try clear p4
          try clear p451
          try clear q4
          try clear q451
          obtain ⟨kq, x93_28, rfl, HA, HJ28, HO_7, HO_16, HB⟩ := hcut
          cases kq with
          | zero => exact absurd HA.out (by simp [pianolalaw09_VaultRestored.j1])
          | succ kj28 =>
            have H := HA.out
            clear HA
            simp only [pianolalaw09_VaultRestored.j1] at H
            by_cases c33 : x93_28 = true
            · subst c33
              have H1 : (some false) = some r := by rw [if_pos rfl] at H; exact H
              clear H
              have H := H1
              clear H1
              obtain rfl := Option.some.inj H
              go_wp2
              go_ret
              exact ⟨by first | rfl | (simp [errW_none, errW_some] <;> rfl) | (simp [*, errW_none, errW_some] <;> rfl), by repeat (first | (with_reducible first | exact HB.out | apply below_alloc | apply pw_below_drewN | apply below_drew1) | exact HB.out)⟩
            · replace c33 := Bool.eq_false_iff.mpr c33
              subst c33
              have H1 : (pianolalaw09_VaultRestored.l0 kj28 t436 t452 (t452.length : Int) 0) = some r := by rw [if_neg (show ¬ (false = true) by decide)] at H; exact H
              clear H
              have H := H1
              clear H1
              have H' := Aside0.mk H
              clear H
              obtain ⟨Ao34, co34, eo34⟩ := Kd.R_slice HO_16.out
              subst eo34
              go_wp2
              go_loopg [96] kj28 (fun kq v96 w' => ∃ (x96_3 : Int), v96 = .int .i64 x96_3 ∧ Aside0 (pianolalaw09_VaultRestored.l0 kq t436 t452 (t452.length : Int) x96_3 = some r) ∧ Aside0 (kq ≤ kj28) ∧ Aside0 (Kd.R (Kd.int .i64) 3 w' w.heap.size (fun _ => True) (.slice Ao11 t436.length co11) t436) ∧ Aside0 (Kd.R k61 61 w' w.heap.size (fun _ => True) (.slice Ao34 t452.length co34) t452) ∧ Aside0 (Below w.heap.size w w'))
              case atStart => exact ⟨(0), (by first | rfl | (simp; done) | (simp [*]; done)), H', ⟨Nat.le_refl _⟩, ⟨by (with_reducible repeat (first | apply Kd.R_alloc | apply Kd.R_drewN | apply Kd.R_drew)); exact HO_7.out⟩, ⟨by (with_reducible repeat (first | apply Kd.R_alloc | apply Kd.R_drewN | apply Kd.R_drew)); exact HO_16.out⟩, ⟨by repeat (first | (with_reducible first | exact HB.out | apply below_alloc | apply pw_below_drewN | apply below_drew1) | exact HB.out)⟩⟩
              case round =>
                clear H'
                try clear c1
                try clear c2
                try clear p2
                try clear c3
                try clear c4
                try clear p4
                try clear q4
                try clear hx4
                try clear qi4
                try clear p6
                try clear c8
                try clear c17
                try clear c17b0
                try clear c17b1
                try clear c18
                try clear c18b0
                try clear c18b1
                try clear c19
                try clear c19b0
                try clear c19b1
                try clear c21
                try clear c22
                try clear c22b0
                try clear c22b1
                try clear c23
                try clear c23b0
                try clear c23b1
                try clear c25
                try clear c27
                try clear c28
                try clear c30
                try clear c31
                try clear c31b0
                try clear c31b1
                try clear c33
                try clear hx451_0
                try clear p2
                try clear p4
                try clear p451
                try clear p6
                try clear q4
                try clear q451
                obtain ⟨x96_3, rfl, HA, HK3, HO_7, HO_94, HB⟩ := hrel
                cases gk with
                | zero => exact absurd HA.out (by simp [pianolalaw09_VaultRestored.l0])
                | succ k3 =>
                  have H := HA.out
                  clear HA
                  simp only [pianolalaw09_VaultRestored.l0] at H
                  by_cases c35 : x96_3 < (t452.length : Int)
                  · rw [if_pos c35] at H
                    have c35b0 : decide (x96_3 < (t452.length : Int)) = true := decide_eq_true c35
                    clear c35
                    by_cases c36 : 0 ≤ x96_3
                    · rw [if_pos c36] at H
                      have c36b0 : decide (0 ≤ x96_3) = true := decide_eq_true c36
                      clear c36
                      by_cases c37 : x96_3 < (t452.length : Int)
                      · rw [if_pos c37] at H
                        have c37b0 : decide (x96_3 < (t452.length : Int)) = true := decide_eq_true c37
                        clear c37
                        replace H := Option.bind_eq_some_iff.mp H
                        obtain ⟨⟨t459, t460⟩, A380, H⟩ := H
                        replace H : (if t460 = 0 then ((pianolalaw09_at.f k3 t436 (wrap64 (x96_3 + 1))).bind fun t461 => (if t459 = t461 then (if (!(((rd_T61 t452 x96_3).f0) == (wrap64 (x96_3 + 1))) || (!(((rd_T61 t452 x96_3).f1) == t459))) = true then (some false) else (pianolalaw09_VaultRestored.l0 k3 t436 t452 (t452.length : Int) (wrap64 (x96_3 + 1)))) else (some false))) else (some false)) = some r := H
                        have A38 := Aside0.mk A380
                        clear A380
                        by_cases c39 : t460 = 0
                        · rw [if_pos c39] at H
                          have c39b0 : (t460 == 0) = true := beq_iff_eq.mpr c39
                          have c39b1 : (t460 != 0) = false := bne_eq_false_iff_eq.mpr c39
                          clear c39
                          replace H := Option.bind_eq_some_iff.mp H
                          obtain ⟨t461, A400, H⟩ := H
                          replace H : (if t459 = t461 then (if (!(((rd_T61 t452 x96_3).f0) == (wrap64 (x96_3 + 1))) || (!(((rd_T61 t452 x96_3).f1) == t459))) = true then (some false) else (pianolalaw09_VaultRestored.l0 k3 t436 t452 (t452.length : Int) (wrap64 (x96_3 + 1)))) else (some false)) = some r := H
                          have A40 := Aside0.mk A400
                          clear A400
                          by_cases c41 : t459 = t461
                          · rw [if_pos c41] at H
                            have c41b0 : (t459 == t461) = true := beq_iff_eq.mpr c41
                            have c41b1 : (t459 != t461) = false := bne_eq_false_iff_eq.mpr c41
                            clear c41
                            by_cases c42 : (!(((rd_T61 t452 x96_3).f0) == (wrap64 (x96_3 + 1))) || (!(((rd_T61 t452 x96_3).f1) == t459))) = true
                            · rw [if_pos c42] at H
                              have c42b0 : (!(((rd_T61 t452 x96_3).f0) == (wrap64 (x96_3 + 1))) || (!(((rd_T61 t452 x96_3).f1) == t459))) = true := c42
                              clear c42
                              obtain rfl := Option.some.inj H
                              have p457 : 0 ≤ (x96_3 : Int) := of_decide_eq_true (by first | (with_reducible assumption) | assumption)
                              have q457 : x96_3 < (t452.length : Int) := of_decide_eq_true (by first | (with_reducible assumption) | assumption)
                              obtain ⟨ad457, e457, hx457_0, hx457_1⟩ := at_T61 (Kd.R_reads' HO_94.out).2.2 x96_3 p457 q457
                              cases e457
                              replace p457 := eq_true p457
                              replace q457 := eq_true q457
                              go_wp2_with (first | ((with_reducible refine gate_dst (N := 18) rfl ?_); (try (refine gate_guard (by rfl) ?_; dsimp only)); refine box_event ?hg (N := 18) ?hd (cs := #[.int .i64 0, .int .i64 0]) (t := 61) ?hr ?_; (case hd => rfl); (case hg => rfl); (case hr => first | (go_simp; done) | (go_simp; rfl)); intro gb458 hg w43 hbox hb; have n0_ := Aside0.mk (Kd.R_below (by (with_reducible repeat (first | apply Kd.R_alloc | apply Kd.R_drewN | apply Kd.R_drew)); exact HO_7.out) hb); have n1_ := Aside0.mk (Kd.R_below (Kd.R_elderB (by (with_reducible repeat (first | apply Kd.R_alloc | apply Kd.R_drewN | apply Kd.R_drew)); exact HO_94.out) gb458 (Nat.le_of_eq hg.symm)) hb); have n2_ := Aside0.mk (below_step (by repeat (first | (with_reducible first | exact HB.out | apply below_alloc | apply pw_below_drewN | apply below_drew1) | exact HB.out)) hb); have n3_ := Aside0.mk (hbox); have n4_ := Aside0.mk ((by rw [hg]; exact (below_size (by repeat (first | (with_reducible first | exact HB.out | apply below_alloc | apply pw_below_drewN | apply below_drew1) | exact HB.out))) : w.heap.size ≤ gb458)); have n5_ := Aside0.mk ((by rw [hg]; exact (below_size (by repeat (first | (with_reducible first | exact HB.out | apply below_alloc | apply pw_below_drewN | apply below_drew1) | exact HB.out))) : w.heap.size ≤ gb458)); clear HO_7; clear HO_94; clear HB; have HO_7 := n0_; have HO_94 := n1_; have HB := n2_; have BK458 := n3_; have GW458 := n4_; have GE458 := n5_; clear n0_ n1_ n2_ n3_ n4_ n5_; clear hb hbox hg; have hcz44_0 : w43.cell? ⟨gb458, 0, none⟩ = some (.int .i64 0) := (blk_cell BK458.out 0).trans rfl; have hcz44_1 : w43.cell? ⟨gb458, 1, none⟩ = some (.int .i64 0) := (blk_cell BK458.out 1).trans rfl; have hfz44_0 := blk_frozen BK458.out 0; have hfz44_1 := blk_frozen BK458.out 1) | ((with_reducible refine gate_callee (f := 18) rfl ?_); refine goesL_ (some 105) rfl rfl Try.func18 (by kernel_rfl) rfl #[.slice Ao11 t436.length co11, .int .i64 (wrap64 (x96_3 + 1))] rfl (by (try simp only [List.map_toArray, List.map_cons, List.map_nil]); first | done | rfl | (simp only [List.length_drop, List.length_take]; rfl)) ?_; (with_reducible refine (vault_Value.calls k3 _ _ t436 (wrap64 (x96_3 + 1)) t459 t460 _ ?side1 ?side2 A38.out).mono ?_); (case side1 => refine (Kd.R_reads' (e := 3) (base := w.heap.size) (ok := fun k_ => True) (n := t436.length) (c := co11) ?_).2.2; exact (by (with_reducible repeat (first | apply Kd.R_alloc | apply Kd.R_drewN | apply Kd.R_drew)); exact (Kd.R_mono (Kd.R_far (p := ⟨gb458, 1, none⟩) (Kd.R_far (p := ⟨gb458, 0, none⟩) (Kd.R_types HO_7.out BK458.out (by decide)) (fun _ hk => hk.2) (.int .i64 ((rd_T61 t452 x96_3).f0))) (fun _ hk => hk.2) (.int .i64 ((rd_T61 t452 x96_3).f1))) (fun _ h_ => h_.1)))); (case side2 => exact (Kd.R_reads' HO_7.out).2.1); rintro e w45 ⟨rfl, hb⟩; refine ⟨_, rfl, ?_⟩; have n0_ := Aside0.mk (Kd.R_below (by (with_reducible repeat (first | apply Kd.R_alloc | apply Kd.R_drewN | apply Kd.R_drew)); exact (Kd.R_mono (Kd.R_far (p := ⟨gb458, 1, none⟩) (Kd.R_far (p := ⟨gb458, 0, none⟩) (Kd.R_types HO_7.out BK458.out (by decide)) (fun _ hk => hk.2) (.int .i64 ((rd_T61 t452 x96_3).f0))) (fun _ hk => hk.2) (.int .i64 ((rd_T61 t452 x96_3).f1))) (fun _ h_ => h_.1))) hb); have n1_ := Aside0.mk (Kd.R_below (by (with_reducible repeat (first | apply Kd.R_alloc | apply Kd.R_drewN | apply Kd.R_drew)); exact (Kd.R_mono (Kd.R_far (p := ⟨gb458, 1, none⟩) (Kd.R_far (p := ⟨gb458, 0, none⟩) (Kd.R_mono HO_94.out (fun k_ hk => (⟨hk, hk.2⟩ : _ ∧ k_ ≠ gb458))) (fun _ hk => hk.2) (.int .i64 ((rd_T61 t452 x96_3).f0))) (fun _ hk => hk.2) (.int .i64 ((rd_T61 t452 x96_3).f1))) (fun _ h_ => h_.1))) hb); have n2_ := Aside0.mk (blk_below (g := gb458) (o := .cells #[.int .i64 ((rd_T61 t452 x96_3).f0), .int .i64 ((rd_T61 t452 x96_3).f1)] 61 (0, 0)) (by (with_reducible repeat (first | refine blk_drewN ?_ _ | refine blk_drew ?_ | refine blk_alloc ?_ _)); refine blk_put (cs := #[.int .i64 ((rd_T61 t452 x96_3).f0), .int .i64 0]) ?_ 1 _ rfl; (with_reducible repeat (first | refine blk_drewN ?_ _ | refine blk_drew ?_ | refine blk_alloc ?_ _)); refine blk_put (cs := #[.int .i64 0, .int .i64 0]) ?_ 0 _ rfl; (with_reducible repeat (first | refine blk_drewN ?_ _ | refine blk_drew ?_ | refine blk_alloc ?_ _)); exact BK458.out) hb); have n3_ := Aside0.mk (below_step (by repeat (first | (with_reducible first | exact HB.out | apply below_alloc | apply pw_below_drewN | apply below_drew1 | refine below_set ?_ GE458.out) | exact HB.out)) hb); clear HO_7; clear HO_94; clear BK458; clear HB; have HO_7 := n0_; have HO_94 := n1_; have BK458 := n2_; have HB := n3_; clear n0_ n1_ n2_ n3_; (try clear hb); (try clear hb2); (try clear hk); (try clear hi)) | (go_at_call 43; (with_reducible refine (pianolalaw09_at.calls k3 _ _ t436 (wrap64 (x96_3 + 1)) t461 _ ?side1 ?side2 A40.out).mono ?_); (case side1 => repeat (first | exact (Kd.R_reads' HO_7.out).2.2 | (with_reducible refine Kd.C_alloc ?_ _) | (with_reducible refine Kd.C_drewN ?_ _) | (with_reducible refine Kd.C_drew ?_))); (case side2 => exact (Kd.R_reads' HO_7.out).2.1); rintro e w' ⟨rfl, ⟨nd, rfl⟩⟩; have hcz46_0 : w45.cell? ⟨gb458, 0, none⟩ = some (.int .i64 ((rd_T61 t452 x96_3).f0)) := (blk_cell BK458.out 0).trans rfl; have hcz46_1 : w45.cell? ⟨gb458, 1, none⟩ = some (.int .i64 ((rd_T61 t452 x96_3).f1)) := (blk_cell BK458.out 1).trans rfl; have hfz46_0 := blk_frozen BK458.out 0; have hfz46_1 := blk_frozen BK458.out 1))
                              go_ret
                              exact ⟨by first | rfl | (simp [errW_none, errW_some] <;> rfl) | (simp [*, errW_none, errW_some] <;> rfl), by repeat (first | (with_reducible first | exact HB.out | apply below_alloc | apply pw_below_drewN | apply below_drew1 | refine below_set ?_ GE458.out) | exact HB.out)⟩
                            · rw [if_neg c42] at H
                              have c42b0 : (!(((rd_T61 t452 x96_3).f0) == (wrap64 (x96_3 + 1))) || (!(((rd_T61 t452 x96_3).f1) == t459))) = false := by simpa using c42
                              clear c42
                              have H' := Aside0.mk H
                              clear H
                              have p457 : 0 ≤ (x96_3 : Int) := of_decide_eq_true (by first | (with_reducible assumption) | assumption)
                              have q457 : x96_3 < (t452.length : Int) := of_decide_eq_true (by first | (with_reducible assumption) | assumption)
                              obtain ⟨ad457, e457, hx457_0, hx457_1⟩ := at_T61 (Kd.R_reads' HO_94.out).2.2 x96_3 p457 q457
                              cases e457
                              replace p457 := eq_true p457
                              replace q457 := eq_true q457
                              go_wp2_with (first | ((with_reducible refine gate_dst (N := 18) rfl ?_); (try (refine gate_guard (by rfl) ?_; dsimp only)); refine box_event ?hg (N := 18) ?hd (cs := #[.int .i64 0, .int .i64 0]) (t := 61) ?hr ?_; (case hd => rfl); (case hg => rfl); (case hr => first | (go_simp; done) | (go_simp; rfl)); intro gb458 hg w47 hbox hb; have n0_ := Aside0.mk (Kd.R_below (by (with_reducible repeat (first | apply Kd.R_alloc | apply Kd.R_drewN | apply Kd.R_drew)); exact HO_7.out) hb); have n1_ := Aside0.mk (Kd.R_below (Kd.R_elderB (by (with_reducible repeat (first | apply Kd.R_alloc | apply Kd.R_drewN | apply Kd.R_drew)); exact HO_94.out) gb458 (Nat.le_of_eq hg.symm)) hb); have n2_ := Aside0.mk (below_step (by repeat (first | (with_reducible first | exact HB.out | apply below_alloc | apply pw_below_drewN | apply below_drew1) | exact HB.out)) hb); have n3_ := Aside0.mk (hbox); have n4_ := Aside0.mk ((by rw [hg]; exact (below_size (by repeat (first | (with_reducible first | exact HB.out | apply below_alloc | apply pw_below_drewN | apply below_drew1) | exact HB.out))) : w.heap.size ≤ gb458)); have n5_ := Aside0.mk ((by rw [hg]; exact (below_size (by repeat (first | (with_reducible first | exact HB.out | apply below_alloc | apply pw_below_drewN | apply below_drew1) | exact HB.out))) : w.heap.size ≤ gb458)); clear HO_7; clear HO_94; clear HB; have HO_7 := n0_; have HO_94 := n1_; have HB := n2_; have BK458 := n3_; have GW458 := n4_; have GE458 := n5_; clear n0_ n1_ n2_ n3_ n4_ n5_; clear hb hbox hg; have hcz48_0 : w47.cell? ⟨gb458, 0, none⟩ = some (.int .i64 0) := (blk_cell BK458.out 0).trans rfl; have hcz48_1 : w47.cell? ⟨gb458, 1, none⟩ = some (.int .i64 0) := (blk_cell BK458.out 1).trans rfl; have hfz48_0 := blk_frozen BK458.out 0; have hfz48_1 := blk_frozen BK458.out 1) | ((with_reducible refine gate_callee (f := 18) rfl ?_); refine goesL_ (some 105) rfl rfl Try.func18 (by kernel_rfl) rfl #[.slice Ao11 t436.length co11, .int .i64 (wrap64 (x96_3 + 1))] rfl (by (try simp only [List.map_toArray, List.map_cons, List.map_nil]); first | done | rfl | (simp only [List.length_drop, List.length_take]; rfl)) ?_; (with_reducible refine (vault_Value.calls k3 _ _ t436 (wrap64 (x96_3 + 1)) t459 t460 _ ?side1 ?side2 A38.out).mono ?_); (case side1 => refine (Kd.R_reads' (e := 3) (base := w.heap.size) (ok := fun k_ => True) (n := t436.length) (c := co11) ?_).2.2; exact (by (with_reducible repeat (first | apply Kd.R_alloc | apply Kd.R_drewN | apply Kd.R_drew)); exact (Kd.R_mono (Kd.R_far (p := ⟨gb458, 1, none⟩) (Kd.R_far (p := ⟨gb458, 0, none⟩) (Kd.R_types HO_7.out BK458.out (by decide)) (fun _ hk => hk.2) (.int .i64 ((rd_T61 t452 x96_3).f0))) (fun _ hk => hk.2) (.int .i64 ((rd_T61 t452 x96_3).f1))) (fun _ h_ => h_.1)))); (case side2 => exact (Kd.R_reads' HO_7.out).2.1); rintro e w49 ⟨rfl, hb⟩; refine ⟨_, rfl, ?_⟩; have n0_ := Aside0.mk (Kd.R_below (by (with_reducible repeat (first | apply Kd.R_alloc | apply Kd.R_drewN | apply Kd.R_drew)); exact (Kd.R_mono (Kd.R_far (p := ⟨gb458, 1, none⟩) (Kd.R_far (p := ⟨gb458, 0, none⟩) (Kd.R_types HO_7.out BK458.out (by decide)) (fun _ hk => hk.2) (.int .i64 ((rd_T61 t452 x96_3).f0))) (fun _ hk => hk.2) (.int .i64 ((rd_T61 t452 x96_3).f1))) (fun _ h_ => h_.1))) hb); have n1_ := Aside0.mk (Kd.R_below (by (with_reducible repeat (first | apply Kd.R_alloc | apply Kd.R_drewN | apply Kd.R_drew)); exact (Kd.R_mono (Kd.R_far (p := ⟨gb458, 1, none⟩) (Kd.R_far (p := ⟨gb458, 0, none⟩) (Kd.R_mono HO_94.out (fun k_ hk => (⟨hk, hk.2⟩ : _ ∧ k_ ≠ gb458))) (fun _ hk => hk.2) (.int .i64 ((rd_T61 t452 x96_3).f0))) (fun _ hk => hk.2) (.int .i64 ((rd_T61 t452 x96_3).f1))) (fun _ h_ => h_.1))) hb); have n2_ := Aside0.mk (blk_below (g := gb458) (o := .cells #[.int .i64 ((rd_T61 t452 x96_3).f0), .int .i64 ((rd_T61 t452 x96_3).f1)] 61 (0, 0)) (by (with_reducible repeat (first | refine blk_drewN ?_ _ | refine blk_drew ?_ | refine blk_alloc ?_ _)); refine blk_put (cs := #[.int .i64 ((rd_T61 t452 x96_3).f0), .int .i64 0]) ?_ 1 _ rfl; (with_reducible repeat (first | refine blk_drewN ?_ _ | refine blk_drew ?_ | refine blk_alloc ?_ _)); refine blk_put (cs := #[.int .i64 0, .int .i64 0]) ?_ 0 _ rfl; (with_reducible repeat (first | refine blk_drewN ?_ _ | refine blk_drew ?_ | refine blk_alloc ?_ _)); exact BK458.out) hb); have n3_ := Aside0.mk (below_step (by repeat (first | (with_reducible first | exact HB.out | apply below_alloc | apply pw_below_drewN | apply below_drew1 | refine below_set ?_ GE458.out) | exact HB.out)) hb); clear HO_7; clear HO_94; clear BK458; clear HB; have HO_7 := n0_; have HO_94 := n1_; have BK458 := n2_; have HB := n3_; clear n0_ n1_ n2_ n3_; (try clear hb); (try clear hb2); (try clear hk); (try clear hi)) | (go_at_call 43; (with_reducible refine (pianolalaw09_at.calls k3 _ _ t436 (wrap64 (x96_3 + 1)) t461 _ ?side1 ?side2 A40.out).mono ?_); (case side1 => repeat (first | exact (Kd.R_reads' HO_7.out).2.2 | (with_reducible refine Kd.C_alloc ?_ _) | (with_reducible refine Kd.C_drewN ?_ _) | (with_reducible refine Kd.C_drew ?_))); (case side2 => exact (Kd.R_reads' HO_7.out).2.1); rintro e w' ⟨rfl, ⟨nd, rfl⟩⟩; have hcz50_0 : w49.cell? ⟨gb458, 0, none⟩ = some (.int .i64 ((rd_T61 t452 x96_3).f0)) := (blk_cell BK458.out 0).trans rfl; have hcz50_1 : w49.cell? ⟨gb458, 1, none⟩ = some (.int .i64 ((rd_T61 t452 x96_3).f1)) := (blk_cell BK458.out 1).trans rfl; have hfz50_0 := blk_frozen BK458.out 0; have hfz50_1 := blk_frozen BK458.out 1))
                              go_roundg k3
                              case measure => have := HJ8.out; have := HJ28.out; have := HK3.out; omega
                              case rel => exact ⟨(wrap64 (x96_3 + 1)), (by first | rfl | (simp; done) | (simp [*]; done)), H', ⟨by have := HJ8.out; have := HJ28.out; have := HK3.out; omega⟩, ⟨by (with_reducible repeat (first | apply Kd.R_alloc | apply Kd.R_drewN | apply Kd.R_drew)); exact HO_7.out⟩, ⟨by (with_reducible repeat (first | apply Kd.R_alloc | apply Kd.R_drewN | apply Kd.R_drew)); exact Kd.R_mono HO_94.out (fun _ hk => trivial)⟩, ⟨by repeat (first | (with_reducible first | exact HB.out | apply below_alloc | apply pw_below_drewN | apply below_drew1 | refine below_set ?_ GE458.out) | exact HB.out)⟩⟩
                          · rw [if_neg c41] at H
                            have c41b0 : (t459 == t461) = false := beq_eq_false_iff_ne.mpr c41
                            have c41b1 : (t459 != t461) = true := bne_iff_ne.mpr c41
                            obtain rfl := Option.some.inj H
                            have p457 : 0 ≤ (x96_3 : Int) := of_decide_eq_true (by first | (with_reducible assumption) | assumption)
                            have q457 : x96_3 < (t452.length : Int) := of_decide_eq_true (by first | (with_reducible assumption) | assumption)
                            obtain ⟨ad457, e457, hx457_0, hx457_1⟩ := at_T61 (Kd.R_reads' HO_94.out).2.2 x96_3 p457 q457
                            cases e457
                            replace p457 := eq_true p457
                            replace q457 := eq_true q457
                            go_wp2_with (first | ((with_reducible refine gate_dst (N := 18) rfl ?_); (try (refine gate_guard (by rfl) ?_; dsimp only)); refine box_event ?hg (N := 18) ?hd (cs := #[.int .i64 0, .int .i64 0]) (t := 61) ?hr ?_; (case hd => rfl); (case hg => rfl); (case hr => first | (go_simp; done) | (go_simp; rfl)); intro gb458 hg w51 hbox hb; have n0_ := Aside0.mk (Kd.R_below (by (with_reducible repeat (first | apply Kd.R_alloc | apply Kd.R_drewN | apply Kd.R_drew)); exact HO_7.out) hb); have n1_ := Aside0.mk (Kd.R_below (Kd.R_elderB (by (with_reducible repeat (first | apply Kd.R_alloc | apply Kd.R_drewN | apply Kd.R_drew)); exact HO_94.out) gb458 (Nat.le_of_eq hg.symm)) hb); have n2_ := Aside0.mk (below_step (by repeat (first | (with_reducible first | exact HB.out | apply below_alloc | apply pw_below_drewN | apply below_drew1) | exact HB.out)) hb); have n3_ := Aside0.mk (hbox); have n4_ := Aside0.mk ((by rw [hg]; exact (below_size (by repeat (first | (with_reducible first | exact HB.out | apply below_alloc | apply pw_below_drewN | apply below_drew1) | exact HB.out))) : w.heap.size ≤ gb458)); have n5_ := Aside0.mk ((by rw [hg]; exact (below_size (by repeat (first | (with_reducible first | exact HB.out | apply below_alloc | apply pw_below_drewN | apply below_drew1) | exact HB.out))) : w.heap.size ≤ gb458)); clear HO_7; clear HO_94; clear HB; have HO_7 := n0_; have HO_94 := n1_; have HB := n2_; have BK458 := n3_; have GW458 := n4_; have GE458 := n5_; clear n0_ n1_ n2_ n3_ n4_ n5_; clear hb hbox hg; have hcz52_0 : w51.cell? ⟨gb458, 0, none⟩ = some (.int .i64 0) := (blk_cell BK458.out 0).trans rfl; have hcz52_1 : w51.cell? ⟨gb458, 1, none⟩ = some (.int .i64 0) := (blk_cell BK458.out 1).trans rfl; have hfz52_0 := blk_frozen BK458.out 0; have hfz52_1 := blk_frozen BK458.out 1) | ((with_reducible refine gate_callee (f := 18) rfl ?_); refine goesL_ (some 105) rfl rfl Try.func18 (by kernel_rfl) rfl #[.slice Ao11 t436.length co11, .int .i64 (wrap64 (x96_3 + 1))] rfl (by (try simp only [List.map_toArray, List.map_cons, List.map_nil]); first | done | rfl | (simp only [List.length_drop, List.length_take]; rfl)) ?_; (with_reducible refine (vault_Value.calls k3 _ _ t436 (wrap64 (x96_3 + 1)) t459 t460 _ ?side1 ?side2 A38.out).mono ?_); (case side1 => refine (Kd.R_reads' (e := 3) (base := w.heap.size) (ok := fun k_ => True) (n := t436.length) (c := co11) ?_).2.2; exact (by (with_reducible repeat (first | apply Kd.R_alloc | apply Kd.R_drewN | apply Kd.R_drew)); exact (Kd.R_mono (Kd.R_far (p := ⟨gb458, 1, none⟩) (Kd.R_far (p := ⟨gb458, 0, none⟩) (Kd.R_types HO_7.out BK458.out (by decide)) (fun _ hk => hk.2) (.int .i64 ((rd_T61 t452 x96_3).f0))) (fun _ hk => hk.2) (.int .i64 ((rd_T61 t452 x96_3).f1))) (fun _ h_ => h_.1)))); (case side2 => exact (Kd.R_reads' HO_7.out).2.1); rintro e w53 ⟨rfl, hb⟩; refine ⟨_, rfl, ?_⟩; have n0_ := Aside0.mk (Kd.R_below (by (with_reducible repeat (first | apply Kd.R_alloc | apply Kd.R_drewN | apply Kd.R_drew)); exact (Kd.R_mono (Kd.R_far (p := ⟨gb458, 1, none⟩) (Kd.R_far (p := ⟨gb458, 0, none⟩) (Kd.R_types HO_7.out BK458.out (by decide)) (fun _ hk => hk.2) (.int .i64 ((rd_T61 t452 x96_3).f0))) (fun _ hk => hk.2) (.int .i64 ((rd_T61 t452 x96_3).f1))) (fun _ h_ => h_.1))) hb); have n1_ := Aside0.mk (Kd.R_below (by (with_reducible repeat (first | apply Kd.R_alloc | apply Kd.R_drewN | apply Kd.R_drew)); exact (Kd.R_mono (Kd.R_far (p := ⟨gb458, 1, none⟩) (Kd.R_far (p := ⟨gb458, 0, none⟩) (Kd.R_mono HO_94.out (fun k_ hk => (⟨hk, hk.2⟩ : _ ∧ k_ ≠ gb458))) (fun _ hk => hk.2) (.int .i64 ((rd_T61 t452 x96_3).f0))) (fun _ hk => hk.2) (.int .i64 ((rd_T61 t452 x96_3).f1))) (fun _ h_ => h_.1))) hb); have n2_ := Aside0.mk (blk_below (g := gb458) (o := .cells #[.int .i64 ((rd_T61 t452 x96_3).f0), .int .i64 ((rd_T61 t452 x96_3).f1)] 61 (0, 0)) (by (with_reducible repeat (first | refine blk_drewN ?_ _ | refine blk_drew ?_ | refine blk_alloc ?_ _)); refine blk_put (cs := #[.int .i64 ((rd_T61 t452 x96_3).f0), .int .i64 0]) ?_ 1 _ rfl; (with_reducible repeat (first | refine blk_drewN ?_ _ | refine blk_drew ?_ | refine blk_alloc ?_ _)); refine blk_put (cs := #[.int .i64 0, .int .i64 0]) ?_ 0 _ rfl; (with_reducible repeat (first | refine blk_drewN ?_ _ | refine blk_drew ?_ | refine blk_alloc ?_ _)); exact BK458.out) hb); have n3_ := Aside0.mk (below_step (by repeat (first | (with_reducible first | exact HB.out | apply below_alloc | apply pw_below_drewN | apply below_drew1 | refine below_set ?_ GE458.out) | exact HB.out)) hb); clear HO_7; clear HO_94; clear BK458; clear HB; have HO_7 := n0_; have HO_94 := n1_; have BK458 := n2_; have HB := n3_; clear n0_ n1_ n2_ n3_; (try clear hb); (try clear hb2); (try clear hk); (try clear hi)) | (go_at_call 43; (with_reducible refine (pianolalaw09_at.calls k3 _ _ t436 (wrap64 (x96_3 + 1)) t461 _ ?side1 ?side2 A40.out).mono ?_); (case side1 => repeat (first | exact (Kd.R_reads' HO_7.out).2.2 | (with_reducible refine Kd.C_alloc ?_ _) | (with_reducible refine Kd.C_drewN ?_ _) | (with_reducible refine Kd.C_drew ?_))); (case side2 => exact (Kd.R_reads' HO_7.out).2.1); rintro e w' ⟨rfl, ⟨nd, rfl⟩⟩))
                            go_ret
                            exact ⟨by first | rfl | (simp [errW_none, errW_some] <;> rfl) | (simp [*, errW_none, errW_some] <;> rfl), by repeat (first | (with_reducible first | exact HB.out | apply below_alloc | apply pw_below_drewN | apply below_drew1 | refine below_set ?_ GE458.out) | exact HB.out)⟩
                        · rw [if_neg c39] at H
                          have c39b0 : (t460 == 0) = false := beq_eq_false_iff_ne.mpr c39
                          have c39b1 : (t460 != 0) = true := bne_iff_ne.mpr c39
                          obtain rfl := Option.some.inj H
                          have p457 : 0 ≤ (x96_3 : Int) := of_decide_eq_true (by first | (with_reducible assumption) | assumption)
                          have q457 : x96_3 < (t452.length : Int) := of_decide_eq_true (by first | (with_reducible assumption) | assumption)
                          obtain ⟨ad457, e457, hx457_0, hx457_1⟩ := at_T61 (Kd.R_reads' HO_94.out).2.2 x96_3 p457 q457
                          cases e457
                          replace p457 := eq_true p457
                          replace q457 := eq_true q457
                          go_wp2_with (first | ((with_reducible refine gate_dst (N := 18) rfl ?_); (try (refine gate_guard (by rfl) ?_; dsimp only)); refine box_event ?hg (N := 18) ?hd (cs := #[.int .i64 0, .int .i64 0]) (t := 61) ?hr ?_; (case hd => rfl); (case hg => rfl); (case hr => first | (go_simp; done) | (go_simp; rfl)); intro gb458 hg w54 hbox hb; have n0_ := Aside0.mk (Kd.R_below (by (with_reducible repeat (first | apply Kd.R_alloc | apply Kd.R_drewN | apply Kd.R_drew)); exact HO_7.out) hb); have n1_ := Aside0.mk (Kd.R_below (Kd.R_elderB (by (with_reducible repeat (first | apply Kd.R_alloc | apply Kd.R_drewN | apply Kd.R_drew)); exact HO_94.out) gb458 (Nat.le_of_eq hg.symm)) hb); have n2_ := Aside0.mk (below_step (by repeat (first | (with_reducible first | exact HB.out | apply below_alloc | apply pw_below_drewN | apply below_drew1) | exact HB.out)) hb); have n3_ := Aside0.mk (hbox); have n4_ := Aside0.mk ((by rw [hg]; exact (below_size (by repeat (first | (with_reducible first | exact HB.out | apply below_alloc | apply pw_below_drewN | apply below_drew1) | exact HB.out))) : w.heap.size ≤ gb458)); have n5_ := Aside0.mk ((by rw [hg]; exact (below_size (by repeat (first | (with_reducible first | exact HB.out | apply below_alloc | apply pw_below_drewN | apply below_drew1) | exact HB.out))) : w.heap.size ≤ gb458)); clear HO_7; clear HO_94; clear HB; have HO_7 := n0_; have HO_94 := n1_; have HB := n2_; have BK458 := n3_; have GW458 := n4_; have GE458 := n5_; clear n0_ n1_ n2_ n3_ n4_ n5_; clear hb hbox hg; have hcz55_0 : w54.cell? ⟨gb458, 0, none⟩ = some (.int .i64 0) := (blk_cell BK458.out 0).trans rfl; have hcz55_1 : w54.cell? ⟨gb458, 1, none⟩ = some (.int .i64 0) := (blk_cell BK458.out 1).trans rfl; have hfz55_0 := blk_frozen BK458.out 0; have hfz55_1 := blk_frozen BK458.out 1) | ((with_reducible refine gate_callee (f := 18) rfl ?_); refine goesL_ (some 105) rfl rfl Try.func18 (by kernel_rfl) rfl #[.slice Ao11 t436.length co11, .int .i64 (wrap64 (x96_3 + 1))] rfl (by (try simp only [List.map_toArray, List.map_cons, List.map_nil]); first | done | rfl | (simp only [List.length_drop, List.length_take]; rfl)) ?_; (with_reducible refine (vault_Value.calls k3 _ _ t436 (wrap64 (x96_3 + 1)) t459 t460 _ ?side1 ?side2 A38.out).mono ?_); (case side1 => refine (Kd.R_reads' (e := 3) (base := w.heap.size) (ok := fun k_ => True) (n := t436.length) (c := co11) ?_).2.2; exact (by (with_reducible repeat (first | apply Kd.R_alloc | apply Kd.R_drewN | apply Kd.R_drew)); exact (Kd.R_mono (Kd.R_far (p := ⟨gb458, 1, none⟩) (Kd.R_far (p := ⟨gb458, 0, none⟩) (Kd.R_types HO_7.out BK458.out (by decide)) (fun _ hk => hk.2) (.int .i64 ((rd_T61 t452 x96_3).f0))) (fun _ hk => hk.2) (.int .i64 ((rd_T61 t452 x96_3).f1))) (fun _ h_ => h_.1)))); (case side2 => exact (Kd.R_reads' HO_7.out).2.1); rintro e w56 ⟨rfl, hb⟩; refine ⟨_, rfl, ?_⟩; have n0_ := Aside0.mk (Kd.R_below (by (with_reducible repeat (first | apply Kd.R_alloc | apply Kd.R_drewN | apply Kd.R_drew)); exact (Kd.R_mono (Kd.R_far (p := ⟨gb458, 1, none⟩) (Kd.R_far (p := ⟨gb458, 0, none⟩) (Kd.R_types HO_7.out BK458.out (by decide)) (fun _ hk => hk.2) (.int .i64 ((rd_T61 t452 x96_3).f0))) (fun _ hk => hk.2) (.int .i64 ((rd_T61 t452 x96_3).f1))) (fun _ h_ => h_.1))) hb); have n1_ := Aside0.mk (Kd.R_below (by (with_reducible repeat (first | apply Kd.R_alloc | apply Kd.R_drewN | apply Kd.R_drew)); exact (Kd.R_mono (Kd.R_far (p := ⟨gb458, 1, none⟩) (Kd.R_far (p := ⟨gb458, 0, none⟩) (Kd.R_mono HO_94.out (fun k_ hk => (⟨hk, hk.2⟩ : _ ∧ k_ ≠ gb458))) (fun _ hk => hk.2) (.int .i64 ((rd_T61 t452 x96_3).f0))) (fun _ hk => hk.2) (.int .i64 ((rd_T61 t452 x96_3).f1))) (fun _ h_ => h_.1))) hb); have n2_ := Aside0.mk (blk_below (g := gb458) (o := .cells #[.int .i64 ((rd_T61 t452 x96_3).f0), .int .i64 ((rd_T61 t452 x96_3).f1)] 61 (0, 0)) (by (with_reducible repeat (first | refine blk_drewN ?_ _ | refine blk_drew ?_ | refine blk_alloc ?_ _)); refine blk_put (cs := #[.int .i64 ((rd_T61 t452 x96_3).f0), .int .i64 0]) ?_ 1 _ rfl; (with_reducible repeat (first | refine blk_drewN ?_ _ | refine blk_drew ?_ | refine blk_alloc ?_ _)); refine blk_put (cs := #[.int .i64 0, .int .i64 0]) ?_ 0 _ rfl; (with_reducible repeat (first | refine blk_drewN ?_ _ | refine blk_drew ?_ | refine blk_alloc ?_ _)); exact BK458.out) hb); have n3_ := Aside0.mk (below_step (by repeat (first | (with_reducible first | exact HB.out | apply below_alloc | apply pw_below_drewN | apply below_drew1 | refine below_set ?_ GE458.out) | exact HB.out)) hb); clear HO_7; clear HO_94; clear BK458; clear HB; have HO_7 := n0_; have HO_94 := n1_; have BK458 := n2_; have HB := n3_; clear n0_ n1_ n2_ n3_; (try clear hb); (try clear hb2); (try clear hk); (try clear hi)))
                          go_ret
                          exact ⟨by first | rfl | (simp [errW_none, errW_some] <;> rfl) | (simp [*, errW_none, errW_some] <;> rfl), by repeat (first | (with_reducible first | exact HB.out | apply below_alloc | apply pw_below_drewN | apply below_drew1 | refine below_set ?_ GE458.out) | exact HB.out)⟩
                      · rw [if_neg c37] at H
                        exact absurd H (by simp)
                    · rw [if_neg c36] at H
                      exact absurd H (by simp)
                  · rw [if_neg c35] at H
                    have c35b0 : decide (x96_3 < (t452.length : Int)) = false := decide_eq_false c35
                    clear c35
                    replace H := Option.bind_eq_some_iff.mp H
                    obtain ⟨t456, A570, H⟩ := H
                    replace H : (some t456) = some r := H
                    have A57 := Aside0.mk A570
                    clear A570
                    obtain rfl := Option.some.inj H
                    go_wp2_with (first | ((with_reducible refine gate_callee (f := 17) rfl ?_); refine goesL_ (some 127) rfl rfl Try.func17 (by kernel_rfl) rfl #[] rfl (by (try simp only [List.map_toArray, List.map_cons, List.map_nil]); first | done | rfl | (simp only [List.length_drop, List.length_take]; rfl)) ?_; (with_reducible refine (pianolalaw09_works.calls  t456 _ A57.out).mono ?_); rintro e w58 ⟨rfl, hb⟩; refine ⟨_, rfl, ?_⟩; have n0_ := Aside0.mk (Kd.R_below (by (with_reducible repeat (first | apply Kd.R_alloc | apply Kd.R_drewN | apply Kd.R_drew)); exact HO_7.out) hb); have n1_ := Aside0.mk (Kd.R_below (by (with_reducible repeat (first | apply Kd.R_alloc | apply Kd.R_drewN | apply Kd.R_drew)); exact HO_94.out) hb); have n2_ := Aside0.mk (below_step (by repeat (first | (with_reducible first | exact HB.out | apply below_alloc | apply pw_below_drewN | apply below_drew1) | exact HB.out)) hb); clear HO_7; clear HO_94; clear HB; have HO_7 := n0_; have HO_94 := n1_; have HB := n2_; clear n0_ n1_ n2_; (try clear hb); (try clear hb2); (try clear hk); (try clear hi)))
                    go_ret
                    exact ⟨by first | rfl | (simp [errW_none, errW_some] <;> rfl) | (simp [*, errW_none, errW_some] <;> rfl), by repeat (first | (with_reducible first | exact HB.out | apply below_alloc | apply pw_below_drewN | apply below_drew1) | exact HB.out)⟩
def pianolalaw09_VaultRestored.Pure : Prop := ∀ (l0 : List Int) (l1 : List Int) (a2 : Int), l0.length ≤ maxLen → l0.length * 1 ≤ 140737488351232 → (∀ x ∈ l0, (Lit.int .u8 x).wf = true) → l1.length ≤ maxLen → l1.length * 1 ≤ 140737488351232 → (∀ x ∈ l1, (Lit.int .u8 x).wf = true) → (Lit.int .u8 a2).wf = true → ∃ k, pianolalaw09_VaultRestored.f k l0 l1 a2 = some true
theorem pianolalaw09_VaultRestored.walk (P : pianolalaw09_VaultRestored.Pure) (a0 : Option Addr) (len0 cap0 : Nat) (z0 : List Int) (a1 : Option Addr) (len1 cap1 : Nat) (z1 : List Int) (a2 : Int) (w : World) (w0 : (a0 = none ∧ len0 = 0 ∧ cap0 = 0 ∧ z0 = []) ∨ ∃ x, a0 = some x ∧ len0 ≤ cap0 ∧ cap0 ≤ maxLen ∧ z0.length = cap0 ∧ (∀ i, i < z0.length → w.cell? (x.add i) = some (.int .u8 (z0.getD i 0))) ∧ ∀ n ∈ z0, (Lit.int .u8 n).wf = true) (y0 : len0 * 1 ≤ 140737488351232) (w1 : (a1 = none ∧ len1 = 0 ∧ cap1 = 0 ∧ z1 = []) ∨ ∃ x, a1 = some x ∧ len1 ≤ cap1 ∧ cap1 ≤ maxLen ∧ z1.length = cap1 ∧ (∀ i, i < z1.length → w.cell? (x.add i) = some (.int .u8 (z1.getD i 0))) ∧ ∀ n ∈ z1, (Lit.int .u8 n).wf = true) (y1 : len1 * 1 ≤ 140737488351232) (w2 : (Lit.int .u8 a2).wf = true) :
    Calls Try.prog 8 #[.slice a0 len0 cap0, .slice a1 len1 cap1, .int .u8 a2] w fun e w' => e = .returned (.bool true) ∧ Below w.heap.size w w' := by
  obtain ⟨l0, rfl, hr0, hm0, hw0, hc0⟩ := ReadsInt.ofRowC w0
  obtain ⟨l1, rfl, hr1, hm1, hw1, hc1⟩ := ReadsInt.ofRowC w1
  obtain ⟨k, h⟩ := P l0 l1 a2 hm0 y0 hw0 hm1 y1 hw1 w2
  refine (pianolalaw09_VaultRestored.calls k _ _ l0 _ _ l1 a2 true w (Kd.C_of_reads (d := (0 : Int)) (h1 := fun _ => rfl) hr0) hc0 (Kd.C_of_reads (d := (0 : Int)) (h1 := fun _ => rfl) hr1) hc1 h).mono ?_
  rintro e w' ⟨rfl, hd⟩
  exact ⟨rfl, hd⟩
end Go.Proofs.Ytpfkfbbekfkcgaa.P
end
section
namespace Go.Proofs.Ytpfkfbbekfkcgaa.P
set_option linter.unusedVariables false
set_option linter.unusedSimpArgs false
abbrev K251 := Fin 251
def fk (a : Int) : K251 := ⟨(a % 251).toNat, by omega⟩
theorem fk_val (a : Int) : ((fk a).val : Int) = a % 251 := by
  show (((a % 251).toNat : Nat) : Int) = _
  omega
theorem fk_eq {a b : Int} : fk a = fk b ↔ a % 251 = b % 251 := by
  constructor
  · intro h
    rw [← fk_val, ← fk_val, h]
  · intro h
    apply Fin.ext
    have := fk_val a
    have := fk_val b
    omega
theorem fk_of {k : K251} {a : Int} (h : (k.val : Int) = a % 251) : fk a = k := by
  apply Fin.ext
  have := fk_val a
  omega
theorem fk_mod (a : Int) : fk (a % 251) = fk a := fk_eq.2 (by omega)
theorem fk_add (a b : Int) : fk (a + b) = fk a + fk b := by
  apply fk_of
  have h1 := fk_val a
  have h2 := fk_val b
  rw [Fin.val_add]
  omega
theorem fk_sub (a b : Int) : fk (a - b) = fk a - fk b := by
  apply fk_of
  have h1 := fk_val a
  have h2 := fk_val b
  have h3 := (fk b).isLt
  rw [Fin.val_sub]
  omega
theorem fk_mul (a b : Int) : fk (a * b) = fk a * fk b := by
  apply fk_of
  have h1 := fk_val a
  have h2 := fk_val b
  rw [Fin.val_mul]
  rw [Int.mul_emod, ← h1, ← h2]
  simp
theorem fk_zero : fk 0 = 0 := rfl
theorem fk_one : fk 1 = 1 := rfl
theorem fk_inj {a b : Int} (a0 : 0 ≤ a) (a1 : a ≤ 250) (b0 : 0 ≤ b) (b1 : b ≤ 250) (h : fk a = fk b) : a = b := by
  have := fk_eq.1 h
  omega
def iF (a : K251) : K251 := a ^ 249
theorem inv_ex : ∀ a : K251, a ≠ 0 → a * iF a = 1 := by decide +kernel
theorem mul_zero' {a b : K251} (h : a * b = 0) (ha : a ≠ 0) : b = 0 := by
  have h1 := inv_ex a ha
  grind
def eF : List K251 → K251 → K251
  | [], _ => 0
  | a :: l, x => a + x * eF l x
def dv : List K251 → K251 → List K251
  | [], _ => []
  | [_], _ => []
  | _ :: b :: l, r => eF (b :: l) r :: dv (b :: l) r
theorem dv_len : ∀ (l : List K251) (r : K251), (dv l r).length = l.length - 1
  | [], _ => rfl
  | [_], _ => rfl
  | _ :: b :: l, r => by
    have := dv_len (b :: l) r
    simp only [dv, List.length_cons] at this ⊢
    omega
theorem dv_eF : ∀ (l : List K251) (r x : K251), eF l x - eF l r = (x - r) * eF (dv l r) x
  | [], r, x => by simp only [eF, dv]; grind
  | [a], r, x => by simp only [eF, dv]; grind
  | a :: b :: l, r, x => by
    have ih := dv_eF (b :: l) r x
    have e1 : eF (a :: b :: l) x = a + x * eF (b :: l) x := rfl
    have e2 : eF (a :: b :: l) r = a + r * eF (b :: l) r := rfl
    have e3 : eF (dv (a :: b :: l) r) x = eF (b :: l) r + x * eF (dv (b :: l) r) x := rfl
    rw [e1, e2, e3]
    grind
theorem dv_zero : ∀ (l : List K251) (r : K251), (∀ c ∈ dv l r, c = 0) → eF l r = 0 → ∀ c ∈ l, c = 0
  | [], _, _, _ => fun _ h => by cases h
  | [a], r, _, h => fun c hc => by
    simp only [eF] at h
    rw [List.mem_singleton] at hc
    subst hc
    grind
  | a :: b :: l, r, hd, h => fun c hc => by
    have h1 : eF (b :: l) r = 0 := hd _ (by simp [dv])
    have h2 := dv_zero (b :: l) r (fun c hc => hd c (by simp only [dv, List.mem_cons]; exact .inr hc)) h1
    have e2 : eF (a :: b :: l) r = a + r * eF (b :: l) r := rfl
    rw [e2, h1] at h
    cases hc with
    | head => grind
    | tail _ hc => exact h2 c hc
theorem roots : ∀ (n : Nat) (l xs : List K251), l.length = n → n ≤ xs.length → xs.Nodup → (∀ x ∈ xs, eF l x = 0) → ∀ c ∈ l, c = 0
  | 0, l, _, hl, _, _, _ => by
    rw [List.length_eq_zero_iff] at hl
    subst hl
    exact fun _ h => by cases h
  | n + 1, l, [], _, hx, _, _ => by simp at hx
  | n + 1, l, r :: ys, hl, hx, hd, hr => by
    rw [List.nodup_cons] at hd
    have h0 := hr r (by simp)
    refine dv_zero l r ?_ h0
    refine roots n (dv l r) ys (by rw [dv_len]; omega) (by simpa using hx) hd.2 (fun y hy => ?_)
    have h1 := hr y (by simp [hy])
    have h2 := dv_eF l r y
    rw [h0, h1] at h2
    refine mul_zero' (a := y - r) (by rw [← h2]; grind) (fun e => hd.1 ?_)
    have : y = r := by grind
    rw [← this]; exact hy
def subL (l m : List K251) : List K251 := List.zipWith (· - ·) l m
theorem eF_sub : ∀ (l m : List K251) (x : K251), l.length = m.length → eF (subL l m) x = eF l x - eF m x
  | [], [], x, _ => by simp only [subL, List.zipWith_nil_left, eF]; grind
  | a :: l, b :: m, x, h => by
    have ih := eF_sub l m x (by simpa using h)
    simp only [subL, List.zipWith_cons_cons, eF] at ih ⊢
    rw [ih]
    grind
  | [], _ :: _, _, h => by simp at h
  | _ :: _, [], _, h => by simp at h
theorem subL_zero : ∀ (l m : List K251), l.length = m.length → (∀ c ∈ subL l m, c = 0) → l = m
  | [], [], _, _ => rfl
  | a :: l, b :: m, h, hz => by
    have h1 : a - b = 0 := hz _ (by simp [subL])
    have h2 := subL_zero l m (by simpa using h) (fun c hc => hz c (by simp only [subL, List.zipWith_cons_cons, List.mem_cons] at hc ⊢; exact .inr hc))
    rw [h2, show a = b by grind]
  | [], _ :: _, h, _ => by simp at h
  | _ :: _, [], h, _ => by simp at h
theorem uniqueF (l m xs : List K251) (h : l.length = m.length) (hx : l.length ≤ xs.length) (hd : xs.Nodup) (he : ∀ x ∈ xs, eF l x = eF m x) : l = m := by
  refine subL_zero l m h (roots l.length _ xs (by simp [subL, h]) hx hd (fun x hx => ?_))
  rw [eF_sub _ _ _ h, he x hx]
  grind
end Go.Proofs.Ytpfkfbbekfkcgaa.P
end
section
namespace Go.Proofs.Ytpfkfbbekfkcgaa.P
open Go.RowKit Go.Proofs.YtpfkfbbekfkcgaaW.PrintWords Go.Proofs.YtpfkfbbekfkcgaaW.PrintLast Go.Proofs.YtpfkfbbekfkcgaaW.PrintMore
set_option linter.unusedVariables false
set_option linter.unusedSimpArgs false
theorem inv_all' : ∀ n : Fin 251, fk (inv (n.val : Int)) = iF n := by decide +kernel
theorem fk_inv {a : Int} (ha : F251 a) : fk (inv a) = iF (fk a) := by
  obtain ⟨a0, a1⟩ := ha
  have h := inv_all' ⟨a.toNat, by omega⟩
  have e : ((⟨a.toNat, by omega⟩ : Fin 251).val : Int) = a := by simp [Int.toNat_of_nonneg a0]
  rw [e] at h
  rw [h]
  congr 1
  exact (fk_of (by simp; omega)).symm
theorem fk_ev (p : List Int) (x : Int) : fk (ev p x) = eF (p.map fk) (fk x) := by
  induction p with
  | nil => rfl
  | cons c p ih =>
    show fk (((ev p x * x) % 251 + c) % 251) = fk c + fk x * eF (p.map fk) (fk x)
    rw [fk_mod, fk_add, fk_mod, fk_mul, ih]
    grind
def facF (x : K251) (a b : S61) : K251 := if a.f0 = b.f0 then 1 else (x - fk b.f0) * iF (fk a.f0 - fk b.f0)
def prodF (x : K251) (a : S61) (l : List S61) : K251 := l.foldr (fun b p => facF x a b * p) 1
def sumF (f : S61 → K251) (l : List S61) : K251 := l.foldr (fun a v => f a + v) 0
theorem fk_part_from (x : Int) (a : S61) : ∀ (l : List S61) (p : Int), fk (l.foldl (factor x a) p) = fk p * prodF (fk x) a l
  | [], p => by show fk p = fk p * 1; grind
  | b :: l, p => by
    have e : fk (factor x a p b) = fk p * facF (fk x) a b := by
      unfold factor facF
      split
      · grind
      · rw [fk_mod, fk_mul, fk_mod, fk_mul, fk_mod, fk_sub, fk_inv (mod_in _), fk_mod, fk_sub]
        grind
    rw [List.foldl_cons, fk_part_from x a l, e]
    show _ = fk p * (facF (fk x) a b * prodF (fk x) a l)
    grind
theorem fk_part (x : Int) (l : List S61) (a : S61) : fk (part x l a) = fk a.f1 * prodF (fk x) a l := by
  unfold part
  rw [fk_part_from, fk_mod]
theorem fk_lag_from (x : Int) (m : List S61) : ∀ (l : List S61) (v : Int), fk (l.foldl (fun v a => (v + part x m a) % 251) v) = fk v + sumF (fun a => fk a.f1 * prodF (fk x) a m) l
  | [], v => by show fk v = fk v + 0; grind
  | a :: l, v => by
    rw [List.foldl_cons, fk_lag_from x m l, fk_mod, fk_add, fk_part]
    show _ = fk v + (fk a.f1 * prodF (fk x) a m + sumF _ l)
    grind
def lagF (l : List S61) (x : K251) : K251 := sumF (fun a => fk a.f1 * prodF x a l) l
theorem fk_lag (l : List S61) (x : Int) : fk (lag l x) = lagF l (fk x) := by
  unfold lag
  rw [fk_lag_from, fk_zero]
  show 0 + lagF l (fk x) = _
  grind
theorem lag_in (l : List S61) (x : Int) : F251 (lag l x) := by
  unfold lag
  refine snoc_ind (P := fun m => F251 (m.foldl (fun v a => (v + part x l a) % 251) 0)) ?_ ?_ l
  · exact ⟨Int.le_refl _, by show (0 : Int) ≤ 250; decide⟩
  · intro m a _
    rw [List.foldl_append]
    exact mod_in _
structure KD (l : List S61) : Prop where
  nd : (l.map S61.f0).Nodup
  k : ∀ s ∈ l, F251 s.f0
  v : ∀ s ∈ l, F251 s.f1
theorem fk_ne {a b : Int} (ha : F251 a) (hb : F251 b) (h : a ≠ b) : fk a ≠ fk b := fun e => h (fk_inj ha.1 ha.2 hb.1 hb.2 e)
theorem KD.sub {l m : List S61} (h : KD l) (p : m.Sublist l) : KD m :=
  ⟨h.nd.sublist (p.map _), fun s hs => h.k s (p.subset hs), fun s hs => h.v s (p.subset hs)⟩
def places (l : List S61) : List K251 := l.map fun s => fk s.f0
theorem nodup_map {α β : Type} {f : α → β} : ∀ {l : List α}, l.Nodup → (∀ a ∈ l, ∀ b ∈ l, f a = f b → a = b) → (l.map f).Nodup
  | [], _, _ => List.nodup_nil
  | a :: l, h, hi => by
    rw [List.nodup_cons] at h
    rw [List.map_cons, List.nodup_cons]
    refine ⟨fun hm => ?_, nodup_map h.2 (fun x hx y hy => hi x (List.mem_cons_of_mem _ hx) y (List.mem_cons_of_mem _ hy))⟩
    obtain ⟨b, hb, e⟩ := List.mem_map.1 hm
    have := hi b (List.mem_cons_of_mem _ hb) a (List.mem_cons_self ..) e
    exact h.1 (this ▸ hb)
theorem places_nd {l : List S61} (h : KD l) : (places l).Nodup := by
  have e : places l = (l.map S61.f0).map fk := by simp [places]
  rw [e]
  refine nodup_map h.nd (fun a ha b hb e => ?_)
  obtain ⟨s, hs, rfl⟩ := List.mem_map.1 ha
  obtain ⟨t, ht, rfl⟩ := List.mem_map.1 hb
  have h1 := h.k s hs
  have h2 := h.k t ht
  exact fk_inj h1.1 h1.2 h2.1 h2.2 e
theorem prodF_zero {x : K251} {a b : S61} : ∀ {l : List S61}, b ∈ l → a.f0 ≠ b.f0 → x = fk b.f0 → prodF x a l = 0
  | c :: l, hb, hne, hx => by
    show facF x a c * prodF x a l = 0
    cases hb with
    | head =>
      unfold facF
      rw [if_neg hne, hx]
      grind
    | tail _ hb =>
      rw [prodF_zero hb hne hx]
      grind
theorem prodF_one (a : S61) : ∀ (l : List S61), (∀ s ∈ l, F251 s.f0) → F251 a.f0 → prodF (fk a.f0) a l = 1
  | [], _, _ => rfl
  | b :: l, hl, ha => by
    show facF _ a b * prodF _ a l = 1
    rw [prodF_one a l (fun s hs => hl s (List.mem_cons_of_mem _ hs)) ha]
    unfold facF
    split
    · grind
    · rename_i hne
      have h1 := fk_ne ha (hl b (List.mem_cons_self ..)) hne
      have h2 := inv_ex (fk a.f0 - fk b.f0) (fun e => h1 (by grind))
      rw [h2]
      grind
theorem sumF_one {f : S61 → K251} {a : S61} : ∀ {l : List S61}, (l.map S61.f0).Nodup → a ∈ l → (∀ b ∈ l, b.f0 ≠ a.f0 → f b = 0) → sumF f l = f a
  | b :: l, hn, ha, hz => by
    show f b + sumF f l = f a
    rw [List.map_cons, List.nodup_cons] at hn
    cases ha with
    | head =>
      have : sumF f l = 0 := by
        have : ∀ m : List S61, (∀ c ∈ m, f c = 0) → sumF f m = 0 := by
          intro m
          induction m with
          | nil => exact fun _ => rfl
          | cons c m ih =>
            intro h
            show f c + sumF f m = 0
            rw [h c (List.mem_cons_self ..), ih (fun d hd => h d (List.mem_cons_of_mem _ hd))]
            grind
        exact this l (fun c hc => hz c (List.mem_cons_of_mem _ hc) (fun e => hn.1 (e ▸ List.mem_map_of_mem hc)))
      rw [this]
      grind
    | tail _ ha =>
      have h1 : b.f0 ≠ a.f0 := fun e => hn.1 (e ▸ List.mem_map_of_mem ha)
      rw [hz b (List.mem_cons_self ..) h1, sumF_one hn.2 ha (fun c hc => hz c (List.mem_cons_of_mem _ hc))]
      grind
theorem lagF_at {l : List S61} (h : KD l) {a : S61} (ha : a ∈ l) : lagF l (fk a.f0) = fk a.f1 := by
  unfold lagF
  rw [sumF_one h.nd ha (fun b hb hne => by rw [prodF_zero ha hne rfl]; grind), prodF_one a l h.k (h.k a ha)]
  grind
def mulC (k d : K251) : K251 → List K251 → List K251
  | c, [] => [c * d]
  | c, b :: q => (c - b * k) * d :: mulC k d b q
theorem mulC_len (k d : K251) : ∀ (c : K251) (q : List K251), (mulC k d c q).length = q.length + 1
  | _, [] => rfl
  | _, b :: q => by simp [mulC, mulC_len k d b q]
theorem mulC_eF (k d x : K251) : ∀ (c : K251) (q : List K251), eF (mulC k d c q) x = d * (c + (x - k) * eF q x)
  | c, [] => by simp only [mulC, eF]; grind
  | c, b :: q => by
    simp only [mulC, eF]
    rw [mulC_eF k d x b q]
    grind
def addL : List K251 → List K251 → List K251
  | [], m => m
  | l, [] => l
  | a :: l, b :: m => (a + b) :: addL l m
theorem addL_len : ∀ (l m : List K251), (addL l m).length = max l.length m.length
  | [], m => by simp [addL]
  | a :: l, [] => by simp [addL]
  | a :: l, b :: m => by simp [addL, addL_len l m]
theorem addL_eF (x : K251) : ∀ (l m : List K251), eF (addL l m) x = eF l x + eF m x
  | [], m => by simp only [addL, eF]; grind
  | a :: l, [] => by simp only [addL, eF]; grind
  | a :: l, b :: m => by
    simp only [addL, eF]
    rw [addL_eF x l m]
    grind
def oneL (a : S61) : List S61 → List K251
  | [] => [1]
  | b :: l => if a.f0 = b.f0 then oneL a l else mulC (fk b.f0) (iF (fk a.f0 - fk b.f0)) 0 (oneL a l)
theorem oneL_eF (x : K251) (a : S61) : ∀ (l : List S61), eF (oneL a l) x = prodF x a l
  | [] => by simp only [oneL, eF]; show _ = (1 : K251); grind
  | b :: l => by
    have ih := oneL_eF x a l
    show _ = facF x a b * prodF x a l
    unfold oneL facF
    split
    · rw [ih]; grind
    · rw [mulC_eF, ih]; grind
theorem oneL_le (a : S61) : ∀ (l : List S61), (oneL a l).length ≤ l.length + 1
  | [] => by simp [oneL]
  | b :: l => by
    have := oneL_le a l
    unfold oneL
    split
    · simp; omega
    · rw [mulC_len]; simp; omega
theorem oneL_lt {a : S61} : ∀ {l : List S61}, a ∈ l → (oneL a l).length ≤ l.length
  | b :: l, h => by
    unfold oneL
    cases h with
    | head =>
      rw [if_pos rfl]
      have := oneL_le a l
      simpa using this
    | tail _ h =>
      have := oneL_lt h
      split
      · simp; omega
      · rw [mulC_len]; simp; omega
def scL (c : K251) (q : List K251) : List K251 := q.map fun a => c * a
theorem scL_eF (c x : K251) : ∀ q : List K251, eF (scL c q) x = c * eF q x
  | [] => by simp only [scL, List.map_nil, eF]; grind
  | a :: q => by
    have ih := scL_eF c x q
    simp only [scL, List.map_cons, eF] at ih ⊢
    rw [ih]
    grind
def lagL (m : List S61) : List S61 → List K251
  | [] => []
  | a :: l => addL (scL (fk a.f1) (oneL a m)) (lagL m l)
theorem lagL_eF (x : K251) (m : List S61) : ∀ l : List S61, eF (lagL m l) x = sumF (fun a => fk a.f1 * prodF x a m) l
  | [] => rfl
  | a :: l => by
    show eF (addL _ _) x = fk a.f1 * prodF x a m + sumF _ l
    rw [addL_eF, scL_eF, oneL_eF, lagL_eF x m l]
theorem lagL_len (m : List S61) : ∀ l : List S61, (∀ a ∈ l, a ∈ m) → (lagL m l).length ≤ m.length
  | [], _ => by simp [lagL]
  | a :: l, h => by
    have h1 := lagL_len m l (fun b hb => h b (List.mem_cons_of_mem _ hb))
    have h2 := oneL_lt (h a (List.mem_cons_self ..))
    rw [lagL, addL_len, scL, List.length_map]
    omega
theorem eF_zeros (x : K251) (n : Nat) : ∀ l : List K251, eF (l ++ List.replicate n 0) x = eF l x
  | [] => by
    induction n with
    | zero => rfl
    | succ n ih =>
      simp only [List.nil_append, List.replicate_succ, eF] at ih ⊢
      rw [ih]
      grind
  | a :: l => by
    have := eF_zeros x n l
    simp only [List.cons_append, eF]
    rw [this]
theorem lag_list (l : List S61) (n : Nat) (hn : l.length ≤ n) : ∃ p : List K251, p.length = n ∧ ∀ x, eF p x = lagF l x := by
  refine ⟨lagL l l ++ List.replicate (n - (lagL l l).length) 0, ?_, fun x => ?_⟩
  · have := lagL_len l l (fun a h => h)
    simp; omega
  · rw [eF_zeros, lagL_eF]; rfl
end Go.Proofs.Ytpfkfbbekfkcgaa.P
end
section
namespace Go.Proofs.Ytpfkfbbekfkcgaa.P
open Go.RowKit Go.Proofs.YtpfkfbbekfkcgaaW.PrintWords Go.Proofs.YtpfkfbbekfkcgaaW.PrintLast Go.Proofs.YtpfkfbbekfkcgaaW.PrintMore
set_option linter.unusedVariables false
set_option linter.unusedSimpArgs false
theorem zipF_nil (F : Int → Int → Int) : zipF F [] [] = [] := rfl
theorem zipF_cons (F : Int → Int → Int) (a b : Int) (p q : List Int) : zipF F (a :: p) (b :: q) = F a b :: zipF F p q := by
  unfold zipF
  rw [List.length_cons, List.length_cons, Nat.succ_max_succ, List.range_succ_eq_map, List.map_cons, List.map_map]
  rfl
theorem zipF_left (F : Int → Int → Int) (a : Int) (p : List Int) : zipF F (a :: p) [] = F a 0 :: zipF F p [] := by
  unfold zipF
  rw [List.length_cons, List.length_nil, Nat.max_eq_left (Nat.zero_le _), Nat.max_eq_left (Nat.zero_le _), List.range_succ_eq_map, List.map_cons, List.map_map]
  rfl
theorem zipF_right (F : Int → Int → Int) (b : Int) (q : List Int) : zipF F [] (b :: q) = F 0 b :: zipF F [] q := by
  unfold zipF
  rw [List.length_cons, List.length_nil, Nat.max_eq_right (Nat.zero_le _), Nat.max_eq_right (Nat.zero_le _), List.range_succ_eq_map, List.map_cons, List.map_map]
  rfl
theorem eF_add : ∀ (p q : List Int) (x : K251), eF ((zipF addF p q).map fk) x = eF (p.map fk) x + eF (q.map fk) x
  | [], [], x => by rw [zipF_nil]; simp only [List.map_nil, eF]; grind
  | a :: p, [], x => by
    have ih := eF_add p [] x
    rw [zipF_left]
    simp only [List.map_cons, List.map_nil, eF, addF] at ih ⊢
    rw [ih, fk_mod, fk_add, fk_zero]
    grind
  | [], b :: q, x => by
    have ih := eF_add [] q x
    rw [zipF_right]
    simp only [List.map_cons, List.map_nil, eF, addF] at ih ⊢
    rw [ih, fk_mod, fk_add, fk_zero]
    grind
  | a :: p, b :: q, x => by
    have ih := eF_add p q x
    rw [zipF_cons]
    simp only [List.map_cons, eF, addF] at ih ⊢
    rw [ih, fk_mod, fk_add]
    grind
theorem eF_subF : ∀ (p q : List Int) (x : K251), eF ((zipF subF p q).map fk) x = eF (p.map fk) x - eF (q.map fk) x
  | [], [], x => by rw [zipF_nil]; simp only [List.map_nil, eF]; grind
  | a :: p, [], x => by
    have ih := eF_subF p [] x
    rw [zipF_left]
    simp only [List.map_cons, List.map_nil, eF, subF] at ih ⊢
    rw [ih, fk_mod, fk_sub, fk_zero]
    grind
  | [], b :: q, x => by
    have ih := eF_subF [] q x
    rw [zipF_right]
    simp only [List.map_cons, List.map_nil, eF, subF] at ih ⊢
    rw [ih, fk_mod, fk_sub, fk_zero]
    grind
  | a :: p, b :: q, x => by
    have ih := eF_subF p q x
    rw [zipF_cons]
    simp only [List.map_cons, eF, subF] at ih ⊢
    rw [ih, fk_mod, fk_sub]
    grind
theorem eF_scale (a : Int) (x : K251) : ∀ p : List Int, eF ((scale p a).map fk) x = fk a * eF (p.map fk) x
  | [] => by simp only [scale, List.map_nil, eF]; grind
  | c :: p => by
    have ih := eF_scale a x p
    simp only [scale, List.map_cons, eF] at ih ⊢
    rw [ih, fk_mod, fk_mul]
    grind
def prodK (l : List S61) (x : K251) : K251 := l.foldl (fun v s => v * (x - fk s.f0)) 1
theorem prodK_snoc (l : List S61) (a : S61) (x : K251) : prodK (l ++ [a]) x = prodK l x * (x - fk a.f0) := by
  unfold prodK
  rw [List.foldl_append]; rfl
theorem zero_mul' (a b : K251) (h : a = 0) : a * b = 0 := by subst h; grind
theorem prodK_zero {a : S61} {l : List S61} : a ∈ l → prodK l (fk a.f0) = 0 := by
  refine snoc_ind (P := fun l => a ∈ l → prodK l (fk a.f0) = 0) (fun h => by cases h) ?_ l
  intro l b ih h
  rw [prodK_snoc]
  rcases List.mem_append.1 h with h | h
  · exact zero_mul' _ _ (ih h)
  · rw [List.mem_singleton] at h
    subst h
    grind
theorem prodK_ne {x : K251} {l : List S61} : (∀ a ∈ l, x ≠ fk a.f0) → prodK l x ≠ 0 := by
  refine snoc_ind (P := fun l => (∀ a ∈ l, x ≠ fk a.f0) → prodK l x ≠ 0) (fun _ => show (1 : K251) ≠ 0 by decide) ?_ l
  intro l b ih h e
  rw [prodK_snoc] at e
  have h1 := ih (fun a ha => h a (List.mem_append_left _ ha))
  have h2 := mul_zero' e h1
  exact h b (List.mem_append_right _ (List.mem_singleton_self b)) (by grind)
theorem solved_two (l : List S61) (x : K251) : eF ((solved l).2.map fk) x = prodK l x := by
  refine snoc_ind (P := fun l => eF ((solved l).2.map fk) x = prodK l x) ?_ ?_ l
  · show eF ([1].map fk) x = 1
    simp only [List.map_cons, List.map_nil, eF, fk_one]
    grind
  · intro l a ih
    rw [solved_snoc, prodK_snoc]
    show eF ((zipF subF (0 :: (solved l).2) (scale (solved l).2 a.f0)).map fk) x = _
    rw [eF_subF, eF_scale, List.map_cons]
    simp only [eF, fk_zero]
    rw [ih]
    grind
theorem solved_len (l : List S61) : (solved l).1.length = l.length := by
  refine snoc_ind (P := fun l => (solved l).1.length = l.length) rfl ?_ l
  intro l a ih
  rw [solved_snoc]
  have h2 := (solved_in l).2.2.2
  simp only [solveStep, zipF_len, scale_len, List.length_append, List.length_singleton, ih, h2]
  omega
theorem solved_at (l : List S61) : KD l → ∀ a ∈ l, eF ((solved l).1.map fk) (fk a.f0) = fk a.f1 := by
  refine snoc_ind (P := fun l => KD l → ∀ a ∈ l, eF ((solved l).1.map fk) (fk a.f0) = fk a.f1) (fun _ a h => by cases h) ?_ l
  intro l b ih hk a ha
  have hl : KD l := hk.sub (List.sublist_append_left _ _)
  rw [solved_snoc]
  show eF ((zipF addF (solved l).1 (scale (solved l).2 _)).map fk) _ = _
  rw [eF_add, eF_scale, solved_two]
  rcases List.mem_append.1 ha with ha | ha
  · rw [ih hl a ha, prodK_zero ha]
    grind
  · rw [List.mem_singleton] at ha
    subst ha
    have hne : prodK l (fk a.f0) ≠ 0 := prodK_ne (fun c hc => by
      have hn := hk.nd
      rw [List.map_append, List.nodup_append] at hn
      exact fk_ne (hk.k a (by simp)) (hk.k c (by simp [hc])) (fun e => hn.2.2 c.f0 (List.mem_map_of_mem hc) a.f0 (by simp) e.symm))
    have h2 := inv_ex _ hne
    rw [fk_mod, fk_mul, fk_mod, fk_sub, fk_inv (ev_in _ _), fk_ev, fk_ev, solved_two]
    grind
def Fit (n : Nat) (l : List S61) : Prop := ∃ p : List K251, p.length = n ∧ ∀ a ∈ l, eF p (fk a.f0) = fk a.f1
theorem Fit.mono {n : Nat} {l m : List S61} (h : Fit n l) (hm : ∀ a ∈ m, a ∈ l) : Fit n m :=
  let ⟨p, hp, ha⟩ := h
  ⟨p, hp, fun a h => ha a (hm a h)⟩
theorem fit_unique {l : List S61} (h : KD l) {p q : List K251} (hp : p.length = q.length) (hl : p.length ≤ l.length)
    (h1 : ∀ a ∈ l, eF p (fk a.f0) = fk a.f1) (h2 : ∀ a ∈ l, eF q (fk a.f0) = fk a.f1) : p = q := by
  refine uniqueF p q (places l) hp (by simpa [places] using hl) (places_nd h) (fun x hx => ?_)
  obtain ⟨a, ha, rfl⟩ := List.mem_map.1 hx
  rw [h1 a ha, h2 a ha]
theorem all_fk {p q : List Int} (hp : all251 p) (hq : all251 q) (h : p.map fk = q.map fk) : p = q := by
  induction p generalizing q with
  | nil =>
    cases q with
    | nil => rfl
    | cons b q => simp at h
  | cons a p ih =>
    cases q with
    | nil => simp at h
    | cons b q =>
      simp only [List.map_cons, List.cons.injEq] at h
      have ha := hp a (by simp)
      have hb := hq b (by simp)
      rw [fk_inj ha.1 ha.2 hb.1 hb.2 h.1, ih (fun x hx => hp x (by simp [hx])) (fun x hx => hq x (by simp [hx])) h.2]
theorem agreeB_fit {n : Nat} {l : List S61} (h : KD l) : agreeB n l = true ↔ Fit n l := by
  unfold agreeB
  by_cases c : (l.length : Int) ≤ n
  · rw [if_pos c]
    obtain ⟨p, hp, he⟩ := lag_list l n (by omega)
    exact ⟨fun _ => ⟨p, hp, fun a ha => by rw [he, lagF_at h ha]⟩, fun _ => rfl⟩
  · rw [if_neg c, show (n : Int).toNat = n by omega]
    have ht : KD (l.take n) := h.sub (List.take_sublist _ _)
    obtain ⟨p, hp, he⟩ := lag_list (l.take n) n (by rw [List.length_take]; omega)
    have hlie : lieS (l.take n) (l.drop n) = true ↔ ∀ s ∈ l.drop n, lag (l.take n) s.f0 = s.f1 := by
      unfold lieS
      simp
    rw [hlie]
    constructor
    · intro hd
      refine ⟨p, hp, fun a ha => ?_⟩
      rw [he]
      rw [← List.take_append_drop n l] at ha
      rcases List.mem_append.1 ha with ha | ha
      · exact lagF_at ht ha
      · rw [← fk_lag, hd a ha]
    · rintro ⟨q, hq, hqa⟩ s hs
      have e : p = q := fit_unique ht (by omega) (by rw [List.length_take]; omega) (fun a ha => by rw [he, lagF_at ht ha]) (fun a ha => hqa a (List.mem_of_mem_take ha))
      have hs' := List.mem_of_mem_drop hs
      have h1 := hqa s hs'
      rw [← e, he, ← fk_lag] at h1
      have hv := h.v s hs'
      exact fk_inj (lag_in _ _).1 (lag_in _ _).2 hv.1 hv.2 h1
theorem ev_eq {p : List Int} {s : S61} (hv : F251 s.f1) : ev p s.f0 = s.f1 ↔ eF (p.map fk) (fk s.f0) = fk s.f1 := by
  rw [← fk_ev]
  exact ⟨fun e => by rw [e], fun e => fk_inj (ev_in _ _).1 (ev_in _ _).2 hv.1 hv.2 e⟩
theorem lieP_iff {p : List Int} {l : List S61} (h : ∀ s ∈ l, F251 s.f1) : lieP p l = true ↔ ∀ s ∈ l, eF (p.map fk) (fk s.f0) = fk s.f1 := by
  unfold lieP
  simp only [Bool.not_eq_true', List.any_eq_false, bne_iff_ne, ne_eq, Decidable.not_not]
  exact ⟨fun hh s hs => (ev_eq (h s hs)).1 (hh s hs), fun hh s hs => (ev_eq (h s hs)).2 (hh s hs)⟩
def itp (n : Nat) (l : List S61) : List Int := (solved (l.take n)).1
theorem itp_len {n : Nat} {l : List S61} (hn : n ≤ l.length) : (itp n l).length = n := by
  unfold itp
  rw [solved_len, List.length_take]
  omega
theorem itp_in (n : Nat) (l : List S61) : all251 (itp n l) := (solved_in _).1
theorem itp_only {n : Nat} {l : List S61} (h : KD l) (hn : n ≤ l.length) {p : List K251} (hp : p.length = n) (ha : ∀ a ∈ l.take n, eF p (fk a.f0) = fk a.f1) : (itp n l).map fk = p := by
  have ht : KD (l.take n) := h.sub (List.take_sublist _ _)
  exact fit_unique ht (by rw [List.length_map, itp_len hn, hp]) (by rw [List.length_map, itp_len hn, List.length_take]; omega) (solved_at _ ht) ha
theorem lieP_fit {n : Nat} {l : List S61} (h : KD l) (hn : n ≤ l.length) : lieP (itp n l) l = true ↔ Fit n l := by
  rw [lieP_iff h.v]
  constructor
  · exact fun hh => ⟨(itp n l).map fk, by rw [List.length_map, itp_len hn], hh⟩
  · rintro ⟨p, hp, ha⟩
    rw [itp_only h hn hp (fun a hm => ha a (List.mem_of_mem_take hm))]
    exact ha
end Go.Proofs.Ytpfkfbbekfkcgaa.P
end
section
namespace Go.Proofs.Ytpfkfbbekfkcgaa.P
open Go.RowKit Go.Proofs.YtpfkfbbekfkcgaaW.PrintWords Go.Proofs.YtpfkfbbekfkcgaaW.PrintLast Go.Proofs.YtpfkfbbekfkcgaaW.PrintMore
set_option linter.unusedVariables false
set_option linter.unusedSimpArgs false
theorem Ev.pos {α : Type} {c : Prop} [Decidable c] {f g : Nat → Option α} {r : α} (h : c) (H : Ev f r) : Ev (fun k => if c then f k else g k) r := by
  simpa only [if_pos h] using H
theorem Ev.neg {α : Type} {c : Prop} [Decidable c] {f g : Nat → Option α} {r : α} (h : ¬ c) (H : Ev g r) : Ev (fun k => if c then f k else g k) r := by
  simpa only [if_neg h] using H
theorem Ev.have {α : Type} {x : Option α} {r : α} (h : x = some r) : Ev (fun _ => x) r := ⟨0, fun _ _ => h⟩
theorem Ev.two {α β : Type} {g : Nat → Option α} {f : Nat → Option β} {r : α} {q : β} (h : Ev g r) (h' : Ev f q) : ∃ k, g k = some r ∧ f k = some q := by
  obtain ⟨a, ha⟩ := h
  obtain ⟨b, hb⟩ := h'
  exact ⟨max a b, ha _ (Nat.le_max_left _ _), hb _ (Nat.le_max_right _ _)⟩
theorem w_nat (n : Nat) (h : n ≤ 4611686018427387904) : wrap64 ((n : Int) + 1) = ((n + 1 : Nat) : Int) := by unfold wrap64; omega
theorem rd_at (l : List Int) (n : Nat) (h : n < l.length) : rd l (n : Int) = l[n] := by
  unfold rd
  rw [Int.toNat_natCast, List.getD_eq_getElem?_getD, List.getElem?_eq_getElem h]; rfl
theorem drop_at {α : Type} (l : List α) (n : Nat) (h : n < l.length) : l.drop n = l[n] :: l.drop (n + 1) := List.drop_eq_getElem_cons h
theorem take_at {α : Type} (l : List α) (n : Nat) (h : n < l.length) : l.take (n + 1) = l.take n ++ [l[n]] := by rw [List.take_succ_eq_append_getElem h]
theorem rd61_at (l : List S61) (n : Nat) (h : n < l.length) : rd_T61 l (n : Int) = l[n] := by
  unfold rd_T61
  rw [Int.toNat_natCast, List.getD_eq_getElem?_getD, List.getElem?_eq_getElem h]; rfl
theorem rd91_at (l : List S91) (n : Nat) (h : n < l.length) : rd_T91 l (n : Int) = l[n] := by
  unfold rd_T91
  rw [Int.toNat_natCast, List.getD_eq_getElem?_getD, List.getElem?_eq_getElem h]; rfl
def g91 (s : S61) : S91 := ⟨s.f0, s.f1⟩
theorem rd91_g (l : List S61) (n : Nat) (h : n < l.length) : rd_T91 (l.map g91) (n : Int) = g91 l[n] := by
  rw [rd91_at _ _ (by simpa using h), List.getElem_map]
theorem is_f (a b c : Int) : pianolaref09_is.f a b c = some (btw b a c) := by
  unfold pianolaref09_is.f pianolaref01_Is.f btw
  by_cases h : b ≤ a
  · have : a ≥ b := h
    simp [h, this]
  · have : ¬ a ≥ b := h
    simp [h, this]
theorem mod_f (a : Int) (h0 : -1000000000000000 ≤ a) (h1 : a ≤ 1000000000000000) : pianolaref09_mod.f a = some (a % 251) := of_f a h0 h1
theorem ref_inv_all : ∀ n : Fin 251, n.val ≠ 0 → pianolaref09_inverse.f 252 (n.val : Int) = some (inv (n.val : Int)) := by decide +kernel
theorem ref_inv (a : Int) (ha : F251 a) (h : a ≠ 0) : Ev (fun k => pianolaref09_inverse.f k a) (inv a) := by
  obtain ⟨a0, a1⟩ := ha
  have := ref_inv_all ⟨a.toNat, by omega⟩ (by simp; omega)
  exact Ev.of (fun k => pianolaref09_inverse.mono _ k) (by simpa [Int.toNat_of_nonneg a0] using this)
theorem prog_at (p : List Int) (x : Int) (hx : F251 x) (hp : all251 p) (hl : p.length ≤ 1000000) : Ev (fun k => vault_polynomial_at.f k p x) (ev p x) := Ev.of (fun k => vault_polynomial_at.mono _ _ k) (at_f p x hx hp hl)
theorem value_ev (l : List Int) (x : Int) (hx : F251 x) (hl : all251 l) (hn : l.length ≤ 1000000) : Ev (fun k => pianolaref09_value.f k l x) (ev l x) := by
  have key : ∀ (d n : Nat) (s p : Int), n + d = l.length → F251 s → F251 p → fk (ev l x) = fk s + fk p * eF ((l.drop n).map fk) (fk x) → Ev (fun k => pianolaref09_value.l0 k l x s p (n : Int)) (ev l x) := by
    intro d
    induction d with
    | zero =>
      intro n s p hd hs hp he
      refine Ev.step (fun k => by rw [pianolaref09_value.l0]) ?_
      refine Ev.neg (by omega) (Ev.have ?_)
      rw [List.drop_of_length_le (by omega)] at he
      simp only [List.map_nil, eF] at he
      rw [fk_inj (ev_in l x).1 (ev_in l x).2 hs.1 hs.2 (by rw [he]; grind)]
    | succ d ih =>
      intro n s p hd hs hp he
      have hlt : n < l.length := by omega
      have hc := hl _ (List.getElem_mem hlt)
      obtain ⟨m0, m1⟩ := mul_bd _ _ hc hp
      obtain ⟨q0, q1⟩ := mul_bd _ _ hp hx
      obtain ⟨s0, s1⟩ := hs
      refine Ev.step (fun k => by rw [pianolaref09_value.l0]) ?_
      refine Ev.pos (by omega) (Ev.pos (by omega) ?_)
      rw [rd_at l n hlt, show wrap64 (l[n] * p) = l[n] * p by unfold wrap64; omega, show wrap64 (s + l[n] * p) = s + l[n] * p by unfold wrap64; omega, show wrap64 (p * x) = p * x by unfold wrap64; omega]
      rw [mod_f _ (by omega) (by omega), mod_f _ (by omega) (by omega), w_nat n (by omega)]
      refine Ev.bind (Ev.now _) (Ev.bind (Ev.now _) ?_)
      refine ih (n + 1) _ _ (by omega) (mod_in _) (mod_in _) ?_
      rw [he, drop_at l n hlt, fk_mod, fk_mod, fk_add, fk_mul, fk_mul]
      simp only [List.map_cons, eF]
      grind
  refine key l.length 0 0 1 (by omega) ⟨by omega, by omega⟩ ⟨by omega, by omega⟩ ?_
  rw [fk_ev, fk_zero, fk_one, List.drop_zero]
  grind
def readE (l : List Int) : Int := if l.length = 0 then 4 else if 8 < l.length then 5 else if l.all (fun c => btw 0 c 250) then 0 else 3
theorem readE_ok {l : List Int} (h : readE l = 0) : l.length ≠ 0 ∧ l.length ≤ 8 ∧ all251 l := by
  unfold readE at h
  split at h
  · omega
  · split at h
    · omega
    · split at h
      · rename_i h1 h2 h3
        refine ⟨h1, by omega, fun c hc => ?_⟩
        have := List.all_eq_true.1 h3 c hc
        exact btw_iff.1 this
      · omega
theorem read_ev (l : List Int) : Ev (fun k => vault_read.f k l) (if readE l = 0 then l else [], readE l) := by
  unfold vault_read.f readE
  by_cases h0 : l.length = 0
  · refine Ev.pos (by omega) (Ev.have ?_)
    simp [h0]
  · refine Ev.neg (by omega) ?_
    by_cases h1 : 8 < l.length
    · refine Ev.pos (by omega) (Ev.have ?_)
      simp [h0, h1]
    · refine Ev.neg (by omega) ?_
      have key : ∀ (d n : Nat), n + d = l.length → (l.take n).all (fun c => btw 0 c 250) = true → Ev (fun k => vault_read.l0 k (l.take n) l (l.length : Int) (n : Int)) (if l.all (fun c => btw 0 c 250) then (l, 0) else ([], 3)) := by
        intro d
        induction d with
        | zero =>
          intro n hd ha
          refine Ev.step (fun k => by rw [vault_read.l0]) ?_
          refine Ev.neg (by omega) (Ev.have ?_)
          rw [List.take_of_length_le (by omega)] at ha ⊢
          simp [ha]
        | succ d ih =>
          intro n hd ha
          have hlt : n < l.length := by omega
          refine Ev.step (fun k => by rw [vault_read.l0]) ?_
          refine Ev.pos (by omega) (Ev.pos (by omega) (Ev.pos (by omega) ?_))
          rw [rd_at l n hlt, btw_f, w_nat n (by omega)]
          refine Ev.bind (Ev.now _) ?_
          by_cases c : btw 0 l[n] 250 = true
          · refine Ev.pos c (Ev.pos (by rw [List.length_take]; omega) ?_)
            rw [← take_at l n hlt]
            refine ih (n + 1) (by omega) ?_
            rw [take_at l n hlt, List.all_append, ha]
            simp [c]
          · refine Ev.neg c (Ev.have ?_)
            have : l.all (fun c => btw 0 c 250) = false := by
              rw [List.all_eq_false]
              exact ⟨l[n], List.getElem_mem hlt, c⟩
            simp [this]
      have := key l.length 0 (by omega) rfl
      rw [List.take_zero] at this
      simp only [h0, h1, if_false]
      by_cases c : (l.all fun c => btw 0 c 250) = true
      · simpa [c] using this
      · simpa [c] using this
def valueR (l : List Int) (x : Int) : Int × Int := if readE l ≠ 0 then (0, readE l) else if btw 0 x 250 = true then (ev l x, 0) else (0, 3)
theorem Value_ev (l : List Int) (x : Int) : Ev (fun k => vault_Value.f k l x) (valueR l x) := by
  unfold vault_Value.f valueR
  refine Ev.bind (read_ev l) ?_
  by_cases h : readE l = 0
  · obtain ⟨h0, h1, h2⟩ := readE_ok h
    refine Ev.pos h ?_
    rw [btw_f]
    refine Ev.bind (Ev.now _) ?_
    by_cases c : btw 0 x 250 = true
    · refine Ev.pos c ?_
      simp only [h, if_true]
      exact Ev.bind (prog_at l x (btw_iff.1 c) h2 (by omega)) (Ev.have (by simp [h, c]))
    · exact Ev.neg c (Ev.have (by simp [h, c]))
  · refine Ev.neg h (Ev.have ?_)
    simp [h]
def dealt (l : List Int) (n : Nat) : List S61 := (List.range n).map fun k : Nat => ⟨((k + 1 : Nat) : Int), ev l ((k + 1 : Nat) : Int)⟩
theorem dealt_succ (l : List Int) (n : Nat) : dealt l (n + 1) = dealt l n ++ [⟨((n + 1 : Nat) : Int), ev l ((n + 1 : Nat) : Int)⟩] := by
  unfold dealt
  rw [List.range_succ, List.map_append]; rfl
theorem dealt_len (l : List Int) (n : Nat) : (dealt l n).length = n := by simp [dealt]
def dealR (l : List Int) (n : Int) : List S61 × Int := if readE l ≠ 0 then ([], readE l) else if btw 1 n 20 = true then (dealt l n.toNat, 0) else ([], 3)
theorem Deal_ev (l : List Int) (n : Int) : Ev (fun k => vault_Deal.f k l n) (dealR l n) := by
  unfold vault_Deal.f dealR
  refine Ev.bind (read_ev l) ?_
  by_cases h : readE l = 0
  · obtain ⟨h0, h1, h2⟩ := readE_ok h
    refine Ev.pos h ?_
    rw [btw_f]
    refine Ev.bind (Ev.now _) ?_
    by_cases c : btw 1 n 20 = true
    · obtain ⟨n0, n1⟩ := btw_iff.1 c
      refine Ev.pos c ?_
      simp only [h, c, if_true, ne_eq, not_true_eq_false, if_false]
      have key : ∀ (d m : Nat), m + d = n.toNat → Ev (fun k => vault_Deal.l0 k n l (dealt l m) ((m + 1 : Nat) : Int)) (dealt l n.toNat, 0) := by
        intro d
        induction d with
        | zero =>
          intro m hd
          refine Ev.step (fun k => by rw [vault_Deal.l0]) ?_
          refine Ev.neg (by omega) (Ev.have ?_)
          rw [show m = n.toNat by omega]
        | succ d ih =>
          intro m hd
          refine Ev.step (fun k => by rw [vault_Deal.l0]) ?_
          refine Ev.pos (by omega) (Ev.bind (prog_at l _ ⟨by omega, by omega⟩ h2 (by omega)) ?_)
          refine Ev.pos (by rw [dealt_len]; omega) ?_
          rw [← dealt_succ, w_nat _ (by omega)]
          exact ih (m + 1) (by omega)
      exact key n.toNat 0 (by omega)
    · exact Ev.neg c (Ev.have (by simp [h, c]))
  · exact Ev.neg h (Ev.have (by simp [h]))
end Go.Proofs.Ytpfkfbbekfkcgaa.P
end
section
namespace Go.Proofs.Ytpfkfbbekfkcgaa.P
open Go.RowKit Go.Proofs.YtpfkfbbekfkcgaaW.PrintWords Go.Proofs.YtpfkfbbekfkcgaaW.PrintLast Go.Proofs.YtpfkfbbekfkcgaaW.PrintMore
set_option linter.unusedVariables false
set_option linter.unusedSimpArgs false
theorem any_at (l : List S61) (n : Nat) (h : n < l.length) (P : S61 → Bool) : (l.take (n + 1)).any P = ((l.take n).any P || P l[n]) := by
  rw [take_at l n h, List.any_append]; simp
theorem refcheck_inner (l : List S61) (hl : l.length ≤ 20) (n : Nat) (hn : n < l.length) (R : Int)
    (H : (l.take n).any (fun t => t.f0 == l[n].f0) = false → Ev (fun k => pianolaref09_check.l0 k (l.map g91) ((n + 1 : Nat) : Int)) R)
    (H' : (l.take n).any (fun t => t.f0 == l[n].f0) = true → R = 9) :
    ∀ (d m : Nat), m + d = n → (l.take m).any (fun t => t.f0 == l[n].f0) = false → Ev (fun k => pianolaref09_check.l1 k (l.map g91) (n : Int) (m : Int)) R := by
  intro d
  induction d with
  | zero =>
    intro m hm ha
    refine Ev.step (fun k => by rw [pianolaref09_check.l1]) ?_
    refine Ev.neg (by omega) ?_
    obtain rfl : m = n := by omega
    rw [w_nat m (by omega)]
    exact H ha
  | succ d ih =>
    intro m hm ha
    have hlt : m < l.length := by omega
    refine Ev.step (fun k => by rw [pianolaref09_check.l1]) ?_
    refine Ev.pos (by omega) (Ev.pos (by omega) (Ev.pos (by simp; omega) (Ev.pos (by omega) (Ev.pos (by simp; omega) ?_))))
    rw [rd91_g l m hlt, rd91_g l n hn, w_nat m (by omega)]
    by_cases c : l[m].f0 = l[n].f0
    · refine Ev.pos c (Ev.have ?_)
      rw [H']
      rw [List.any_eq_true]
      exact ⟨l[m], by rw [List.mem_take_iff_getElem]; exact ⟨m, by omega, rfl⟩, by simpa using c⟩
    · refine Ev.neg c (ih (m + 1) (by omega) ?_)
      rw [any_at l m hlt, ha]
      simpa using c
theorem refcheck_ev (need : Int) (l : List S61) : Ev (fun k => pianolaref09_check.f k need (l.map g91)) (checkE need l) := by
  unfold pianolaref09_check.f checkE
  rw [is_f]
  refine Ev.bind (Ev.now _) ?_
  by_cases b : btw 1 need 8 = true
  · refine Ev.pos b ?_
    simp only [b, Bool.true_eq_false, if_false]
    by_cases hl : l.length > 20
    · refine Ev.pos (by simp; omega) (Ev.have ?_)
      rw [if_pos hl]
    · refine Ev.neg (by simp; omega) ?_
      rw [if_neg hl]
      have key : ∀ (d n : Nat), n + d = l.length → Ev (fun k => pianolaref09_check.l0 k (l.map g91) (n : Int)) (scan (l.take n) (l.drop n)) := by
        intro d
        induction d with
        | zero =>
          intro n hd
          refine Ev.step (fun k => by rw [pianolaref09_check.l0]) ?_
          refine Ev.neg (by simp; omega) (Ev.have ?_)
          rw [List.drop_of_length_le (by omega)]; rfl
        | succ d ih =>
          intro n hd
          have hlt : n < l.length := by omega
          refine Ev.step (fun k => by rw [pianolaref09_check.l0]) ?_
          refine Ev.pos (by simp; omega) (Ev.pos (by omega) ?_)
          rw [rd91_g l n hlt, is_f, is_f, drop_at l n hlt]
          refine Ev.bind (Ev.now _) ?_
          have hi : Ev (fun k => pianolaref09_check.j1 k (l.map g91) (n : Int) (!(btw 1 l[n].f0 20 && btw 0 l[n].f1 250))) (scan (l.take n) (l[n] :: l.drop (n + 1))) := by
            refine Ev.step (fun k => by rw [pianolaref09_check.j1]) ?_
            unfold scan
            by_cases c : (btw 1 l[n].f0 20 && btw 0 l[n].f1 250) = true
            · refine Ev.neg (by simp [c]) ?_
              rw [if_neg (by simp [c])]
              refine refcheck_inner l (by omega) n hlt _ (fun ha => ?_) (fun ha => ?_) n 0 (by omega) rfl
              · rw [if_neg (by rw [ha]; simp), ← take_at l n hlt]
                exact ih (n + 1) (by omega)
              · rw [if_pos ha]
            · rw [Bool.not_eq_true] at c
              refine Ev.pos (by rw [c]; rfl) (Ev.have ?_)
              rw [if_pos c]
          by_cases c1 : btw 1 l[n].f0 20 = true
          · refine Ev.pos c1 (Ev.bind (Ev.now _) ?_)
            have := hi
            rw [c1, Bool.true_and] at this
            exact this
          · refine Ev.neg c1 ?_
            have := hi
            rw [Bool.not_eq_true] at c1
            rw [c1, Bool.false_and] at this
            exact this
      have := key l.length 0 (by omega)
      exact this
  · refine Ev.neg b (Ev.have ?_)
    simp [b]
theorem scan_nd : ∀ (l b : List S61), scan b l = 0 → (b.map S61.f0).Nodup → ((b ++ l).map S61.f0).Nodup
  | [], b, _, hb => by rwa [List.append_nil]
  | s :: r, b, h, hb => by
    unfold scan at h
    by_cases c1 : (btw 1 s.f0 20 && btw 0 s.f1 250) = false
    · rw [if_pos c1] at h; omega
    · rw [if_neg c1] at h
      by_cases c2 : (b.any fun t => t.f0 == s.f0) = true
      · rw [if_pos c2] at h; omega
      · rw [if_neg c2] at h
        have := scan_nd r (b ++ [s]) h (by
          rw [List.map_append, List.nodup_append]
          refine ⟨hb, by simp, fun x hx y hy e => c2 ?_⟩
          obtain ⟨t, ht, rfl⟩ := List.mem_map.1 hx
          simp only [List.map_cons, List.map_nil, List.mem_singleton] at hy
          exact List.any_eq_true.2 ⟨t, ht, by simp [e, hy]⟩)
        rwa [List.append_assoc, List.singleton_append] at this
structure Fine (need : Int) (l : List S61) : Prop where
  n0 : 1 ≤ need
  n1 : need ≤ 8
  len : l.length ≤ 20
  good : ∀ s ∈ l, Good s
  kd : KD l
theorem checkE_fine {need : Int} {l : List S61} (h : checkE need l = 0) : Fine need l := by
  obtain ⟨a, b, c, d, e⟩ := checkE_ok h
  refine ⟨a, b, c, d, ?_, fun s hs => ?_, fun s hs => ?_⟩
  · have := scan_nd l [] e List.nodup_nil
    simpa using this
  · have := d s hs
    exact ⟨by have := this.1; omega, by have := this.2.1; omega⟩
  · have := d s hs
    exact ⟨this.2.2.1, this.2.2.2⟩
theorem scan_zero : ∀ (l b : List S61), (∀ s ∈ l, Good s) → ((b ++ l).map S61.f0).Nodup → scan b l = 0
  | [], b, _, _ => rfl
  | s :: r, b, h, hn => by
    have hs := h s (by simp)
    unfold scan
    rw [if_neg (by simp only [Bool.not_eq_false, Bool.and_eq_true, btw_iff]; exact ⟨⟨hs.1, hs.2.1⟩, hs.2.2⟩)]
    have hnb : ¬ (b.any fun t => t.f0 == s.f0) = true := by
      intro hc
      obtain ⟨t, ht, e⟩ := List.any_eq_true.1 hc
      rw [List.map_append, List.nodup_append] at hn
      exact hn.2.2 t.f0 (List.mem_map_of_mem ht) s.f0 (by simp) (by simpa using e)
    rw [if_neg hnb]
    refine scan_zero r (b ++ [s]) (fun t ht => h t (by simp [ht])) ?_
    rwa [List.append_assoc, List.singleton_append]
theorem checkE_zero {need : Int} {l : List S61} (n0 : 1 ≤ need) (n1 : need ≤ 8) (hl : l.length ≤ 20) (h : ∀ s ∈ l, Good s) (hn : (l.map S61.f0).Nodup) : checkE need l = 0 := by
  unfold checkE
  rw [if_neg (by rw [Bool.not_eq_false, btw_iff]; exact ⟨n0, n1⟩), if_neg (by omega)]
  exact scan_zero l [] h (by simpa using hn)
theorem set_mid {α : Type} (a : List α) (b v : α) (c : List α) : (a ++ b :: c).set a.length v = a ++ v :: c := by simp
theorem rd_mid (a : List Int) (b : Int) (c : List Int) : rd (a ++ b :: c) (a.length : Int) = b := by
  rw [rd_at _ _ (by simp)]
  simp
def mulTI (k d : Int) : Int → List Int → List Int
  | _, [] => []
  | c, b :: q => (c - ((b * k) % 251) * d) % 251 :: mulTI k d ((0 + b * d) % 251) q
def tailZ (c : Int) : List Int → List Int
  | [] => []
  | _ :: q => c :: List.replicate q.length 0
theorem tailZ_len (c : Int) (q : List Int) : (tailZ c q).length = q.length := by cases q <;> simp [tailZ]
theorem mulTI_len (k d : Int) : ∀ (c : Int) (q : List Int), (mulTI k d c q).length = q.length
  | _, [] => rfl
  | c, b :: q => by simp [mulTI, mulTI_len k d _ q]
theorem mulTI_in (k d : Int) : ∀ (c : Int) (q : List Int), all251 (mulTI k d c q)
  | _, [] => fun _ h => by cases h
  | c, b :: q => fun x hx => by
    cases hx with
    | head => exact mod_in _
    | tail _ hx => exact mulTI_in k d _ q x hx
theorem through_l2 (l : List S61) (x3 x5 : List Int) (x4 m : Nat) (d R' : Int) (R : List Int) (hm : m < l.length) (hk : F251 l[m].f0) (hd : F251 d) (hx5 : all251 x5) (h20 : x5.length ≤ 1000) :
    ∀ (rem pre done : List Int) (c : Int), x5 = pre ++ rem → done.length = pre.length → F251 c →
    Ev (fun k => pianolaref09_through.l1 k (l.map g91) x3 (x4 : Int) (done ++ mulTI l[m].f0 d c rem) ((m + 1 : Nat) : Int)) R →
    m ≤ 1000000 →
    Ev (fun k => pianolaref09_through.l2 k (l.map g91) x3 (x4 : Int) x5 (m : Int) d (done ++ tailZ c rem) (pre.length : Int)) R := by
  intro rem
  induction rem with
  | nil =>
    intro pre done c e hl hc H hm1
    refine Ev.step (fun k => by rw [pianolaref09_through.l2]) ?_
    refine Ev.neg (by rw [e, List.append_nil]; omega) ?_
    rw [w_nat m (by omega)]
    exact H
  | cons b q ih =>
    intro pre done c e hl hc H hm1
    have hb : F251 b := hx5 b (by rw [e]; simp)
    obtain ⟨p0, p1⟩ := mul_bd _ _ hb hk
    obtain ⟨q0, q1⟩ := mul_bd _ _ (mod_in (b * l[m].f0)) hd
    obtain ⟨s0, s1⟩ := mul_bd _ _ hb hd
    obtain ⟨c0, c1⟩ := hc
    have hlen : x5.length = pre.length + (q.length + 1) := by rw [e]; simp
    refine Ev.step (fun k => by rw [pianolaref09_through.l2]) ?_
    refine Ev.pos (by omega) (Ev.pos (by omega) (Ev.pos (by rw [List.length_append, tailZ_len]; simp; omega) (Ev.pos (by omega) (Ev.pos (by simp; omega) ?_))))
    have e5 : rd x5 (pre.length : Int) = b := by rw [e]; exact rd_mid pre b q
    have e8 : rd (done ++ tailZ c (b :: q)) (pre.length : Int) = c := by rw [← hl]; exact rd_mid done c _
    rw [e5, e8, rd91_g l m hm]
    simp only [g91]
    rw [show wrap64 (b * l[m].f0) = b * l[m].f0 by unfold wrap64; omega, Int.tmod_eq_emod_of_nonneg p0, show wrap64 ((b * l[m].f0) % 251 * d) = (b * l[m].f0) % 251 * d by unfold wrap64; omega,
      show wrap64 (c - (b * l[m].f0) % 251 * d) = c - (b * l[m].f0) % 251 * d by unfold wrap64; omega, mod_f _ (by omega) (by omega)]
    refine Ev.bind (Ev.now _) (Ev.bind (Ev.now _) ?_)
    rw [w_nat pre.length (by omega), Int.toNat_natCast, ← hl]
    have es : (done ++ tailZ c (b :: q)).set done.length ((c - (b * l[m].f0) % 251 * d) % 251) = done ++ (c - (b * l[m].f0) % 251 * d) % 251 :: List.replicate q.length 0 := set_mid _ _ _ _
    rw [es]
    have hpre : ((pre ++ [b]).length : Int) = ((done.length + 1 : Nat) : Int) := by rw [List.length_append, hl]; simp
    have hdone : (done ++ [(c - (b * l[m].f0) % 251 * d) % 251]).length = (pre ++ [b]).length := by simp [hl]
    cases q with
    | nil =>
      refine Ev.neg (by rw [hlen]; simp; omega) ?_
      have := ih (pre ++ [b]) (done ++ [(c - (b * l[m].f0) % 251 * d) % 251]) 0 (by rw [e]; simp) hdone ⟨by omega, by omega⟩ (by simpa [mulTI] using H) hm1
      rw [hpre] at this
      simpa [tailZ] using this
    | cons b2 q2 =>
      refine Ev.pos (by rw [hlen]; simp; omega) (Ev.pos (by omega) (Ev.pos (by rw [List.length_append, tailZ_len]; simp; omega) ?_))
      have er : rd (done ++ (c - (b * l[m].f0) % 251 * d) % 251 :: List.replicate (b2 :: q2).length 0) ((done.length + 1 : Nat) : Int) = 0 := by
        have := rd_mid (done ++ [(c - (b * l[m].f0) % 251 * d) % 251]) 0 (List.replicate q2.length 0)
        rw [List.length_append] at this
        simpa [List.replicate_succ] using this
      rw [er, show wrap64 (b * d) = b * d by unfold wrap64; omega, show wrap64 (0 + b * d) = 0 + b * d by unfold wrap64; omega, mod_f _ (by omega) (by omega)]
      refine Ev.bind (Ev.now _) ?_
      have := ih (pre ++ [b]) (done ++ [(c - (b * l[m].f0) % 251 * d) % 251]) ((0 + b * d) % 251) (by rw [e]; simp) hdone (mod_in _) (by
        rw [List.append_assoc, List.singleton_append]
        exact H) hm1
      rw [hpre] at this
      have e9 : (done ++ (c - (b * l[m].f0) % 251 * d) % 251 :: List.replicate (b2 :: q2).length 0).set (((done.length + 1 : Nat) : Int)).toNat ((0 + b * d) % 251) = done ++ [(c - (b * l[m].f0) % 251 * d) % 251] ++ tailZ ((0 + b * d) % 251) (b2 :: q2) := by
        simp [List.replicate_succ, tailZ]
      rw [e9]
      exact this
def mulT (k d : K251) : K251 → List K251 → List K251
  | _, [] => []
  | c, b :: q => (c - b * k * d) :: mulT k d (b * d) q
def mulD (k d : K251) : K251 → List K251 → List K251
  | c, [] => [c]
  | c, b :: q => (c - b * k * d) :: mulD k d (b * d) q
theorem mulTI_fk (k d : Int) : ∀ (c : Int) (q : List Int), (mulTI k d c q).map fk = mulT (fk k) (fk d) (fk c) (q.map fk)
  | _, [] => rfl
  | c, b :: q => by
    simp only [mulTI, List.map_cons, mulT]
    rw [mulTI_fk k d _ q, fk_mod, fk_sub, fk_mul, fk_mod, fk_mul, fk_mod, fk_add, fk_mul, fk_zero, show (0 : K251) + fk b * fk d = fk b * fk d by grind]
theorem mulT_zeros (k d : K251) : ∀ m : Nat, mulT k d 0 (List.replicate m 0) = List.replicate m 0
  | 0 => rfl
  | m + 1 => by
    rw [List.replicate_succ]
    simp only [mulT]
    rw [show (0 : K251) * d = 0 by grind, mulT_zeros k d m, show (0 : K251) - 0 * k * d = 0 by grind]
theorem mulT_mulD (k d : K251) (m : Nat) : ∀ (c : K251) (q : List K251), mulT k d c (q ++ List.replicate (m + 1) 0) = mulD k d c q ++ List.replicate m 0
  | c, [] => by
    rw [List.nil_append, List.replicate_succ]
    simp only [mulT, mulD]
    rw [show (0 : K251) * d = 0 by grind, mulT_zeros k d m, show c - 0 * k * d = c by grind]
    rfl
  | c, b :: q => by
    simp only [List.cons_append, mulT, mulD]
    rw [mulT_mulD k d m _ q]
theorem mulD_len (k d : K251) : ∀ (c : K251) (q : List K251), (mulD k d c q).length = q.length + 1
  | _, [] => rfl
  | _, b :: q => by simp [mulD, mulD_len k d _ q]
theorem mulD_eF (k d x : K251) : ∀ (c : K251) (q : List K251), eF (mulD k d c q) x = c + d * (x - k) * eF q x
  | c, [] => by simp only [mulD, eF]; grind
  | c, b :: q => by
    simp only [mulD, eF]
    rw [mulD_eF k d x _ q]
    grind
theorem prodF_snoc (x : K251) (a b : S61) : ∀ l : List S61, prodF x a (l ++ [b]) = prodF x a l * facF x a b
  | [] => by show facF x a b * 1 = 1 * facF x a b; grind
  | c :: l => by
    show facF x a c * prodF x a (l ++ [b]) = facF x a c * prodF x a l * facF x a b
    rw [prodF_snoc x a b l]
    grind
theorem sumF_snoc (f : S61 → K251) (b : S61) : ∀ l : List S61, sumF f (l ++ [b]) = sumF f l + f b
  | [] => by show f b + 0 = 0 + f b; grind
  | c :: l => by
    show f c + sumF f (l ++ [b]) = f c + sumF f l + f b
    rw [sumF_snoc f b l]
    grind
theorem kd_at {l : List S61} (h : KD l) {i j : Nat} (hi : i < l.length) (hj : j < l.length) : l[i].f0 = l[j].f0 ↔ i = j := by
  constructor
  · intro e
    have hn := h.nd
    have hp := List.pairwise_iff_getElem.1 hn
    rcases Nat.lt_trichotomy i j with c | c | c
    · exact absurd (by rw [List.getElem_map, List.getElem_map]; exact e) (hp i j (by simpa using hi) (by simpa using hj) c)
    · exact c
    · exact absurd (by rw [List.getElem_map, List.getElem_map]; exact e.symm) (hp j i (by simpa using hj) (by simpa using hi) c)
  · rintro rfl; rfl
theorem through_l1 (l : List S61) (hk : KD l) (h20 : l.length ≤ 1000) (x3 : List Int) (i : Nat) (hi : i < l.length) (R : List Int)
    (H : ∀ one : List Int, one.length = l.length → all251 one → (∀ x, eF (one.map fk) x = prodF x l[i] l) → Ev (fun k => pianolaref09_through.l3 k (l.map g91) x3 (i : Int) one 0) R) :
    ∀ (d m : Nat) (x5 : List Int) (q : List K251), m + d = l.length → x5.length = l.length → all251 x5 → x5.map fk = q ++ List.replicate (l.length - q.length) 0 → q.length = 1 + (if m ≤ i then m else m - 1) → (∀ x, eF q x = prodF x l[i] (l.take m)) →
    Ev (fun k => pianolaref09_through.l1 k (l.map g91) x3 (i : Int) x5 (m : Int)) R := by
  intro d
  induction d with
  | zero =>
    intro m x5 q hm hl5 ha hq hql he
    refine Ev.step (fun k => by rw [pianolaref09_through.l1]) ?_
    refine Ev.neg (by simp; omega) ?_
    refine H x5 hl5 ha (fun x => ?_)
    rw [hq, eF_zeros, he x, List.take_of_length_le (by omega)]
  | succ d ih =>
    intro m x5 q hm hl5 ha hq hql he
    have hlt : m < l.length := by omega
    refine Ev.step (fun k => by rw [pianolaref09_through.l1]) ?_
    refine Ev.pos (by simp; omega) ?_
    by_cases c : m = i
    · subst c
      refine Ev.pos rfl ?_
      rw [w_nat m (by omega)]
      refine ih (m + 1) x5 q (by omega) hl5 ha hq (by rw [hql, if_pos (Nat.le_refl _), if_neg (by omega)]; omega) (fun x => ?_)
      rw [take_at l m hlt, prodF_snoc, he x]
      unfold facF
      rw [if_pos rfl]
      grind
    · have ne : ¬ l[i].f0 = l[m].f0 := fun e => c ((kd_at hk hi hlt).1 e).symm
      refine Ev.neg (by omega) (Ev.pos (by omega) (Ev.pos (by simp; omega) (Ev.pos (by omega) ?_)))
      have h1 := hk.k l[i] (List.getElem_mem hi)
      have h2 := hk.k l[m] (List.getElem_mem hlt)
      obtain ⟨h10, h11⟩ := h1
      obtain ⟨h20', h21⟩ := h2
      rw [rd91_g l i hi, rd91_g l m hlt]
      simp only [g91]
      rw [show wrap64 (l[i].f0 - l[m].f0) = l[i].f0 - l[m].f0 by unfold wrap64; omega, mod_f _ (by omega) (by omega)]
      refine Ev.bind (Ev.now _) (Ev.bind (ref_inv _ (mod_in _) (by omega)) ?_)
      refine Ev.pos (by omega) (Ev.pos (by simp; omega) ?_)
      obtain ⟨b5, q5, e5⟩ : ∃ b q', x5 = b :: q' := by
        cases x5 with
        | nil => simp at hl5; omega
        | cons b q' => exact ⟨b, q', rfl⟩
      have hqlt : q.length + 1 ≤ l.length := by
        rw [hql]
        split <;> omega
      have := through_l2 l x3 x5 i m (inv ((l[i].f0 - l[m].f0) % 251)) 0 R hlt ⟨h20', h21⟩ (inv_in _) ha (by omega) x5 [] [] 0 rfl rfl ⟨by omega, by omega⟩ ?_ (by omega)
      · simp only [List.nil_append, List.length_nil] at this
        have e8 : tailZ 0 x5 = List.replicate ((l.map g91).length : Int).toNat 0 := by
          rw [e5]
          show 0 :: List.replicate q5.length 0 = _
          rw [← List.replicate_succ]
          congr 1
          rw [e5] at hl5
          simp at hl5 ⊢
          omega
        rw [e8] at this
        exact this
      · rw [List.nil_append]
        refine ih (m + 1) _ (mulD (fk l[m].f0) (fk (inv ((l[i].f0 - l[m].f0) % 251))) 0 q) (by omega) (by rw [mulTI_len, hl5]) (mulTI_in _ _ _ _) ?_ ?_ (fun x => ?_)
        · rw [mulTI_fk, hq, mulD_len, show l.length - q.length = (l.length - (q.length + 1)) + 1 by omega, fk_zero]
          exact mulT_mulD _ _ _ _ _
        · rw [mulD_len, hql]
          split <;> split <;> omega
        · rw [mulD_eF, he x, take_at l m hlt, prodF_snoc]
          unfold facF
          rw [if_neg ne, fk_inv (mod_in _), fk_mod, fk_sub]
          grind
def addI (v : Int) (a b : List Int) : List Int := List.zipWith (fun o e => (o + e * v) % 251) a b
theorem through_l3 (l : List S61) (h20 : l.length ≤ 1000) (i : Nat) (hi : i < l.length) (hv : F251 l[i].f1) (x5 : List Int) (h5 : all251 x5) (h5l : x5.length ≤ 1000) (R : List Int) :
    ∀ (r5 pre done r3 : List Int), x5 = pre ++ r5 → done.length = pre.length → r3.length = r5.length → (∀ c ∈ r3, F251 c) →
    Ev (fun k => pianolaref09_through.l0 k (l.map g91) (done ++ addI l[i].f1 r3 r5) ((i + 1 : Nat) : Int)) R →
    Ev (fun k => pianolaref09_through.l3 k (l.map g91) (done ++ r3) (i : Int) x5 (pre.length : Int)) R := by
  intro r5
  induction r5 with
  | nil =>
    intro pre done r3 e hl h3 hin H
    refine Ev.step (fun k => by rw [pianolaref09_through.l3]) ?_
    refine Ev.neg (by rw [e, List.append_nil]; omega) ?_
    rw [w_nat i (by omega)]
    cases r3 with
    | nil => exact H
    | cons => simp at h3
  | cons b q ih =>
    intro pre done r3 e hl h3 hin H
    cases r3 with
    | nil => simp at h3
    | cons c r3 =>
      have hb : F251 b := h5 b (by rw [e]; simp)
      obtain ⟨p0, p1⟩ := mul_bd _ _ hb hv
      obtain ⟨c0, c1⟩ := hin c (by simp)
      have hlen : x5.length = pre.length + (q.length + 1) := by rw [e]; simp
      refine Ev.step (fun k => by rw [pianolaref09_through.l3]) ?_
      refine Ev.pos (by omega) (Ev.pos (by omega) (Ev.pos (by simp; omega) (Ev.pos (by omega) (Ev.pos (by simp; omega) ?_))))
      have e5 : rd x5 (pre.length : Int) = b := by rw [e]; exact rd_mid pre b q
      have e8 : rd (done ++ c :: r3) (pre.length : Int) = c := by rw [← hl]; exact rd_mid done c _
      rw [e5, e8, rd91_g l i hi]
      simp only [g91]
      rw [show wrap64 (b * l[i].f1) = b * l[i].f1 by unfold wrap64; omega, show wrap64 (c + b * l[i].f1) = c + b * l[i].f1 by unfold wrap64; omega, mod_f _ (by omega) (by omega)]
      refine Ev.bind (Ev.now _) ?_
      rw [w_nat pre.length (by omega), Int.toNat_natCast, ← hl, set_mid]
      have := ih (pre ++ [b]) (done ++ [(c + b * l[i].f1) % 251]) r3 (by rw [e]; simp) (by simp [hl]) (by simpa using h3) (fun x hx => hin x (by simp [hx])) (by
        rw [List.append_assoc, List.singleton_append]
        exact H)
      rw [List.length_append, ← hl] at this
      simpa using this
theorem addI_len (v : Int) (a b : List Int) (h : a.length = b.length) : (addI v a b).length = b.length := by simp [addI, h]
theorem addI_in (v : Int) : ∀ (a b : List Int), all251 (addI v a b)
  | [], _ => fun _ h => by cases h
  | _ :: _, [] => fun _ h => by cases h
  | a :: p, b :: q => fun x hx => by
    cases hx with
    | head => exact mod_in _
    | tail _ hx => exact addI_in v p q x hx
theorem addI_eF (v : Int) (x : K251) : ∀ (a b : List Int), a.length = b.length → eF ((addI v a b).map fk) x = eF (a.map fk) x + eF (b.map fk) x * fk v
  | [], [], _ => by simp only [addI, List.zipWith_nil_left, List.map_nil, eF]; grind
  | [], _ :: _, h => by simp at h
  | _ :: _, [], h => by simp at h
  | a :: p, b :: q, h => by
    have ih := addI_eF v x p q (by simpa using h)
    simp only [addI, List.zipWith_cons_cons, List.map_cons, eF] at ih ⊢
    rw [ih, fk_mod, fk_add, fk_mul]
    grind
theorem through_ev (l : List S61) (hk : KD l) (h20 : l.length ≤ 1000) : Ev (fun k => pianolaref09_through.f k (l.map g91)) (solved l).1 := by
  unfold pianolaref09_through.f
  refine Ev.pos (by omega) (Ev.pos (by simp; omega) ?_)
  have key : ∀ (d i : Nat) (out : List Int), i + d = l.length → out.length = l.length → all251 out → (∀ x, eF (out.map fk) x = sumF (fun a => fk a.f1 * prodF x a l) (l.take i)) →
      Ev (fun k => pianolaref09_through.l0 k (l.map g91) out (i : Int)) (solved l).1 := by
    intro d
    induction d with
    | zero =>
      intro i out hd ho ha he
      refine Ev.step (fun k => by rw [pianolaref09_through.l0]) ?_
      refine Ev.neg (by simp; omega) (Ev.have ?_)
      congr 1
      refine all_fk ha (solved_in l).1 ?_
      refine fit_unique hk (by simp [ho, solved_len]) (by simp [ho]) (fun a hm => ?_) (solved_at l hk)
      rw [he, List.take_of_length_le (by omega)]
      exact lagF_at hk hm
    | succ d ih =>
      intro i out hd ho ha he
      have hi : i < l.length := by omega
      have hv := hk.v l[i] (List.getElem_mem hi)
      refine Ev.step (fun k => by rw [pianolaref09_through.l0]) ?_
      refine Ev.pos (by simp; omega) (Ev.pos (by omega) (Ev.pos (by simp; omega) (Ev.bind (Ev.now _) (Ev.pos (by simp; omega) ?_))))
      have e0 : (List.replicate ((l.map g91).length : Int).toNat (0 : Int)).set (0 : Int).toNat 1 = 1 :: List.replicate (l.length - 1) 0 := by
        rw [List.length_map, Int.toNat_natCast, show l.length = (l.length - 1) + 1 by omega, List.replicate_succ]
        rfl
      rw [e0]
      refine through_l1 l hk h20 out i hi _ (fun one h1 h2 h3 => ?_) l.length 0 _ [1] (by omega) (by simp; omega) ?_ ?_ ?_ ?_
      · refine through_l3 l h20 i hi hv one h2 (by omega) _ one [] [] out rfl rfl (by omega) ha ?_
        rw [List.nil_append]
        refine ih (i + 1) _ (by omega) (by rw [addI_len _ _ _ (by omega)]; exact h1) (addI_in _ _ _) (fun x => ?_)
        rw [addI_eF _ _ _ _ (by omega), he, h3, take_at l i hi, sumF_snoc]
        grind
      · intro c hc
        rw [List.mem_cons, List.mem_replicate] at hc
        rcases hc with rfl | ⟨_, rfl⟩
        · exact ⟨by omega, by omega⟩
        · exact ⟨by omega, by omega⟩
      · simp [fk_zero, fk_one]
      · simp
      · intro x
        show 1 + x * 0 = 1
        grind
  refine key l.length 0 _ (by omega) (by simp) ?_ (fun x => ?_)
  · intro c hc
    rw [List.mem_replicate] at hc
    rw [hc.2]
    exact ⟨by omega, by omega⟩
  · have := eF_zeros x ((l.map g91).length : Int).toNat []
    rw [List.map_replicate, fk_zero]
    exact this
theorem lieP_cons (p : List Int) (a : S61) (m : List S61) : lieP p (a :: m) = ((ev p a.f0 == a.f1) && lieP p m) := by
  unfold lieP
  rw [List.any_cons, Bool.not_or]
  simp [bne]
theorem lie_ev (p : List Int) (l : List S61) (hp : all251 p) (hpl : p.length ≤ 1000) (hl : ∀ s ∈ l, F251 s.f0) (hll : l.length ≤ 1000000) : Ev (fun k => pianolaref09_lie.f k p (l.map g91)) (lieP p l) := by
  unfold pianolaref09_lie.f
  have key : ∀ (d n : Nat), n + d = l.length → Ev (fun k => pianolaref09_lie.l0 k p (l.map g91) (n : Int)) (lieP p (l.drop n)) := by
    intro d
    induction d with
    | zero =>
      intro n hd
      refine Ev.step (fun k => by rw [pianolaref09_lie.l0]) ?_
      refine Ev.neg (by simp; omega) (Ev.have ?_)
      rw [List.drop_of_length_le (by omega)]; rfl
    | succ d ih =>
      intro n hd
      have hlt : n < l.length := by omega
      refine Ev.step (fun k => by rw [pianolaref09_lie.l0]) ?_
      refine Ev.pos (by simp; omega) (Ev.pos (by omega) ?_)
      rw [rd91_g l n hlt]
      simp only [g91]
      refine Ev.bind (value_ev p _ (hl _ (List.getElem_mem hlt)) hp (by omega)) ?_
      rw [w_nat n (by omega), drop_at l n hlt]
      by_cases c : ev p l[n].f0 = l[n].f1
      · refine Ev.pos c ?_
        have := ih (n + 1) (by omega)
        rw [lieP_cons, beq_iff_eq.2 c, Bool.true_and]
        exact this
      · refine Ev.neg c (Ev.have ?_)
        rw [lieP_cons, beq_eq_false_iff_ne.2 c, Bool.false_and]
  exact key l.length 0 (by omega)
theorem agree_same {need : Int} {l : List S61} (h : Fine need l) (hl : need < l.length) : lieP (solved (l.take need.toNat)).1 l = agreeB need l := by
  have hn : ((need.toNat : Nat) : Int) = need := by have := h.n0; omega
  have h1 := agreeB_fit (n := need.toNat) h.kd
  have h2 := lieP_fit (n := need.toNat) h.kd (by omega)
  rw [hn] at h1
  rw [Bool.eq_iff_iff]
  exact h2.trans h1.symm
theorem map_take' (l : List S61) (n : Nat) : (l.map g91).take n = (l.take n).map g91 := (List.map_take).symm
theorem refagree_ev {need : Int} {l : List S61} (h : Fine need l) : Ev (fun k => pianolaref09_agree.f k need (l.map g91)) (agreeB need l) := by
  unfold pianolaref09_agree.f
  have n0 := h.n0
  have n1 := h.n1
  have hl := h.len
  by_cases c : (l.length : Int) ≤ need
  · refine Ev.pos (by simpa using c) (Ev.have ?_)
    unfold agreeB
    rw [if_pos c]
  · refine Ev.neg (by simpa using c) (Ev.pos (by omega) (Ev.pos (by simp; omega) ?_))
    rw [map_take']
    refine Ev.bind (through_ev _ (h.kd.sub (List.take_sublist _ _)) (by simp; omega)) ?_
    refine Ev.bind (lie_ev _ l (solved_in _).1 (by rw [solved_len]; simp; omega) h.kd.k (by omega)) (Ev.have ?_)
    rw [agree_same h (by omega)]
def agreeR (need : Int) (l : List S61) : Bool × Int := if checkE need l = 0 then (agreeB need l, 0) else (false, checkE need l)
theorem okSB_of {l : List S61} (h : ∀ s ∈ l, Good s) : okSB l = true := by
  unfold okSB
  rw [List.all_eq_true]
  intro a ha
  have := h a ha
  unfold Good at this
  simp only [Bool.and_eq_true, decide_eq_true_eq]
  omega
theorem agree_f {need : Int} {l : List S61} (h : Fine need l) : vault_agree.f need l = some (agreeB need l) := by
  unfold vault_agree.f
  have := h.n0
  have := h.len
  rw [if_pos (by simp only [Bool.and_eq_true, decide_eq_true_eq]; exact ⟨⟨okSB_of h.good, by omega⟩, by omega⟩)]
theorem vcheck_f (need : Int) (l : List S61) : vault_check.f need l = some (checkE need l) := rfl
theorem Agree_f (need : Int) (l : List S61) : vault_Agree.f need l = some (agreeR need l) := by
  unfold vault_Agree.f agreeR
  rw [vcheck_f, Option.bind_some]
  by_cases h : checkE need l = 0
  · rw [if_pos h, if_pos h, agree_f (checkE_fine h)]; rfl
  · rw [if_neg h, if_neg h]
theorem numbers_ev (a b : List Int) (h : a.length ≤ 1000000) : Ev (fun k => pianolalaw09_numbers.f k a b) (decide (a = b)) := by
  unfold pianolalaw09_numbers.f
  by_cases hl : a.length = b.length
  · refine Ev.pos (by omega) ?_
    have key : ∀ (d n : Nat), n + d = a.length → Ev (fun k => pianolalaw09_numbers.l0 k a b (n : Int)) (decide (a.drop n = b.drop n)) := by
      intro d
      induction d with
      | zero =>
        intro n hd
        refine Ev.step (fun k => by rw [pianolalaw09_numbers.l0]) ?_
        refine Ev.neg (by omega) (Ev.have ?_)
        rw [List.drop_of_length_le (by omega), List.drop_of_length_le (by omega)]
        simp
      | succ d ih =>
        intro n hd
        have h1 : n < a.length := by omega
        have h2 : n < b.length := by omega
        refine Ev.step (fun k => by rw [pianolalaw09_numbers.l0]) ?_
        refine Ev.pos (by omega) (Ev.pos (by omega) (Ev.pos (by omega) ?_))
        rw [rd_at a n h1, rd_at b n h2, w_nat n (by omega), drop_at a n h1, drop_at b n h2]
        by_cases c : a[n] = b[n]
        · refine Ev.pos c ?_
          have := ih (n + 1) (by omega)
          rw [show decide (a[n] :: a.drop (n + 1) = b[n] :: b.drop (n + 1)) = decide (a.drop (n + 1) = b.drop (n + 1)) from decide_eq_decide.2 (by rw [List.cons.injEq]; exact ⟨fun h => h.2, fun h => ⟨c, h⟩⟩)]
          exact this
        · refine Ev.neg c (Ev.have ?_)
          rw [decide_eq_false (fun e => c (List.cons.inj e).1)]
    exact key a.length 0 (by omega)
  · refine Ev.neg (by omega) (Ev.have ?_)
    rw [decide_eq_false]
    intro e
    rw [e] at hl
    exact hl rfl
def restoreR (need : Int) (l : List S61) : List Int × Int :=
  if checkE need l ≠ 0 then ([], checkE need l) else if (l.length : Int) < need then ([], 8) else if lieP (solved (l.take need.toNat)).1 l = false then ([], 15) else ((solved (l.take need.toNat)).1, 0)
theorem Restore_f (need : Int) (l : List S61) : vault_Restore.f need l = some (restoreR need l) := rfl
def secretR (need : Int) (l : List S61) : Int × Int := if (restoreR need l).2 = 0 then (rd (restoreR need l).1 0, 0) else (0, (restoreR need l).2)
theorem restoreR_len {need : Int} {l : List S61} (h : (restoreR need l).2 = 0) : ((restoreR need l).1.length : Int) = need ∧ 1 ≤ need := by
  unfold restoreR at h ⊢
  by_cases h1 : checkE need l = 0
  · have hf := checkE_fine h1
    have n0 := hf.n0
    rw [if_neg (by simpa using h1)] at h ⊢
    split at h
    · simp at h
    · split at h
      · simp at h
      · rename_i c1 c2
        rw [if_neg c1, if_neg c2]
        show ((solved (l.take need.toNat)).1.length : Int) = need ∧ _
        rw [solved_len, List.length_take]
        omega
  · rw [if_pos h1] at h
    exact absurd h h1
theorem Secret_f (need : Int) (l : List S61) : vault_Secret.f need l = some (secretR need l) := by
  unfold vault_Secret.f secretR
  rw [Restore_f, Option.bind_some]
  by_cases h : (restoreR need l).2 = 0
  · have := restoreR_len h
    rw [if_pos h, if_pos h, if_pos (by omega)]
  · rw [if_neg h, if_neg h]
end Go.Proofs.Ytpfkfbbekfkcgaa.P
end
section
namespace Go.Proofs.Ytpfkfbbekfkcgaa.P
open Go.RowKit Go.Proofs.YtpfkfbbekfkcgaaW.PrintWords Go.Proofs.YtpfkfbbekfkcgaaW.PrintLast Go.Proofs.YtpfkfbbekfkcgaaW.PrintMore
set_option linter.unusedVariables false
set_option linter.unusedSimpArgs false
def addS (a b : List S61) : List S61 := List.zipWith (fun s t => (⟨s.f0, (s.f1 + t.f1) % 251⟩ : S61)) a b
theorem addS_len {a b : List S61} (h : a.length = b.length) : (addS a b).length = a.length := by simp [addS, h]
theorem addS_take {a b : List S61} (h : a.length = b.length) (n : Nat) (hn : n < a.length) : (addS a b).take (n + 1) = (addS a b).take n ++ [⟨a[n].f0, (a[n].f1 + (b[n]'(by omega)).f1) % 251⟩] := by
  rw [take_at _ n (by rw [addS_len h]; exact hn)]
  simp [addS]
def addR (a b : List S61) : List S61 × Int :=
  if checkE 1 a ≠ 0 then ([], checkE 1 a) else if checkE 1 b ≠ 0 then ([], checkE 1 b) else if eqK a b = true then (addS a b, 0) else ([], 14)
theorem Add_ev (a b : List S61) : Ev (fun k => vault_Add.f k a b) (addR a b) := by
  unfold vault_Add.f addR
  refine Ev.bind (Ev.now _) ?_
  refine Ev.step (fun k => by rw [vault_Add.l0]) ?_
  refine Ev.pos (by simp) (Ev.pos (by omega) (Ev.pos (by simp) ?_))
  rw [show rd_L4 [a, b] 0 = a from rfl, vcheck_f]
  refine Ev.bind (Ev.now _) ?_
  by_cases h1 : checkE 1 a = 0
  · refine Ev.pos h1 ?_
    rw [if_neg (by simpa using h1), show wrap64 (0 + 1) = 1 by unfold wrap64; omega]
    refine Ev.step (fun k => by rw [vault_Add.l0]) ?_
    refine Ev.pos (by simp) (Ev.pos (by omega) (Ev.pos (by simp) ?_))
    rw [show rd_L4 [a, b] 1 = b from rfl, vcheck_f]
    refine Ev.bind (Ev.now _) ?_
    by_cases h2 : checkE 1 b = 0
    · refine Ev.pos h2 ?_
      rw [if_neg (by simpa using h2), show wrap64 (1 + 1) = 2 by unfold wrap64; omega]
      refine Ev.step (fun k => by rw [vault_Add.l0]) ?_
      refine Ev.neg (by simp) ?_
      have fa := checkE_fine h1
      have fb := checkE_fine h2
      have la := fa.len
      rw [show equal_keepers.f a b = some (eqK a b) by unfold equal_keepers.f; rw [if_pos (by omega)]]
      refine Ev.bind (Ev.now _) ?_
      by_cases e : eqK a b = true
      · refine Ev.pos e ?_
        rw [if_pos e]
        have hl := eqK_len e
        have key : ∀ (d n : Nat), n + d = a.length → Ev (fun k => vault_Add.l1 k b ((addS a b).take n) a (a.length : Int) (n : Int)) (addS a b, 0) := by
          intro d
          induction d with
          | zero =>
            intro n hd
            refine Ev.step (fun k => by rw [vault_Add.l1]) ?_
            refine Ev.neg (by omega) (Ev.have ?_)
            rw [List.take_of_length_le (by rw [addS_len hl]; omega)]
          | succ d ih =>
            intro n hd
            have hn : n < a.length := by omega
            have hb : n < b.length := by omega
            refine Ev.step (fun k => by rw [vault_Add.l1]) ?_
            refine Ev.pos (by omega) (Ev.pos (by omega) (Ev.pos (by omega) (Ev.pos (by omega) ?_)))
            rw [rd61_at a n hn, rd61_at b n hb, plus_f _ _ (fa.kd.v _ (List.getElem_mem hn)) (fb.kd.v _ (List.getElem_mem hb))]
            refine Ev.bind (Ev.now _) (Ev.pos (by rw [List.length_take]; omega) ?_)
            rw [w_nat n (by omega), ← addS_take hl n hn]
            exact ih (n + 1) (by omega)
        have := key a.length 0 (by omega)
        exact this
      · refine Ev.neg e (Ev.have ?_)
        rw [if_neg e]
    · refine Ev.neg h2 (Ev.have ?_)
      rw [if_pos h2]
  · refine Ev.neg h1 (Ev.have ?_)
    rw [if_pos h1]
def bytesL (l : List Int) : Prop := ∀ x ∈ l, 0 ≤ x ∧ x ≤ 255
theorem wf_u8 {x : Int} (h : (Lit.int .u8 x).wf = true) : 0 ≤ x ∧ x ≤ 255 := by
  simp only [Lit.wf, IntKind.min, IntKind.max, IntKind.signed, IntKind.bits, Bool.and_eq_true, decide_eq_true_eq, if_true] at h
  simpa using h
theorem bytes_of {l : List Int} (h : ∀ x ∈ l, (Lit.int .u8 x).wf = true) : bytesL l := fun x hx => wf_u8 (h x hx)
def madeTo (l : List Int) (n : Nat) : List Int := (l.take n).map fun x => x % 251
def madeR (l : List Int) : List Int := if l = [] then [0] else madeTo l 8
theorem madeR_in (l : List Int) : all251 (madeR l) := by
  unfold madeR
  split
  · intro x hx
    rw [List.mem_singleton] at hx
    subst hx
    exact ⟨by omega, by omega⟩
  · intro x hx
    obtain ⟨y, _, rfl⟩ := List.mem_map.1 hx
    exact mod_in _
theorem madeR_len (l : List Int) : 1 ≤ (madeR l).length ∧ (madeR l).length ≤ 8 := by
  unfold madeR
  split
  · simp
  · rename_i h
    have : 0 < l.length := List.length_pos_iff.2 h
    simp [madeTo]
    omega
theorem made_ev (l : List Int) (hb : bytesL l) (hl : l.length ≤ 4611686018427387904) : Ev (fun k => pianolalaw09_Lock_made.f k l) (madeR l) := by
  unfold pianolalaw09_Lock_made.f
  have fin : ∀ n : Nat, n ≤ l.length → (n = l.length ∨ n = 8) → n ≤ 8 → Ev (fun _ => if ((madeTo l n).length : Int) = 0 then some ([0] : List Int) else some (madeTo l n)) (madeR l) := by
    intro n hn h h8
    have e : (madeTo l n).length = n := by simp [madeTo]; omega
    have e2 : madeTo l n = madeTo l 8 := by
      rcases h with h | h
      · unfold madeTo
        rw [List.take_of_length_le (by omega), List.take_of_length_le (by omega)]
      · rw [h]
    unfold madeR
    by_cases z : l = []
    · rw [if_pos z]
      subst z
      have : n = 0 := by simpa using hn
      subst this
      exact Ev.pos (by simp [madeTo]) (Ev.now _)
    · rw [if_neg z]
      have : 0 < l.length := List.length_pos_iff.2 z
      refine Ev.neg (by rw [e]; omega) (Ev.have (by rw [e2]))
  have key : ∀ (d n : Nat), n + d = 8 → n ≤ l.length → Ev (fun k => pianolalaw09_Lock_made.l0 k l (madeTo l n) (n : Int)) (madeR l) := by
    intro d
    induction d with
    | zero =>
      intro n hd hn
      refine Ev.step (fun k => by rw [pianolalaw09_Lock_made.l0]) ?_
      by_cases c : n < l.length
      · exact Ev.pos (by omega) (Ev.neg (by omega) (fin n hn (.inr (by omega)) (by omega)))
      · exact Ev.neg (by omega) (fin n hn (.inr (by omega)) (by omega))
    | succ d ih =>
      intro n hd hn
      refine Ev.step (fun k => by rw [pianolalaw09_Lock_made.l0]) ?_
      by_cases c : n < l.length
      · refine Ev.pos (by omega) (Ev.pos (by omega) (Ev.pos (by omega) (Ev.pos (by simp [madeTo]; omega) ?_)))
        obtain ⟨x0, x1⟩ := hb l[n] (List.getElem_mem c)
        rw [rd_at l n c, show wrap64 l[n] = l[n] by unfold wrap64; omega, Int.tmod_eq_emod_of_nonneg x0, w_nat n (by omega)]
        have := ih (n + 1) (by omega) (by omega)
        unfold madeTo at this
        rw [take_at l n c, List.map_append] at this
        exact this
      · exact Ev.neg (by omega) (fin n hn (.inl (by omega)) (by omega))
  have := key 8 0 (by omega) (by omega)
  exact this
def pw (x : K251) : Nat → K251
  | 0 => 1
  | n + 1 => pw x n * x
theorem at_ev (l : List Int) (x : Int) (hx : F251 x) (hl : all251 l) (hn : l.length ≤ 1000000) : Ev (fun k => pianolalaw09_at.f k l x) (ev l x) := by
  unfold pianolalaw09_at.f
  obtain ⟨x0, x1⟩ := hx
  have key : ∀ (d n : Nat) (s : Int), n + d = l.length → F251 s → fk (ev l x) = fk s + pw (fk x) n * eF ((l.drop n).map fk) (fk x) → Ev (fun k => pianolalaw09_at.l0 k x s l (l.length : Int) (n : Int)) (ev l x) := by
    intro d
    induction d with
    | zero =>
      intro n s hd hs he
      refine Ev.step (fun k => by rw [pianolalaw09_at.l0]) ?_
      refine Ev.neg (by omega) (Ev.have ?_)
      rw [List.drop_of_length_le (by omega)] at he
      simp only [List.map_nil, eF] at he
      rw [fk_inj (ev_in l x).1 (ev_in l x).2 hs.1 hs.2 (by rw [he]; grind)]
    | succ d ih =>
      intro n s hd hs he
      have hlt : n < l.length := by omega
      have hc := hl _ (List.getElem_mem hlt)
      refine Ev.step (fun k => by rw [pianolalaw09_at.l0]) ?_
      refine Ev.pos (by omega) (Ev.pos (by omega) (Ev.pos (by omega) ?_))
      rw [rd_at l n hlt]
      have inner : ∀ (e m : Nat) (c : Int), m + e = n → F251 c → fk c = fk l[n] * pw (fk x) m → Ev (fun k => pianolalaw09_at.l1 k x s (n : Int) c (m : Int) l (l.length : Int) (n : Int)) (ev l x) := by
        intro e
        induction e with
        | zero =>
          intro m c hm hcb hce
          obtain ⟨c0, c1⟩ := hcb
          obtain ⟨s0, s1⟩ := hs
          refine Ev.step (fun k => by rw [pianolalaw09_at.l1]) ?_
          refine Ev.neg (by omega) ?_
          rw [show wrap64 (s + c) = s + c by unfold wrap64; omega, Int.tmod_eq_emod_of_nonneg (by omega), w_nat n (by omega)]
          refine ih (n + 1) _ (by omega) (mod_in _) ?_
          have : m = n := by omega
          subst this
          rw [he, drop_at l m hlt, fk_mod, fk_add, hce]
          simp only [List.map_cons, eF, pw]
          grind
        | succ e ihe =>
          intro m c hm hcb hce
          obtain ⟨p0, p1⟩ := mul_bd c x hcb ⟨x0, x1⟩
          refine Ev.step (fun k => by rw [pianolalaw09_at.l1]) ?_
          refine Ev.pos (by omega) ?_
          rw [show wrap64 (c * x) = c * x by unfold wrap64; omega, Int.tmod_eq_emod_of_nonneg p0, w_nat m (by omega)]
          refine ihe (m + 1) _ (by omega) (mod_in _) ?_
          rw [fk_mod, fk_mul, hce]
          simp only [pw]
          grind
      refine inner n 0 l[n] (by omega) hc ?_
      simp only [pw]
      grind
  refine key l.length 0 0 (by omega) ⟨by omega, by omega⟩ ?_
  rw [fk_ev, fk_zero, List.drop_zero]
  simp only [pw]
  grind
theorem nodup_len {α : Type} [DecidableEq α] : ∀ {l m : List α}, l.Nodup → (∀ x ∈ l, x ∈ m) → l.length ≤ m.length
  | [], _, _, _ => Nat.zero_le _
  | a :: l, m, h, hm => by
    rw [List.nodup_cons] at h
    have h1 := nodup_len (m := m.erase a) h.2 (fun x hx => (List.mem_erase_of_ne (fun e : x = a => h.1 (by rw [← e]; exact hx))).2 (hm x (List.mem_cons_of_mem _ hx)))
    have ha := hm a (List.mem_cons_self ..)
    have := List.length_pos_of_mem ha
    rw [List.length_erase_of_mem ha] at h1
    rw [List.length_cons]
    omega
def metL (m : List Int) : List Bool := (List.range 21).map fun j : Nat => decide ((j : Int) ∈ m)
theorem metL_rd (m : List Int) (k : Int) (k0 : 0 ≤ k) (k1 : k ≤ 20) : rdOf false (metL m) k = decide (k ∈ m) := by
  unfold rdOf metL
  rw [List.getD_eq_getElem?_getD, List.getElem?_map, List.getElem?_range (by omega)]
  simp [Int.toNat_of_nonneg k0]
theorem metL_set (m : List Int) (k : Int) (k0 : 0 ≤ k) : (metL m).set k.toNat true = metL (m ++ [k]) := by
  unfold metL
  refine List.ext_getElem (by simp) (fun j h1 h2 => ?_)
  rw [List.getElem_set]
  simp only [List.getElem_map, List.getElem_range, List.mem_append, List.mem_singleton]
  by_cases c : k.toNat = j
  · rw [if_pos c]
    have : (j : Int) = k := by omega
    simp [this]
  · rw [if_neg c]
    have : ¬ (j : Int) = k := by omega
    simp [this]
theorem metL_nil : metL [] = List.replicate 21 false := by decide
def onS (c : List Int) (kp : List Int) : List S61 := kp.map fun k => ⟨k, ev c k⟩
structure Kp (kp : List Int) (least : Int) : Prop where
  nd : kp.Nodup
  r : ∀ k ∈ kp, 1 ≤ k ∧ k ≤ 20
  le : least ≤ kp.length
theorem Kp.len {kp : List Int} {least : Int} (h : Kp kp least) : kp.length ≤ 20 := by
  have := nodup_len (m := (List.range 20).map fun j : Nat => ((j + 1 : Nat) : Int)) h.nd (fun x hx => by
    have := h.r x hx
    exact List.mem_map.2 ⟨(x - 1).toNat, List.mem_range.2 (by omega), by omega⟩)
  simpa using this
theorem some_ex (by_ : List Int) (hb : bytesL by_) (hbl : by_.length ≤ 140737488351232) (least : Int) (hl : least ≤ 20) :
    ∃ kp, Kp kp least ∧ ∀ c : List Int, all251 c → c.length ≤ 8 → Ev (fun k => pianolalaw09_some.f k c by_ least) (onS c kp) := by
  have put : ∀ (c m : List Int) (k : Int), onS c (m ++ [k]) = onS c m ++ [⟨k, ev c k⟩] := fun c m k => by simp [onS]
  have two : ∀ (d i : Nat) (m : List Int), by_.length ≤ i → i ≤ by_.length + 20 → m.Nodup → (∀ k ∈ m, 1 ≤ k ∧ k ≤ 20) → (∀ k : Int, 1 ≤ k → k ≤ 20 → k ∈ m ∨ ∃ j : Nat, i ≤ j ∧ j < i + d ∧ k = 1 + (j : Int) % 20) → i + d ≤ by_.length + 20 →
      ∃ kp, Kp kp least ∧ ∀ c : List Int, all251 c → c.length ≤ 8 → Ev (fun k => pianolalaw09_some.l0 k c by_ least (metL m) (onS c m) (i : Int)) (onS c kp) := by
    intro d
    induction d with
    | zero =>
      intro i m hi hi2 hn hr hcov hd
      have h20 : 20 ≤ m.length := by
        have := nodup_len (l := (List.range 20).map fun j : Nat => ((j + 1 : Nat) : Int)) (m := m) (nodup_map List.nodup_range (fun a _ b _ e => by omega)) (fun x hx => by
          obtain ⟨j, hj, rfl⟩ := List.mem_map.1 hx
          have hj := List.mem_range.1 hj
          rcases hcov ((j + 1 : Nat) : Int) (by omega) (by omega) with h | ⟨q, _, _, _⟩
          · exact h
          · omega)
        simpa using this
      refine ⟨m, ⟨hn, hr, by omega⟩, fun c _ _ => ?_⟩
      refine Ev.step (fun k => by rw [pianolalaw09_some.l0]) ?_
      refine Ev.neg (by omega) ?_
      refine Ev.step (fun k => by rw [pianolalaw09_some.j1]) ?_
      exact Ev.neg (by simp [onS]; omega) (Ev.now _)
    | succ d ih =>
      intro i m hi hi2 hn hr hcov hd
      by_cases c0 : (m.length : Int) < least
      · have e1 : wrap64 (1 + (Int.tmod (i : Int) 20)) = 1 + (i : Int) % 20 := by
          rw [Int.tmod_eq_emod_of_nonneg (by omega)]; unfold wrap64; omega
        by_cases cm : (1 + (i : Int) % 20) ∈ m
        · obtain ⟨kp, hk, hev⟩ := ih (i + 1) m (by omega) (by omega) hn hr (fun k k0 k1 => by
            rcases hcov k k0 k1 with h | ⟨j, j0, j1, e⟩
            · exact .inl h
            · by_cases hj : j = i
              · subst hj; exact .inl (e ▸ cm)
              · exact .inr ⟨j, by omega, by omega, e⟩) (by omega)
          refine ⟨kp, hk, fun c hc hcl => ?_⟩
          refine Ev.step (fun k => by rw [pianolalaw09_some.l0]) ?_
          refine Ev.neg (by omega) ?_
          refine Ev.step (fun k => by rw [pianolalaw09_some.j1]) ?_
          refine Ev.pos (by simp [onS]; omega) (Ev.neg (by omega) ?_)
          rw [e1]
          refine Ev.pos (by omega) (Ev.pos (by simp [metL]; omega) ?_)
          rw [metL_rd m _ (by omega) (by omega), w_nat i (by omega)]
          exact Ev.pos (by simpa using cm) (hev c hc hcl)
        · obtain ⟨kp, hk, hev⟩ := ih (i + 1) (m ++ [1 + (i : Int) % 20]) (by omega) (by omega)
            (List.nodup_append.2 ⟨hn, by simp, fun a ha b hb e => by rw [List.mem_singleton] at hb; subst hb; subst e; exact cm ha⟩)
            (fun k hk => by
              rcases List.mem_append.1 hk with h | h
              · exact hr k h
              · rw [List.mem_singleton] at h; omega)
            (fun k k0 k1 => by
              rcases hcov k k0 k1 with h | ⟨j, j0, j1, e⟩
              · exact .inl (List.mem_append_left _ h)
              · by_cases hj : j = i
                · subst hj; exact .inl (List.mem_append_right _ (by rw [e]; exact List.mem_singleton_self _))
                · exact .inr ⟨j, by omega, by omega, e⟩) (by omega)
          refine ⟨kp, hk, fun c hc hcl => ?_⟩
          have h20 : m.length ≤ 20 := (Kp.len (least := 0) ⟨hn, hr, by omega⟩)
          refine Ev.step (fun k => by rw [pianolalaw09_some.l0]) ?_
          refine Ev.neg (by omega) ?_
          refine Ev.step (fun k => by rw [pianolalaw09_some.j1]) ?_
          refine Ev.pos (by simp [onS]; omega) (Ev.neg (by omega) ?_)
          rw [e1]
          refine Ev.pos (by omega) (Ev.pos (by simp [metL]; omega) ?_)
          rw [metL_rd m _ (by omega) (by omega), w_nat i (by omega)]
          refine Ev.neg (by simpa using cm) (Ev.bind (at_ev c _ ⟨by omega, by omega⟩ hc (by omega)) (Ev.pos (by simp [onS]; omega) ?_))
          rw [metL_set m _ (by omega), ← put]
          exact hev c hc hcl
      · refine ⟨m, ⟨hn, hr, by omega⟩, fun c _ _ => ?_⟩
        refine Ev.step (fun k => by rw [pianolalaw09_some.l0]) ?_
        refine Ev.neg (by omega) ?_
        refine Ev.step (fun k => by rw [pianolalaw09_some.j1]) ?_
        exact Ev.neg (by simp [onS]; omega) (Ev.now _)
  have one : ∀ (d i : Nat) (m : List Int), i + d = by_.length → m.Nodup → (∀ k ∈ m, 1 ≤ k ∧ k ≤ 20) →
      ∃ kp, Kp kp least ∧ ∀ c : List Int, all251 c → c.length ≤ 8 → Ev (fun k => pianolalaw09_some.l0 k c by_ least (metL m) (onS c m) (i : Int)) (onS c kp) := by
    intro d
    induction d with
    | zero =>
      intro i m hi hn hr
      exact two 20 i m (by omega) (by omega) hn hr (fun k k0 k1 => .inr ⟨i + ((k - 1 - (i : Int)) % 20).toNat, by omega, by omega, by omega⟩) (by omega)
    | succ d ih =>
      intro i m hi hn hr
      have hlt : i < by_.length := by omega
      obtain ⟨b0, b1⟩ := hb by_[i] (List.getElem_mem hlt)
      have e1 : wrap64 (1 + (Int.tmod (wrap64 by_[i]) 20)) = 1 + by_[i] % 20 := by
        rw [show wrap64 by_[i] = by_[i] by unfold wrap64; omega, Int.tmod_eq_emod_of_nonneg (by omega)]; unfold wrap64; omega
      by_cases cm : (1 + by_[i] % 20) ∈ m
      · obtain ⟨kp, hk, hev⟩ := ih (i + 1) m (by omega) hn hr
        refine ⟨kp, hk, fun c hc hcl => ?_⟩
        refine Ev.step (fun k => by rw [pianolalaw09_some.l0]) ?_
        refine Ev.pos (by omega) ?_
        refine Ev.step (fun k => by rw [pianolalaw09_some.j1]) ?_
        refine Ev.pos rfl (Ev.pos (by omega) (Ev.pos (by omega) ?_))
        rw [rd_at by_ i hlt, e1]
        refine Ev.pos (by omega) (Ev.pos (by simp [metL]; omega) ?_)
        rw [metL_rd m _ (by omega) (by omega), w_nat i (by omega)]
        exact Ev.pos (by simpa using cm) (hev c hc hcl)
      · obtain ⟨kp, hk, hev⟩ := ih (i + 1) (m ++ [1 + by_[i] % 20]) (by omega)
          (List.nodup_append.2 ⟨hn, by simp, fun a ha b hb e => by rw [List.mem_singleton] at hb; subst hb; subst e; exact cm ha⟩)
          (fun k hk => by
            rcases List.mem_append.1 hk with h | h
            · exact hr k h
            · rw [List.mem_singleton] at h; omega)
        refine ⟨kp, hk, fun c hc hcl => ?_⟩
        have h20 : m.length ≤ 20 := (Kp.len (least := 0) ⟨hn, hr, by omega⟩)
        refine Ev.step (fun k => by rw [pianolalaw09_some.l0]) ?_
        refine Ev.pos (by omega) ?_
        refine Ev.step (fun k => by rw [pianolalaw09_some.j1]) ?_
        refine Ev.pos rfl (Ev.pos (by omega) (Ev.pos (by omega) ?_))
        rw [rd_at by_ i hlt, e1]
        refine Ev.pos (by omega) (Ev.pos (by simp [metL]; omega) ?_)
        rw [metL_rd m _ (by omega) (by omega), w_nat i (by omega)]
        refine Ev.neg (by simpa using cm) (Ev.bind (at_ev c _ ⟨by omega, by omega⟩ hc (by omega)) (Ev.pos (by simp [onS]; omega) ?_))
        rw [metL_set m _ (by omega), ← put]
        exact hev c hc hcl
  obtain ⟨kp, hk, hev⟩ := one by_.length 0 [] (by omega) List.nodup_nil (fun k h => by cases h)
  refine ⟨kp, hk, fun c hc hcl => ?_⟩
  unfold pianolalaw09_some.f
  refine Ev.pos (by omega) ?_
  rw [← metL_nil]
  exact hev c hc hcl
theorem onS_len (c kp : List Int) : (onS c kp).length = kp.length := by simp [onS]
theorem onS_kd {kp : List Int} {least : Int} (h : Kp kp least) (c : List Int) : KD (onS c kp) := by
  refine ⟨?_, fun s hs => ?_, fun s hs => ?_⟩
  · have : (onS c kp).map S61.f0 = kp := by simp [onS, Function.comp_def]
    rw [this]; exact h.nd
  · obtain ⟨k, hk, rfl⟩ := List.mem_map.1 hs
    have := h.r k hk
    exact ⟨by show 0 ≤ k; omega, by show k ≤ 250; omega⟩
  · obtain ⟨k, hk, rfl⟩ := List.mem_map.1 hs
    exact ev_in _ _
theorem onS_good {kp : List Int} {least : Int} (h : Kp kp least) (c : List Int) : ∀ s ∈ onS c kp, Good s := by
  intro s hs
  obtain ⟨k, hk, rfl⟩ := List.mem_map.1 hs
  have := h.r k hk
  have := ev_in c k
  exact ⟨by show 1 ≤ k; omega, by show k ≤ 20; omega, this.1, this.2⟩
theorem onS_at (c kp : List Int) : ∀ s ∈ onS c kp, eF (c.map fk) (fk s.f0) = fk s.f1 := by
  intro s hs
  obtain ⟨k, hk, rfl⟩ := List.mem_map.1 hs
  exact (fk_ev c k).symm
theorem fine_check {need : Int} {l : List S61} (h : Fine need l) : checkE need l = 0 := checkE_zero h.n0 h.n1 h.len h.good h.kd.nd
theorem restore_on {c : List Int} {s : List S61} (h : Fine (c.length : Int) s) (hc : all251 c) (hl : c.length ≤ s.length) (ha : ∀ a ∈ s, eF (c.map fk) (fk a.f0) = fk a.f1) :
    restoreR (c.length : Int) s = (c, 0) ∧ secretR (c.length : Int) s = (rd c 0, 0) ∧ agreeR (c.length : Int) s = (true, 0) := by
  have he := fine_check h
  have hn : ((c.length : Int)).toNat = c.length := Int.toNat_natCast _
  have e : itp c.length s = c := all_fk (itp_in _ _) hc (itp_only h.kd hl (by simp) (fun a hm => ha a (List.mem_of_mem_take hm)))
  have hfit : Fit c.length s := ⟨c.map fk, by simp, ha⟩
  have hlie := (lieP_fit h.kd hl).2 hfit
  have r : restoreR (c.length : Int) s = (c, 0) := by
    unfold restoreR
    rw [if_neg (by simpa using he), if_neg (by omega), hn]
    change (if lieP (itp c.length s) s = false then ([], 15) else (itp c.length s, 0)) = (c, 0)
    rw [if_neg (by simp [hlie]), e]
  refine ⟨r, ?_, ?_⟩
  · unfold secretR
    rw [r]; rfl
  · unfold agreeR
    rw [if_pos he, (agreeB_fit h.kd).2 hfit]
theorem onS_fine {kp : List Int} {least : Int} (h : Kp kp least) (c : List Int) {need : Int} (n0 : 1 ≤ need) (n1 : need ≤ 8) : Fine need (onS c kp) :=
  ⟨n0, n1, by rw [onS_len]; exact h.len, onS_good h c, onS_kd h c⟩
end Go.Proofs.Ytpfkfbbekfkcgaa.P
end
section
namespace Go.Proofs.Ytpfkfbbekfkcgaa.Pure
open Go.RowKit Go.Proofs.Ytpfkfbbekfkcgaa.P Go.Proofs.YtpfkfbbekfkcgaaW.PrintWords Go.Proofs.YtpfkfbbekfkcgaaW.PrintLast
theorem readE_zero {c : List Int} (h : all251 c) (h1 : 1 ≤ c.length) (h8 : c.length ≤ 8) : readE c = 0 := by
  unfold readE
  rw [if_neg (by omega), if_neg (by omega), if_pos]
  rw [List.all_eq_true]
  intro x hx
  exact P.btw_iff.2 (h x hx)
theorem VaultRestored : pianolalaw09_VaultRestored.Pure := by
  intro l0 l1 a2 _ y0 w0 _ y1 w1 w2
  have b0 := bytes_of w0
  have b1 := bytes_of w1
  obtain ⟨a20, a21⟩ := wf_u8 w2
  refine Ev.rounds ?_
  unfold pianolalaw09_VaultRestored.f
  refine Ev.bind (made_ev l0 b0 (by omega)) ?_
  obtain ⟨c1, c8⟩ := madeR_len l0
  have hc := madeR_in l0
  generalize madeR l0 = c at c1 c8 hc ⊢
  obtain ⟨kp, hk, hev⟩ := some_ex l1 b1 (by omega) (c.length : Int) (by omega)
  have hfine := onS_fine hk c (need := (c.length : Int)) (by omega) (by omega)
  obtain ⟨r1, r2, r3⟩ := restore_on hfine hc (by rw [onS_len]; have := hk.le; omega) (onS_at c kp)
  refine Ev.bind (hev c hc c8) ?_
  rw [Restore_f, Secret_f, Agree_f, r1, r2, r3]
  refine Ev.bind (Ev.now _) (Ev.bind (Ev.now _) (Ev.bind (Ev.now _) (Ev.pos rfl (Ev.pos rfl (Ev.pos rfl (Ev.bind (numbers_ev c c (by omega)) (Ev.pos (by simp) (Ev.pos (by omega) (Ev.pos rfl ?_)))))))))
  have e20 : wrap64 (1 + (Int.tmod (wrap64 a2) 20)) = 1 + a2 % 20 := by
    rw [show wrap64 a2 = a2 by unfold wrap64; omega, Int.tmod_eq_emod_of_nonneg a20]; unfold wrap64; omega
  refine Ev.step (fun k => by rw [pianolalaw09_VaultRestored.j0]) ?_
  refine Ev.neg (by simp) ?_
  rw [e20]
  have hD : dealR c (1 + a2 % 20) = (dealt c (1 + a2 % 20).toNat, 0) := by
    unfold dealR
    rw [if_neg (by simpa using readE_zero hc c1 c8), if_pos (P.btw_iff.2 ⟨by omega, by omega⟩)]
  refine Ev.bind (Deal_ev c _) ?_
  rw [hD]
  refine Ev.pos rfl ?_
  refine Ev.step (fun k => by rw [pianolalaw09_VaultRestored.j1]) ?_
  refine Ev.neg (by simp [dealt_len]; omega) ?_
  have key : ∀ (d n : Nat), n + d = (1 + a2 % 20).toNat → Ev (fun k => pianolalaw09_VaultRestored.l0 k c (dealt c (1 + a2 % 20).toNat) ((dealt c (1 + a2 % 20).toNat).length : Int) (n : Int)) true := by
    intro d
    induction d with
    | zero =>
      intro n hd
      refine Ev.step (fun k => by rw [pianolalaw09_VaultRestored.l0]) ?_
      exact Ev.neg (by rw [dealt_len]; omega) (Ev.have rfl)
    | succ d ih =>
      intro n hd
      refine Ev.step (fun k => by rw [pianolalaw09_VaultRestored.l0]) ?_
      refine Ev.pos (by rw [dealt_len]; omega) (Ev.pos (by omega) (Ev.pos (by rw [dealt_len]; omega) ?_))
      have hv : valueR c ((n + 1 : Nat) : Int) = (ev c ((n + 1 : Nat) : Int), 0) := by
        unfold valueR
        rw [if_neg (by simpa using readE_zero hc c1 c8), if_pos (P.btw_iff.2 ⟨by omega, by omega⟩)]
      have hr : rd_T61 (dealt c (1 + a2 % 20).toNat) (n : Int) = ⟨((n + 1 : Nat) : Int), ev c ((n + 1 : Nat) : Int)⟩ := by
        rw [rd61_at _ n (by rw [dealt_len]; omega)]
        simp [dealt]
      rw [w_nat n (by omega), hr]
      refine Ev.bind (Value_ev c _) ?_
      rw [hv]
      refine Ev.pos rfl (Ev.bind (at_ev c _ ⟨by omega, by omega⟩ hc (by omega)) (Ev.pos rfl (Ev.neg (by simp) ?_)))
      exact ih (n + 1) (by omega)
  exact key (1 + a2 % 20).toNat 0 (by omega)
end Go.Proofs.Ytpfkfbbekfkcgaa.Pure
end
