/- Words and contracts for a claim. -/
import Derived.Test.YtpfkfbbekfkcgaaBase13
import Derived.RangeFuncNested
import Derived.Sort.LoopGhostIn
import Derived.Sort.OwnSortedInts
section
namespace Go.Proofs.Ytpfkfbbekfkcgaa.P
open Go.RowKit Go.Shelf Go.Proofs.YtpfkfbbekfkcgaaW.PrintWords Go.Proofs.YtpfkfbbekfkcgaaW.PrintLast Go.Proofs.YtpfkfbbekfkcgaaW.PrintMore
set_option linter.unusedVariables false
set_option linter.unusedSimpArgs false
attribute [local go_sem] Oper.semAt_some
def restOf (x : List Int) (l : List S61) (n : Nat) : List S61 := ((List.range n).filter fun j : Nat => !decide ((j : Int) ∈ x)).map fun j : Nat => rd_T61 l j
theorem restOf_in {x : List Int} {l : List S61} {n : Nat} (h : (n : Int) ∈ x) : restOf x l (n + 1) = restOf x l n := by
  simp [restOf, List.range_succ, List.filter_append, h]
theorem restOf_out {x : List Int} {l : List S61} {n : Nat} (h : ¬ (n : Int) ∈ x) : restOf x l (n + 1) = restOf x l n ++ [rd_T61 l n] := by
  simp [restOf, List.range_succ, List.filter_append, h]
theorem restOf_len (x : List Int) (l : List S61) (n : Nat) : (restOf x l n).length ≤ n := by
  have := List.length_filter_le (fun j : Nat => !decide ((j : Int) ∈ x)) (List.range n)
  simpa [restOf] using this
theorem restOf_ok {x : List Int} {l : List S61} {n : Nat} (h : okSB l = true) (hn : n ≤ l.length) : okSB (restOf x l n) = true := by
  unfold okSB at h ⊢
  rw [List.all_eq_true] at h ⊢
  intro a ha
  unfold restOf at ha
  obtain ⟨j, hj, rfl⟩ := List.mem_map.1 ha
  have hj2 := List.mem_range.1 (List.mem_filter.1 hj).1
  refine h _ ?_
  unfold rd_T61
  simp only [Int.toNat_natCast]
  rw [List.getD_eq_getElem?_getD, List.getElem?_eq_getElem (by omega)]
  exact List.getElem_mem _
def tryB (need : Int) (l : List S61) (x : List Int) : Bool := agreeB need (restOf x l l.length)
theorem index_f (l : List Int) (a : Int) : ∀ (k i : Nat), l.length + 1 ≤ k + i → i ≤ l.length → l.length ≤ 1000000 →
    ∃ r, index70.l0 k l a (l.length : Int) i = some r ∧ decide (r ≥ 0) = decide (a ∈ l.drop i)
  | 0, i, h, _, _ => by omega
  | k + 1, i, h, hi, hl => by
    unfold index70.l0
    by_cases c : (i : Int) < (l.length : Int)
    · have c2 : i < l.length := by omega
      rw [if_pos c, if_pos (by omega : (0 : Int) ≤ i), if_pos c]
      have e : rd l (i : Int) = l[i] := by
        unfold rd; simp [List.getD_eq_getElem?_getD, c2]
      rw [e, List.drop_eq_getElem_cons c2]
      by_cases c3 : a = l[i]
      · rw [if_pos c3]
        exact ⟨_, rfl, by rw [decide_eq_true (by omega : (i : Int) ≥ 0), decide_eq_true (List.mem_cons.2 (.inl c3))]⟩
      · rw [if_neg c3, show wrap64 ((i : Int) + 1) = ((i + 1 : Nat) : Int) by unfold wrap64; omega]
        obtain ⟨r, h1, h2⟩ := index_f l a k (i + 1) (by omega) (by omega) hl
        exact ⟨r, h1, by rw [h2]; exact decide_eq_decide.2 ⟨fun h => List.mem_cons.2 (.inr h), fun h => (List.mem_cons.1 h).resolve_left c3⟩⟩
    · rw [if_neg c]
      exact ⟨_, rfl, by rw [List.drop_eq_nil_of_le (by omega)]; simp⟩
theorem contains_f (l : List Int) (a : Int) (hl : l.length ≤ 1000000) : contains68.f (l.length + 1) l a = some (decide (a ∈ l)) := by
  unfold contains68.f index70.f
  obtain ⟨r, h1, h2⟩ := index_f l a (l.length + 1) 0 (by omega) (by omega) hl
  rw [show ((0 : Nat) : Int) = 0 from rfl] at h1
  rw [h1]
  simpa using h2
structure Lv (b6 b7 : Nat) (A B : World) : Prop where
  os : B.os = A.os
  tape : B.tape = A.tape
  output : B.output = A.output
  size : A.heap.size ≤ B.heap.size
  block : ∀ k, k < A.heap.size → k ≠ b6 → k ≠ b7 → B.heap[k]? = A.heap[k]?
theorem Lv.of_below {b6 b7 : Nat} {A B : World} (h : Below A.heap.size A B) : Lv b6 b7 A B := ⟨h.os, h.tape, h.output, h.size, fun k hk _ _ => h.block k hk⟩
theorem Lv.step {b6 b7 : Nat} {A B C : World} (h : Lv b6 b7 A B) (k : Below A.heap.size B C) : Lv b6 b7 A C :=
  ⟨k.os.trans h.os, k.tape.trans h.tape, k.output.trans h.output, Nat.le_trans h.size k.size, fun i hi n6 n7 => (k.block i hi).trans (h.block i hi n6 n7)⟩
theorem Lv.set {b6 b7 : Nat} {A B : World} (h : Lv b6 b7 A B) (b : Nat) (hb : b = b6 ∨ b = b7) (u : Value) : Lv b6 b7 A (B.setCell ⟨b, 0, none⟩ u) := by
  have s : (B.setCell ⟨b, 0, none⟩ u).heap.size = B.heap.size := by unfold World.setCell; simp
  refine ⟨h.os, h.tape, h.output, by rw [s]; exact h.size, fun i hi n6 n7 => ?_⟩
  refine (Below.heap_setCell B ⟨b, 0, none⟩ u i ?_).trans (h.block i hi n6 n7)
  rcases hb with e | e
  · show i ≠ b; rw [e]; exact n6
  · show i ≠ b; rw [e]; exact n7
theorem Lv.widen {b6 b7 : Nat} {A B : World} (h : Lv b6 b6 A B) : Lv b6 b7 A B := ⟨h.os, h.tape, h.output, h.size, fun i hi n6 _ => h.block i hi n6 n6⟩
theorem Lv.cell {b6 b7 : Nat} {A B : World} (h : Lv b6 b7 A B) {p : Addr} {u : Value} (n6 : p.block ≠ b6) (n7 : p.block ≠ b7) (hc : A.cell? p = some u) : B.cell? p = some u :=
  (World.cell?_of_block (h.block p.block (World.block_lt_of_cell? A _ hc) n6 n7)).trans hc
theorem Lv.below {b6 b7 n : Nat} {w A B : World} (h : Lv b6 b7 A B) (hw : Below n w A) (hn : n ≤ A.heap.size) (h6 : n ≤ b6) (h7 : n ≤ b7) : Below n w B :=
  ⟨h.os.trans hw.os, h.tape.trans hw.tape, h.output.trans hw.output, Nat.le_trans hw.size h.size, fun k hk => (h.block k (by omega) (by omega) (by omega)).trans (hw.block k hk)⟩
def keeps (x : List Int) (l : List S61) : List Int := x.map fun i : Int => (rd_T61 l i).f0
theorem rd_get (x : List Int) (j : Int) (h0 : 0 ≤ j) (h1 : j < x.length) : ∃ h : j.toNat < x.length, rd x j = x[j.toNat] := by
  refine ⟨by omega, ?_⟩
  unfold rd
  rw [List.getD_eq_getElem?_getD, List.getElem?_eq_getElem (by omega)]; rfl
theorem rd_mem (x : List Int) (j : Int) (h0 : 0 ≤ j) (h1 : j < x.length) : rd x j ∈ x := by
  obtain ⟨h, e⟩ := rd_get x j h0 h1
  rw [e]; exact List.getElem_mem h
theorem keeps_succ (x : List Int) (l : List S61) (j : Int) (h0 : 0 ≤ j) (h1 : j < x.length) : keeps (x.take (j + 1).toNat) l = keeps (x.take j.toNat) l ++ [(rd_T61 l (rd x j)).f0] := by
  obtain ⟨h, e⟩ := rd_get x j h0 h1
  unfold keeps
  rw [show (j + 1).toNat = j.toNat + 1 by omega, List.take_succ_eq_append_getElem h, List.map_append, e]; rfl
def sortI (xs : List Int) : List Int := xs.mergeSort fun x y => decide (x ≤ y)
theorem sort_c (v : Value) (xs : List Int) (base : Nat) (w : World) (hR : Kd.R (Kd.int .i64) 3 w base (fun k => base ≤ k) v xs) (hl : xs.length < 4611686018427387904) :
    Calls Try.prog 69 #[v] w fun e w' => e = .returned (.tuple #[]) ∧ Kd.R (Kd.int .i64) 3 w' base (fun k => base ≤ k) v (sortI xs) ∧ Below base w w' := by
  have ho := Kd.own_of_R (enc := Value.int .i64) (h1 := fun _ => rfl) hR
  obtain ⟨ho1, ⟨rfl, hn⟩ | ⟨g, cap, cur, rfl, hg, hb, h1, h2, h3, h4⟩⟩ := ho
  · obtain rfl : xs = [] := List.eq_nil_of_length_eq_zero hn
    refine (AnyM.slices_Sort_int_none Try.mInts none 0 w).mono ?_
    rintro e w' ⟨rfl, rfl⟩
    exact ⟨rfl, by rw [show sortI [] = [] by simp [sortI]]; exact hR, Below.refl _ _⟩
  · rw [Nat.mul_one] at h4
    have h5 : cur.toList.take xs.length = xs.map (Value.int .i64) := by rw [h4]; simp [encs]
    have hlt : g < w.heap.size := (Array.getElem?_eq_some_iff.1 hb).1
    refine (AnyM.slices_Sort_int Try.mInts g 0 cap xs w (holds_of_blockI hb h5) hlt hl).mono ?_
    rintro e w' ⟨rfl, n, os, rfl⟩
    have hs : (sortI xs).length = xs.length := List.length_mergeSort _
    have hown := ownsRow_sortedI (n := n) (os := os) (cap := cap) (ss := xs) (ts := sortI xs) hs hg hb h1 h2 h3
    have hgr := grownBy_sortedI (w := w) (g := g) (n := n) (os := os) (sortI xs).toArray
    refine ⟨rfl, Kd.R_of_own (enc := Value.int .i64) (h1 := fun _ => rfl) (by rw [hs]; simpa [encs, sortI] using hown) (fun k hk => by simp [Value.ownBlock] at hk; omega), hgr.os, hgr.tape, hgr.output, hgr.size, fun k hk => hgr.block k (by omega) (by simp; omega)⟩
theorem apart_one {W : World} {b t : Nat} {fr : Nat × Nat} {u v : Value} {p : Addr} (o : W.heap[b]? = some (.cells #[u] t fr)) (hc : W.cell? p = some v) (hne : u ≠ v) : p.block ≠ b := by
  intro e
  unfold World.cell? at hc
  rw [e, o] at hc
  obtain ⟨_, off, sp⟩ := p
  cases sp with
  | some s => simp at hc
  | none =>
    match off with
    | 0 => simp at hc; exact hne hc
    | n + 1 => simp at hc
def rangeBody : Code → Option Code
  | .seq x y => match rangeBody x with | some b => some b | none => rangeBody y
  | .block _ c => rangeBody c
  | .loop c => rangeBody c
  | .scope c => rangeBody c
  | .cond _ x y => match rangeBody x with | some b => some b | none => rangeBody y
  | .rangeFunc _ _ _ b => some b
  | _ => none
end Go.Proofs.Ytpfkfbbekfkcgaa.P
end
section
namespace Go.Proofs.Ytpfkfbbekfkcgaa.P
open Go.RowKit Go.Shelf Go.Proofs.YtpfkfbbekfkcgaaW.PrintWords Go.Proofs.YtpfkfbbekfkcgaaW.PrintLast Go.Proofs.YtpfkfbbekfkcgaaW.PrintMore
set_option linter.unusedVariables false
set_option linter.unusedSimpArgs false
attribute [local go_sem] Oper.semAt_some
set_option maxHeartbeats 8000000 in
set_option maxRecDepth 100000 in
theorem body_c (need : Int) (mo sl : Value) (A0 : Option Addr) (c0 : Nat) (l : List S61) (B3 B5 B6 B7 lp : Nat) (W1 : World) (x : List Int) (Q : Exit → Act → World → Prop)
    (hl : l.length ≤ 20) (hok : okSB l = true) (hneed : 0 ≤ need) (hr : Kd.C k61 W1 A0 l.length l) (hc : l.length ≤ c0)
    (c3 : W1.cell? ⟨B3, 0, none⟩ = some (.int .i64 need)) (c5 : W1.cell? ⟨B5, 0, none⟩ = some (.slice A0 l.length c0)) (o6 : W1.heap[B6]? = some (.cells #[.slice none 0 0] 22 (0, 0)))
    (o7 : W1.heap[B7]? = some (.cells #[.int .i64 0] 24 (0, 0))) (n67 : B6 ≠ B7) (hxb : ∀ i ∈ x, 0 ≤ i ∧ i < (l.length : Int))
    (hxl : x.length ≤ 1000000) (v : Value) (hv : VI v x W1)
    (B : Code) (hB : Try.f37.body.bind rangeBody = some B)
    (hgo : tryB need l x = false → ∀ a W', Below W1.heap.size W1 W' → Q .normal a W')
    (hret : tryB need l x = true → ∀ a W' v, Lv B6 B7 W1 W' → W'.cell? ⟨B6, 0, none⟩ = some v → W'.cell? ⟨B7, 0, none⟩ = some (.int .i64 0) → Kd.R (Kd.int .i64) 3 W' W1.heap.size (fun k => W1.heap.size ≤ k) v (sortI (keeps x l)) → Q .ret a W')
    (s4 s8 s10 s11 s12 s13 s14 s15 s16 s17 s18 s19 s20 s21 s22 s23 s24 s25 s26 s27 s28 s29 s30 s31 s32 s33 s34 s35 s36 s37 s38 s39 s40 s41 s42 s44 s45 s46 s47 s48 s49 s50 s51 s52 s53 s54 s55 s56 s57 s58 s59 s60 s61 s62 s63 s64 s65 s66 s67 s68 s69 s70 s71 s72 s73 s74 s75 s76 s77 s78 s79 s80 s81 s82 : Value) :
    B.wpIn (Fence.wide.inRound lp) 7 Try.prog Q { tmps := #[.int .i64 need, mo, sl, .pointer (some ⟨B3, 0, none⟩), s4, .pointer (some ⟨B5, 0, none⟩), .pointer (some ⟨B6, 0, none⟩), .pointer (some ⟨B7, 0, none⟩), s8, v, s10, s11, s12, s13, s14, s15, s16, s17, s18, s19, s20, s21, s22, s23, s24, s25, s26, s27, s28, s29, s30, s31, s32, s33, s34, s35, s36, s37, s38, s39, s40, s41, s42, v, s44, s45, s46, s47, s48, s49, s50, s51, s52, s53, s54, s55, s56, s57, s58, s59, s60, s61, s62, s63, s64, s65, s66, s67, s68, s69, s70, s71, s72, s73, s74, s75, s76, s77, s78, s79, s80, s81, s82], defers := [] } W1 := by
  simp only [Try.f37, Option.bind, rangeBody] at hB
  obtain rfl := Option.some.inj hB
  clear hB
  obtain ⟨A, c, rfl, lc, hx⟩ := hv
  have HR := Aside0.mk hr
  have CT0 := Aside0.mk (fun (i : Int) (W' : World) (hb : Below W1.heap.size W1 W') => contains68.calls (x.length + 1) A c x i (decide (i ∈ x)) W' (Kd.C_below hx hb) lc (contains_f x i hxl))
  have HOK := Aside0.mk hok
  have HN := Aside0.mk hneed
  have HX := Aside0.mk hx
  have O6 := Aside0.mk o6
  have O7 := Aside0.mk o7
  have HXB := Aside0.mk hxb
  clear hr hok hneed hx o6 o7 hxb
  gi_wp2
  gi_loopg [46, 10] l.length (fun kq v46 v10 w' => ∃ i : Int, v46 = .int .i64 i ∧ Aside0 (0 ≤ i ∧ i + kq = (l.length : Int)) ∧ Aside0 (Kd.R k61 61 w' W1.heap.size (fun _ => True) v10 (restOf x l i.toNat)) ∧ Aside0 (Below W1.heap.size W1 w'))
  case atStart => exact ⟨0, rfl, ⟨by omega, by omega⟩, ⟨Kd.R_nil _ _ _ _ _⟩, ⟨Below.refl _ _⟩⟩
  case round =>
    obtain ⟨i, rfl, HI, HO, HB⟩ := hrel
    have i0 := HI.out.1
    by_cases cI : i < (l.length : Int)
    · have hw : IntKind.i64.wrap (i + 1) = i + 1 := (i64_w _).trans (by unfold wrap64; omega)
      obtain ⟨k1, hk1⟩ : ∃ m, gk = m + 1 := ⟨gk - 1, by have := HI.out.2; omega⟩
      subst hk1
      obtain ⟨ad, e, h0, h1⟩ := at_T61 HR.out i i0 cI
      cases e
      replace h0 := (HB.out.cell (World.block_lt_of_cell? W1 _ h0)).trans h0
      replace h1 := (HB.out.cell (World.block_lt_of_cell? W1 _ h1)).trans h1
      have LM := Aside0.mk (show ((restOf x l i.toNat).length + 1) * 16 ≤ 140737488355328 by have := restOf_len x l i.toNat; omega)
      have CT := Aside0.mk (CT0.out i)
      have e2 : (i + 1).toNat = i.toNat + 1 := by omega
      have e3 : ((i.toNat : Nat) : Int) = i := by omega
      cases t : decide (i ∈ x) with
      | true =>
        rw [t] at CT
        have NN := Aside0.mk (restOf_in (x := x) (l := l) (n := i.toNat) (by rw [e3]; exact of_decide_eq_true t))
        clear t
        gi_wp2_with ((refine ⟨trivial, CallsIn.mono (CallsIn.inRound lp (callsIn_wide.2 (CT.out _ (by repeat (first | (with_reducible first | exact HB.out | apply below_alloc | apply pw_below_drewN | apply below_drew1) | exact HB.out))))) ?_⟩; rintro e w' ⟨rfl, ⟨nd, rfl⟩⟩))
        gi_roundg k1
        case measure => omega
        case rel => exact ⟨i + 1, by first | rfl | simp, ⟨by omega, by have := HI.out.2; omega⟩, ⟨by rw [e2, NN.out]; (with_reducible repeat (first | apply Kd.R_alloc | apply Kd.R_drewN | apply Kd.R_drew)); exact HO.out⟩, ⟨(by repeat (first | (with_reducible first | exact HB.out | apply below_alloc | apply pw_below_drewN | apply below_drew1) | exact HB.out))⟩⟩
      | false =>
        rw [t] at CT
        have NN := Aside0.mk (restOf_out (x := x) (l := l) (n := i.toNat) (by rw [e3]; exact of_decide_eq_false t))
        rw [e3] at NN
        clear t
        gi_wp2_with (first | (gi_at_builtin; refine listIn_of _ _ _ ?hdd ?_; (case hdd => rfl); go_wp2_with (((with_reducible refine gate_builtin (b := .append) (xs := #[.tmp 55, .tmp 57]) rfl ?_); at_builtin; refine Kd.R_append k61 (w0 := W1) W1.heap.size rfl (.tmp 55) (.tmp 57) 28 61 (.agg #[(.int .i64 0), (.int .i64 0)]) 16 rfl Try.underlying28 info61 rfl (by decide) (by omega) u10 (restOf x l i.toNat) ((⟨(rd_T61 l i).f0, (rd_T61 l i).f1⟩ : S61)) [.int .i64 (rd_T61 l i).f0, .int .i64 (rd_T61 l i).f1] (fun _ => True) (fun _ => False) rfl (by first | rfl | (go_simp; done) | (simp; done)) ?aP (fun _ hk => hk.elim) ?aF ?aO ?aB ?aS ?aL ?_; (case aP => exact k61_mkM _ _ _ (⟨(rd_T61 l i).f0, (rd_T61 l i).f1⟩ : S61)); (case aB => exact (by repeat (first | (with_reducible first | exact HB.out | apply below_alloc | apply pw_below_drewN | apply below_drew1) | exact HB.out))); (case aF => exact (fun _ _ => trivial)); (case aO => exact (by (with_reducible repeat (first | apply Kd.R_alloc | apply Kd.R_drewN | apply Kd.R_drew)); exact HO.out)); (case aS => exact (below_size (by repeat (first | (with_reducible first | exact HB.out | apply below_alloc | apply pw_below_drewN | apply below_drew1) | exact HB.out)))); (case aL => have := LM.out; omega); intro v533 w8 ho hb hg2 hat; rw [← NN.out] at ho; have n0_ := Aside0.mk (hb); have n1_ := Aside0.mk (ho); clear HB; clear HO; have HB := n0_; have HO := n1_; clear n0_ n1_; clear ho hb hg2 hat)); refine Tame.normal ?_) | (refine ⟨trivial, CallsIn.mono (CallsIn.inRound lp (callsIn_wide.2 (CT.out _ (by repeat (first | (with_reducible first | exact HB.out | apply below_alloc | apply pw_below_drewN | apply below_drew1) | exact HB.out))))) ?_⟩; rintro e w' ⟨rfl, ⟨nd, rfl⟩⟩))
        gi_roundg k1
        case measure => omega
        case rel => exact ⟨i + 1, by first | rfl | simp, ⟨by omega, by have := HI.out.2; omega⟩, ⟨by rw [e2]; (with_reducible repeat (first | apply Kd.R_alloc | apply Kd.R_drewN | apply Kd.R_drew)); exact HO.out⟩, ⟨(by repeat (first | (with_reducible first | exact HB.out | apply below_alloc | apply pw_below_drewN | apply below_drew1) | exact HB.out))⟩⟩
    · have hi : i = (l.length : Int) := by have := HI.out.2; omega
      subst hi
      rw [Int.toNat_natCast] at HO
      obtain ⟨Ao, co, eo⟩ := Kd.R_slice HO.out
      subst eo
      have HA := Aside0.mk (fun (W' : World) (hb : Below wr.heap.size wr W') => vault_agree.calls need Ao co (restOf x l l.length) (tryB need l x) W' (Kd.C_below (Kd.R_reads' HO.out).2.2 hb) (Kd.R_reads' HO.out).2.1 (by unfold vault_agree.f; rw [if_pos (by simp only [Bool.and_eq_true, decide_eq_true_eq]; exact ⟨⟨restOf_ok HOK.out (Nat.le_refl _), HN.out⟩, by have := restOf_len x l l.length; omega⟩)]; rfl))
      cases t : tryB need l x with
      | false =>
        rw [t] at HA
        have HG := Aside0.mk (hgo t)
        clear t hgo hret
        have c3' := (HB.out.cell (World.block_lt_of_cell? W1 _ c3)).trans c3
        gi_wp2_with (refine ⟨trivial, CallsIn.mono (CallsIn.inRound lp (callsIn_wide.2 (HA.out _ (by repeat (first | exact Below.refl _ _ | apply below_alloc | apply pw_below_drewN | apply below_drew1))))) ?_⟩; rintro e w2 ⟨rfl, hb⟩; have HB2 := Aside0.mk (below_step (by repeat (first | (with_reducible first | exact HB.out | apply below_alloc | apply pw_below_drewN | apply below_drew1) | exact HB.out)) hb); clear hb)
        exact HG.out _ _ HB2.out
      | true =>
        rw [t] at HA
        have HG := Aside0.mk (hret t)
        clear t hgo hret
        have c3' := (HB.out.cell (World.block_lt_of_cell? W1 _ c3)).trans c3
        gi_wp2_with (refine ⟨trivial, CallsIn.mono (CallsIn.inRound lp (callsIn_wide.2 (HA.out _ (by repeat (first | exact Below.refl _ _ | apply below_alloc | apply pw_below_drewN | apply below_drew1))))) ?_⟩; rintro e w2 ⟨rfl, hb⟩; have HB2 := Aside0.mk (below_step (by repeat (first | (with_reducible first | exact HB.out | apply below_alloc | apply pw_below_drewN | apply below_drew1) | exact HB.out)) hb); clear hb)
        have b6 : B6 < W1.heap.size := (Array.getElem?_eq_some_iff.1 O6.out).1
        have d6 : w2.cell? ⟨B6, 0, none⟩ = some (.slice none 0 0) := (HB2.out.cell (p := ⟨B6, 0, none⟩) b6).trans (by simp [World.cell?, O6.out])
        have d6f : w2.frozen? ⟨B6, 0, none⟩ = false := (HB2.out.frozen (p := ⟨B6, 0, none⟩) b6).trans (by simp [World.frozen?, O6.out])
        gi_loopg [66] x.length (fun kq v66 w' => ∃ (j : Int) (v6 : Value), v66 = .int .i64 j ∧ Aside0 (0 ≤ j ∧ j + kq = (x.length : Int)) ∧ Aside0 (w'.cell? ⟨B6, 0, none⟩ = some v6 ∧ w'.frozen? ⟨B6, 0, none⟩ = false) ∧ Aside0 (Kd.R (Kd.int .i64) 3 w' W1.heap.size (fun k => W1.heap.size ≤ k) v6 (keeps (x.take j.toNat) l)) ∧ Aside0 (Lv B6 B6 W1 w'))
        case atStart => exact ⟨0, _, rfl, ⟨by omega, by omega⟩, ⟨d6, d6f⟩, ⟨Kd.R_nil _ _ _ _ _⟩, ⟨Lv.of_below HB2.out⟩⟩
        case round =>
          clear d6 d6f HB2 HB HO HI HA c3'
          obtain ⟨j, v6, rfl, HI, H6, HO, HL⟩ := hrel
          have j0 := HI.out.1
          by_cases cJ : j < (x.length : Int)
          · have hw : IntKind.i64.wrap (j + 1) = j + 1 := (i64_w _).trans (by unfold wrap64; omega)
            obtain ⟨k1, hk1⟩ : ∃ m, gk = m + 1 := ⟨gk - 1, by have := HI.out.2; omega⟩
            subst hk1
            obtain ⟨ad1, e1, p0⟩ := Kd.at_int HX.out j j0 cJ
            cases e1
            have q0 := HL.out.cell (apart_one O6.out p0 (fun h => by cases h)) (apart_one O6.out p0 (fun h => by cases h)) p0
            obtain ⟨y0, y1⟩ := HXB.out _ (rd_mem x j j0 cJ)
            obtain ⟨ad2, e2, r0, r1⟩ := at_T61 HR.out (rd x j) y0 y1
            cases e2
            have ts := HL.out.cell (apart_one O6.out r0 (fun h => by cases h)) (apart_one O6.out r0 (fun h => by cases h)) r0
            have n5 : B5 ≠ B6 := apart_one O6.out c5 (fun h => by cases h)
            have t5 := HL.out.cell (p := ⟨B5, 0, none⟩) n5 n5 c5
            obtain ⟨Ao, co, eo⟩ := Kd.R_slice HO.out
            subst eo
            have t6 := H6.out.1
            have t6f := H6.out.2
            have HO2 := Aside0.mk (Kd.R_drew HO.out)
            have HL2 := Aside0.mk (HL.out.step (below_drew1 (Below.refl _ _)))
            have kl : (keeps (x.take j.toNat) l).length ≤ x.length := by unfold keeps; rw [List.length_map]; exact List.length_take_le' _ _
            have LM := Aside0.mk (show ((keeps (x.take j.toNat) l).length + 1) * 8 ≤ 140737488355328 by omega)
            have NN := Aside0.mk (keeps_succ x l j j0 cJ)
            clear kl r0 r1 p0 HO HL H6
            gi_wp2
            clear q0
            refine drawnIn_of (by kernel_rfl) ?hdd ?_
            case hdd => rfl
            change wpAny _ _ _ _ _ _ _ (World.drew _)
            replace t5 : (World.drew wr).cell? _ = _ := t5
            replace t6 : (World.drew wr).cell? _ = _ := t6
            replace t6f : (World.drew wr).frozen? _ = _ := t6f
            replace ts : (World.drew wr).cell? _ = _ := ts
            generalize World.drew wr = W at *
            refine wpAny_ready (rs := [0, 1, 2]) (by kernel_rfl) (by simp) ?_
            refine AllReady.cons rfl (fun K hK => ?_) (AllReady.cons rfl (fun K hK => ?_) (AllReady.cons rfl (fun K hK => ?_) AllReady.nil))
            · go_simp
              refine hK _ _ ?_
              clear hK K
              refine wpAny_ready (rs := [1, 2]) (by kernel_rfl) (by simp) ?_
              refine AllReady.cons rfl (fun K hK => ?_) (AllReady.cons rfl (fun K hK => ?_) AllReady.nil)
              · go_simp
                refine hK _ _ ?_
                clear hK K
                refine wpAny_ready (rs := [2]) (by kernel_rfl) (by simp) ?_
                refine AllReady.cons rfl (fun K hK => ?_) AllReady.nil
                · go_simp
                  refine hK _ _ ?_
                  clear hK K
                  refine wpAny_ready (rs := [3]) (by kernel_rfl) (by simp) ?_
                  refine AllReady.cons rfl (fun K hK => ?_) AllReady.nil
                  · go_simp
                    refine hK _ _ ?_
                    clear hK K
                    refine wpAny_ready (rs := [4]) (by kernel_rfl) (by simp) ?_
                    refine AllReady.cons rfl (fun K hK => ?_) AllReady.nil
                    · go_simp
                      refine hK _ _ ?_
                      clear hK K
                      refine wpAny_ready (rs := [5]) (by kernel_rfl) (by simp) ?_
                      refine AllReady.cons rfl (fun K hK => ?_) AllReady.nil
                      · go_simp
                        refine hK _ _ ?_
                        clear hK K
                        refine wpAny_ready (rs := [6]) (by kernel_rfl) (by simp) ?_
                        refine AllReady.cons rfl (fun K hK => ?_) AllReady.nil
                        · go_simp
                          refine hK _ _ ?_
                          clear hK K
                          refine wpAny_ready (rs := [7]) (by kernel_rfl) (by simp) ?_
                          refine AllReady.cons rfl (fun K hK => ?_) AllReady.nil
                          · (refine Kd.R_append_step (Kd.int .i64) (w0 := W) W1.heap.size (by rfl) (.tmp 70) (.tmp 76) 22 3 (.int .i64 0) 8 rfl Try.underlying22 info3 rfl (by decide) (by omega) (.slice Ao (keeps (x.take j.toNat) l).length co) (keeps (x.take j.toNat) l) ((rd_T61 l (rd x j)).f0) [.int .i64 (rd_T61 l (rd x j)).f0] (fun k => W1.heap.size ≤ k) (fun _ => False) rfl (by first | rfl | (go_simp; done) | (simp; done)) ?aP (fun _ hk => hk.elim) ?aF ?aO ?aB ?aS ?aL ?_; (case aP => exact rfl); (case aF => exact (fun k hk => Nat.le_trans HL2.out.size hk)); (case aO => exact HO2.out); (case aB => exact Below.refl _ _); (case aS => exact HL2.out.size); (case aL => have := LM.out; omega); intro v533 w8 ho hb hg2 hat; rw [← NN.out] at ho; obtain ⟨Ao8, co8, eo8⟩ := Kd.R_slice ho; subst eo8; have HO3 := Aside0.mk ho; have HL3 := Aside0.mk (HL2.out.step hb); have u6 := (hb.cell (p := ⟨B6, 0, none⟩) b6).trans t6; have u6f := (hb.frozen (p := ⟨B6, 0, none⟩) b6).trans t6f; clear ho hb hg2 hat t5 t6 t6f ts)
                            refine hK _ _ ?_
                            clear hK K
                            refine wpAny_ready (rs := [8]) (by kernel_rfl) (by simp) ?_
                            refine AllReady.cons rfl (fun K hK => ?_) AllReady.nil
                            · go_simp
                              refine hK _ _ ?_
                              clear hK K
                              refine wpAny_done (by kernel_rfl) ?_ _
                              refine Tame.normal ?_
                              gi_wp2
                              gi_roundg k1
                              case measure => omega
                              case rel => exact ⟨j + 1, _, by first | rfl | simp, ⟨by omega, by have := HI.out.2; omega⟩, ⟨World.cell?_setCell_same' _ _ _ (by rw [u6]; rfl), by rw [World.frozen?_setCell]; exact u6f⟩, ⟨Kd.R_far HO3.out (p := ⟨B6, 0, none⟩) (fun k hk => by show k ≠ B6; omega) _⟩, ⟨HL3.out.set B6 (.inl rfl) _⟩⟩
              · go_simp
                refine hK _ _ ?_
                clear hK K
                refine wpAny_ready (rs := [1]) (by kernel_rfl) (by simp) ?_
                refine AllReady.cons rfl (fun K hK => ?_) AllReady.nil
                · go_simp
                  refine hK _ _ ?_
                  clear hK K
                  refine wpAny_ready (rs := [3]) (by kernel_rfl) (by simp) ?_
                  refine AllReady.cons rfl (fun K hK => ?_) AllReady.nil
                  · go_simp
                    refine hK _ _ ?_
                    clear hK K
                    refine wpAny_ready (rs := [4]) (by kernel_rfl) (by simp) ?_
                    refine AllReady.cons rfl (fun K hK => ?_) AllReady.nil
                    · go_simp
                      refine hK _ _ ?_
                      clear hK K
                      refine wpAny_ready (rs := [5]) (by kernel_rfl) (by simp) ?_
                      refine AllReady.cons rfl (fun K hK => ?_) AllReady.nil
                      · go_simp
                        refine hK _ _ ?_
                        clear hK K
                        refine wpAny_ready (rs := [6]) (by kernel_rfl) (by simp) ?_
                        refine AllReady.cons rfl (fun K hK => ?_) AllReady.nil
                        · go_simp
                          refine hK _ _ ?_
                          clear hK K
                          refine wpAny_ready (rs := [7]) (by kernel_rfl) (by simp) ?_
                          refine AllReady.cons rfl (fun K hK => ?_) AllReady.nil
                          · (refine Kd.R_append_step (Kd.int .i64) (w0 := W) W1.heap.size (by rfl) (.tmp 70) (.tmp 76) 22 3 (.int .i64 0) 8 rfl Try.underlying22 info3 rfl (by decide) (by omega) (.slice Ao (keeps (x.take j.toNat) l).length co) (keeps (x.take j.toNat) l) ((rd_T61 l (rd x j)).f0) [.int .i64 (rd_T61 l (rd x j)).f0] (fun k => W1.heap.size ≤ k) (fun _ => False) rfl (by first | rfl | (go_simp; done) | (simp; done)) ?aP (fun _ hk => hk.elim) ?aF ?aO ?aB ?aS ?aL ?_; (case aP => exact rfl); (case aF => exact (fun k hk => Nat.le_trans HL2.out.size hk)); (case aO => exact HO2.out); (case aB => exact Below.refl _ _); (case aS => exact HL2.out.size); (case aL => have := LM.out; omega); intro v533 w8 ho hb hg2 hat; rw [← NN.out] at ho; obtain ⟨Ao8, co8, eo8⟩ := Kd.R_slice ho; subst eo8; have HO3 := Aside0.mk ho; have HL3 := Aside0.mk (HL2.out.step hb); have u6 := (hb.cell (p := ⟨B6, 0, none⟩) b6).trans t6; have u6f := (hb.frozen (p := ⟨B6, 0, none⟩) b6).trans t6f; clear ho hb hg2 hat t5 t6 t6f ts)
                            refine hK _ _ ?_
                            clear hK K
                            refine wpAny_ready (rs := [8]) (by kernel_rfl) (by simp) ?_
                            refine AllReady.cons rfl (fun K hK => ?_) AllReady.nil
                            · go_simp
                              refine hK _ _ ?_
                              clear hK K
                              refine wpAny_done (by kernel_rfl) ?_ _
                              refine Tame.normal ?_
                              gi_wp2
                              gi_roundg k1
                              case measure => omega
                              case rel => exact ⟨j + 1, _, by first | rfl | simp, ⟨by omega, by have := HI.out.2; omega⟩, ⟨World.cell?_setCell_same' _ _ _ (by rw [u6]; rfl), by rw [World.frozen?_setCell]; exact u6f⟩, ⟨Kd.R_far HO3.out (p := ⟨B6, 0, none⟩) (fun k hk => by show k ≠ B6; omega) _⟩, ⟨HL3.out.set B6 (.inl rfl) _⟩⟩
            · go_simp
              refine hK _ _ ?_
              clear hK K
              refine wpAny_ready (rs := [0, 2]) (by kernel_rfl) (by simp) ?_
              refine AllReady.cons rfl (fun K hK => ?_) (AllReady.cons rfl (fun K hK => ?_) AllReady.nil)
              · go_simp
                refine hK _ _ ?_
                clear hK K
                refine wpAny_ready (rs := [2]) (by kernel_rfl) (by simp) ?_
                refine AllReady.cons rfl (fun K hK => ?_) AllReady.nil
                · go_simp
                  refine hK _ _ ?_
                  clear hK K
                  refine wpAny_ready (rs := [3]) (by kernel_rfl) (by simp) ?_
                  refine AllReady.cons rfl (fun K hK => ?_) AllReady.nil
                  · go_simp
                    refine hK _ _ ?_
                    clear hK K
                    refine wpAny_ready (rs := [4]) (by kernel_rfl) (by simp) ?_
                    refine AllReady.cons rfl (fun K hK => ?_) AllReady.nil
                    · go_simp
                      refine hK _ _ ?_
                      clear hK K
                      refine wpAny_ready (rs := [5]) (by kernel_rfl) (by simp) ?_
                      refine AllReady.cons rfl (fun K hK => ?_) AllReady.nil
                      · go_simp
                        refine hK _ _ ?_
                        clear hK K
                        refine wpAny_ready (rs := [6]) (by kernel_rfl) (by simp) ?_
                        refine AllReady.cons rfl (fun K hK => ?_) AllReady.nil
                        · go_simp
                          refine hK _ _ ?_
                          clear hK K
                          refine wpAny_ready (rs := [7]) (by kernel_rfl) (by simp) ?_
                          refine AllReady.cons rfl (fun K hK => ?_) AllReady.nil
                          · (refine Kd.R_append_step (Kd.int .i64) (w0 := W) W1.heap.size (by rfl) (.tmp 70) (.tmp 76) 22 3 (.int .i64 0) 8 rfl Try.underlying22 info3 rfl (by decide) (by omega) (.slice Ao (keeps (x.take j.toNat) l).length co) (keeps (x.take j.toNat) l) ((rd_T61 l (rd x j)).f0) [.int .i64 (rd_T61 l (rd x j)).f0] (fun k => W1.heap.size ≤ k) (fun _ => False) rfl (by first | rfl | (go_simp; done) | (simp; done)) ?aP (fun _ hk => hk.elim) ?aF ?aO ?aB ?aS ?aL ?_; (case aP => exact rfl); (case aF => exact (fun k hk => Nat.le_trans HL2.out.size hk)); (case aO => exact HO2.out); (case aB => exact Below.refl _ _); (case aS => exact HL2.out.size); (case aL => have := LM.out; omega); intro v533 w8 ho hb hg2 hat; rw [← NN.out] at ho; obtain ⟨Ao8, co8, eo8⟩ := Kd.R_slice ho; subst eo8; have HO3 := Aside0.mk ho; have HL3 := Aside0.mk (HL2.out.step hb); have u6 := (hb.cell (p := ⟨B6, 0, none⟩) b6).trans t6; have u6f := (hb.frozen (p := ⟨B6, 0, none⟩) b6).trans t6f; clear ho hb hg2 hat t5 t6 t6f ts)
                            refine hK _ _ ?_
                            clear hK K
                            refine wpAny_ready (rs := [8]) (by kernel_rfl) (by simp) ?_
                            refine AllReady.cons rfl (fun K hK => ?_) AllReady.nil
                            · go_simp
                              refine hK _ _ ?_
                              clear hK K
                              refine wpAny_done (by kernel_rfl) ?_ _
                              refine Tame.normal ?_
                              gi_wp2
                              gi_roundg k1
                              case measure => omega
                              case rel => exact ⟨j + 1, _, by first | rfl | simp, ⟨by omega, by have := HI.out.2; omega⟩, ⟨World.cell?_setCell_same' _ _ _ (by rw [u6]; rfl), by rw [World.frozen?_setCell]; exact u6f⟩, ⟨Kd.R_far HO3.out (p := ⟨B6, 0, none⟩) (fun k hk => by show k ≠ B6; omega) _⟩, ⟨HL3.out.set B6 (.inl rfl) _⟩⟩
              · go_simp
                refine hK _ _ ?_
                clear hK K
                refine wpAny_ready (rs := [0, 3]) (by kernel_rfl) (by simp) ?_
                refine AllReady.cons rfl (fun K hK => ?_) (AllReady.cons rfl (fun K hK => ?_) AllReady.nil)
                · go_simp
                  refine hK _ _ ?_
                  clear hK K
                  refine wpAny_ready (rs := [3]) (by kernel_rfl) (by simp) ?_
                  refine AllReady.cons rfl (fun K hK => ?_) AllReady.nil
                  · go_simp
                    refine hK _ _ ?_
                    clear hK K
                    refine wpAny_ready (rs := [4]) (by kernel_rfl) (by simp) ?_
                    refine AllReady.cons rfl (fun K hK => ?_) AllReady.nil
                    · go_simp
                      refine hK _ _ ?_
                      clear hK K
                      refine wpAny_ready (rs := [5]) (by kernel_rfl) (by simp) ?_
                      refine AllReady.cons rfl (fun K hK => ?_) AllReady.nil
                      · go_simp
                        refine hK _ _ ?_
                        clear hK K
                        refine wpAny_ready (rs := [6]) (by kernel_rfl) (by simp) ?_
                        refine AllReady.cons rfl (fun K hK => ?_) AllReady.nil
                        · go_simp
                          refine hK _ _ ?_
                          clear hK K
                          refine wpAny_ready (rs := [7]) (by kernel_rfl) (by simp) ?_
                          refine AllReady.cons rfl (fun K hK => ?_) AllReady.nil
                          · (refine Kd.R_append_step (Kd.int .i64) (w0 := W) W1.heap.size (by rfl) (.tmp 70) (.tmp 76) 22 3 (.int .i64 0) 8 rfl Try.underlying22 info3 rfl (by decide) (by omega) (.slice Ao (keeps (x.take j.toNat) l).length co) (keeps (x.take j.toNat) l) ((rd_T61 l (rd x j)).f0) [.int .i64 (rd_T61 l (rd x j)).f0] (fun k => W1.heap.size ≤ k) (fun _ => False) rfl (by first | rfl | (go_simp; done) | (simp; done)) ?aP (fun _ hk => hk.elim) ?aF ?aO ?aB ?aS ?aL ?_; (case aP => exact rfl); (case aF => exact (fun k hk => Nat.le_trans HL2.out.size hk)); (case aO => exact HO2.out); (case aB => exact Below.refl _ _); (case aS => exact HL2.out.size); (case aL => have := LM.out; omega); intro v533 w8 ho hb hg2 hat; rw [← NN.out] at ho; obtain ⟨Ao8, co8, eo8⟩ := Kd.R_slice ho; subst eo8; have HO3 := Aside0.mk ho; have HL3 := Aside0.mk (HL2.out.step hb); have u6 := (hb.cell (p := ⟨B6, 0, none⟩) b6).trans t6; have u6f := (hb.frozen (p := ⟨B6, 0, none⟩) b6).trans t6f; clear ho hb hg2 hat t5 t6 t6f ts)
                            refine hK _ _ ?_
                            clear hK K
                            refine wpAny_ready (rs := [8]) (by kernel_rfl) (by simp) ?_
                            refine AllReady.cons rfl (fun K hK => ?_) AllReady.nil
                            · go_simp
                              refine hK _ _ ?_
                              clear hK K
                              refine wpAny_done (by kernel_rfl) ?_ _
                              refine Tame.normal ?_
                              gi_wp2
                              gi_roundg k1
                              case measure => omega
                              case rel => exact ⟨j + 1, _, by first | rfl | simp, ⟨by omega, by have := HI.out.2; omega⟩, ⟨World.cell?_setCell_same' _ _ _ (by rw [u6]; rfl), by rw [World.frozen?_setCell]; exact u6f⟩, ⟨Kd.R_far HO3.out (p := ⟨B6, 0, none⟩) (fun k hk => by show k ≠ B6; omega) _⟩, ⟨HL3.out.set B6 (.inl rfl) _⟩⟩
                · go_simp
                  refine hK _ _ ?_
                  clear hK K
                  refine wpAny_ready (rs := [0, 4]) (by kernel_rfl) (by simp) ?_
                  refine AllReady.cons rfl (fun K hK => ?_) (AllReady.cons rfl (fun K hK => ?_) AllReady.nil)
                  · go_simp
                    refine hK _ _ ?_
                    clear hK K
                    refine wpAny_ready (rs := [4]) (by kernel_rfl) (by simp) ?_
                    refine AllReady.cons rfl (fun K hK => ?_) AllReady.nil
                    · go_simp
                      refine hK _ _ ?_
                      clear hK K
                      refine wpAny_ready (rs := [5]) (by kernel_rfl) (by simp) ?_
                      refine AllReady.cons rfl (fun K hK => ?_) AllReady.nil
                      · go_simp
                        refine hK _ _ ?_
                        clear hK K
                        refine wpAny_ready (rs := [6]) (by kernel_rfl) (by simp) ?_
                        refine AllReady.cons rfl (fun K hK => ?_) AllReady.nil
                        · go_simp
                          refine hK _ _ ?_
                          clear hK K
                          refine wpAny_ready (rs := [7]) (by kernel_rfl) (by simp) ?_
                          refine AllReady.cons rfl (fun K hK => ?_) AllReady.nil
                          · (refine Kd.R_append_step (Kd.int .i64) (w0 := W) W1.heap.size (by rfl) (.tmp 70) (.tmp 76) 22 3 (.int .i64 0) 8 rfl Try.underlying22 info3 rfl (by decide) (by omega) (.slice Ao (keeps (x.take j.toNat) l).length co) (keeps (x.take j.toNat) l) ((rd_T61 l (rd x j)).f0) [.int .i64 (rd_T61 l (rd x j)).f0] (fun k => W1.heap.size ≤ k) (fun _ => False) rfl (by first | rfl | (go_simp; done) | (simp; done)) ?aP (fun _ hk => hk.elim) ?aF ?aO ?aB ?aS ?aL ?_; (case aP => exact rfl); (case aF => exact (fun k hk => Nat.le_trans HL2.out.size hk)); (case aO => exact HO2.out); (case aB => exact Below.refl _ _); (case aS => exact HL2.out.size); (case aL => have := LM.out; omega); intro v533 w8 ho hb hg2 hat; rw [← NN.out] at ho; obtain ⟨Ao8, co8, eo8⟩ := Kd.R_slice ho; subst eo8; have HO3 := Aside0.mk ho; have HL3 := Aside0.mk (HL2.out.step hb); have u6 := (hb.cell (p := ⟨B6, 0, none⟩) b6).trans t6; have u6f := (hb.frozen (p := ⟨B6, 0, none⟩) b6).trans t6f; clear ho hb hg2 hat t5 t6 t6f ts)
                            refine hK _ _ ?_
                            clear hK K
                            refine wpAny_ready (rs := [8]) (by kernel_rfl) (by simp) ?_
                            refine AllReady.cons rfl (fun K hK => ?_) AllReady.nil
                            · go_simp
                              refine hK _ _ ?_
                              clear hK K
                              refine wpAny_done (by kernel_rfl) ?_ _
                              refine Tame.normal ?_
                              gi_wp2
                              gi_roundg k1
                              case measure => omega
                              case rel => exact ⟨j + 1, _, by first | rfl | simp, ⟨by omega, by have := HI.out.2; omega⟩, ⟨World.cell?_setCell_same' _ _ _ (by rw [u6]; rfl), by rw [World.frozen?_setCell]; exact u6f⟩, ⟨Kd.R_far HO3.out (p := ⟨B6, 0, none⟩) (fun k hk => by show k ≠ B6; omega) _⟩, ⟨HL3.out.set B6 (.inl rfl) _⟩⟩
                  · go_simp
                    refine hK _ _ ?_
                    clear hK K
                    refine wpAny_ready (rs := [0, 5]) (by kernel_rfl) (by simp) ?_
                    refine AllReady.cons rfl (fun K hK => ?_) (AllReady.cons rfl (fun K hK => ?_) AllReady.nil)
                    · go_simp
                      refine hK _ _ ?_
                      clear hK K
                      refine wpAny_ready (rs := [5]) (by kernel_rfl) (by simp) ?_
                      refine AllReady.cons rfl (fun K hK => ?_) AllReady.nil
                      · go_simp
                        refine hK _ _ ?_
                        clear hK K
                        refine wpAny_ready (rs := [6]) (by kernel_rfl) (by simp) ?_
                        refine AllReady.cons rfl (fun K hK => ?_) AllReady.nil
                        · go_simp
                          refine hK _ _ ?_
                          clear hK K
                          refine wpAny_ready (rs := [7]) (by kernel_rfl) (by simp) ?_
                          refine AllReady.cons rfl (fun K hK => ?_) AllReady.nil
                          · (refine Kd.R_append_step (Kd.int .i64) (w0 := W) W1.heap.size (by rfl) (.tmp 70) (.tmp 76) 22 3 (.int .i64 0) 8 rfl Try.underlying22 info3 rfl (by decide) (by omega) (.slice Ao (keeps (x.take j.toNat) l).length co) (keeps (x.take j.toNat) l) ((rd_T61 l (rd x j)).f0) [.int .i64 (rd_T61 l (rd x j)).f0] (fun k => W1.heap.size ≤ k) (fun _ => False) rfl (by first | rfl | (go_simp; done) | (simp; done)) ?aP (fun _ hk => hk.elim) ?aF ?aO ?aB ?aS ?aL ?_; (case aP => exact rfl); (case aF => exact (fun k hk => Nat.le_trans HL2.out.size hk)); (case aO => exact HO2.out); (case aB => exact Below.refl _ _); (case aS => exact HL2.out.size); (case aL => have := LM.out; omega); intro v533 w8 ho hb hg2 hat; rw [← NN.out] at ho; obtain ⟨Ao8, co8, eo8⟩ := Kd.R_slice ho; subst eo8; have HO3 := Aside0.mk ho; have HL3 := Aside0.mk (HL2.out.step hb); have u6 := (hb.cell (p := ⟨B6, 0, none⟩) b6).trans t6; have u6f := (hb.frozen (p := ⟨B6, 0, none⟩) b6).trans t6f; clear ho hb hg2 hat t5 t6 t6f ts)
                            refine hK _ _ ?_
                            clear hK K
                            refine wpAny_ready (rs := [8]) (by kernel_rfl) (by simp) ?_
                            refine AllReady.cons rfl (fun K hK => ?_) AllReady.nil
                            · go_simp
                              refine hK _ _ ?_
                              clear hK K
                              refine wpAny_done (by kernel_rfl) ?_ _
                              refine Tame.normal ?_
                              gi_wp2
                              gi_roundg k1
                              case measure => omega
                              case rel => exact ⟨j + 1, _, by first | rfl | simp, ⟨by omega, by have := HI.out.2; omega⟩, ⟨World.cell?_setCell_same' _ _ _ (by rw [u6]; rfl), by rw [World.frozen?_setCell]; exact u6f⟩, ⟨Kd.R_far HO3.out (p := ⟨B6, 0, none⟩) (fun k hk => by show k ≠ B6; omega) _⟩, ⟨HL3.out.set B6 (.inl rfl) _⟩⟩
                    · go_simp
                      refine hK _ _ ?_
                      clear hK K
                      refine wpAny_ready (rs := [0, 6]) (by kernel_rfl) (by simp) ?_
                      refine AllReady.cons rfl (fun K hK => ?_) (AllReady.cons rfl (fun K hK => ?_) AllReady.nil)
                      · go_simp
                        refine hK _ _ ?_
                        clear hK K
                        refine wpAny_ready (rs := [6]) (by kernel_rfl) (by simp) ?_
                        refine AllReady.cons rfl (fun K hK => ?_) AllReady.nil
                        · go_simp
                          refine hK _ _ ?_
                          clear hK K
                          refine wpAny_ready (rs := [7]) (by kernel_rfl) (by simp) ?_
                          refine AllReady.cons rfl (fun K hK => ?_) AllReady.nil
                          · (refine Kd.R_append_step (Kd.int .i64) (w0 := W) W1.heap.size (by rfl) (.tmp 70) (.tmp 76) 22 3 (.int .i64 0) 8 rfl Try.underlying22 info3 rfl (by decide) (by omega) (.slice Ao (keeps (x.take j.toNat) l).length co) (keeps (x.take j.toNat) l) ((rd_T61 l (rd x j)).f0) [.int .i64 (rd_T61 l (rd x j)).f0] (fun k => W1.heap.size ≤ k) (fun _ => False) rfl (by first | rfl | (go_simp; done) | (simp; done)) ?aP (fun _ hk => hk.elim) ?aF ?aO ?aB ?aS ?aL ?_; (case aP => exact rfl); (case aF => exact (fun k hk => Nat.le_trans HL2.out.size hk)); (case aO => exact HO2.out); (case aB => exact Below.refl _ _); (case aS => exact HL2.out.size); (case aL => have := LM.out; omega); intro v533 w8 ho hb hg2 hat; rw [← NN.out] at ho; obtain ⟨Ao8, co8, eo8⟩ := Kd.R_slice ho; subst eo8; have HO3 := Aside0.mk ho; have HL3 := Aside0.mk (HL2.out.step hb); have u6 := (hb.cell (p := ⟨B6, 0, none⟩) b6).trans t6; have u6f := (hb.frozen (p := ⟨B6, 0, none⟩) b6).trans t6f; clear ho hb hg2 hat t5 t6 t6f ts)
                            refine hK _ _ ?_
                            clear hK K
                            refine wpAny_ready (rs := [8]) (by kernel_rfl) (by simp) ?_
                            refine AllReady.cons rfl (fun K hK => ?_) AllReady.nil
                            · go_simp
                              refine hK _ _ ?_
                              clear hK K
                              refine wpAny_done (by kernel_rfl) ?_ _
                              refine Tame.normal ?_
                              gi_wp2
                              gi_roundg k1
                              case measure => omega
                              case rel => exact ⟨j + 1, _, by first | rfl | simp, ⟨by omega, by have := HI.out.2; omega⟩, ⟨World.cell?_setCell_same' _ _ _ (by rw [u6]; rfl), by rw [World.frozen?_setCell]; exact u6f⟩, ⟨Kd.R_far HO3.out (p := ⟨B6, 0, none⟩) (fun k hk => by show k ≠ B6; omega) _⟩, ⟨HL3.out.set B6 (.inl rfl) _⟩⟩
                      · go_simp
                        refine hK _ _ ?_
                        clear hK K
                        refine wpAny_ready (rs := [0]) (by kernel_rfl) (by simp) ?_
                        refine AllReady.cons rfl (fun K hK => ?_) AllReady.nil
                        · have t6a := Lib.cell?_alloc_some (.cells #[.int .i64 (rd_T61 l (rd x j)).f0] 3) t6; go_simp; clear t6a
                          refine hK _ _ ?_
                          clear hK K
                          refine wpAny_ready (rs := [7]) (by kernel_rfl) (by simp) ?_
                          refine AllReady.cons rfl (fun K hK => ?_) AllReady.nil
                          · (refine Kd.R_append_step (Kd.int .i64) (w0 := W) W1.heap.size (by rfl) (.tmp 70) (.tmp 76) 22 3 (.int .i64 0) 8 rfl Try.underlying22 info3 rfl (by decide) (by omega) (.slice Ao (keeps (x.take j.toNat) l).length co) (keeps (x.take j.toNat) l) ((rd_T61 l (rd x j)).f0) [.int .i64 (rd_T61 l (rd x j)).f0] (fun k => W1.heap.size ≤ k) (fun _ => False) rfl (by first | rfl | (go_simp; done) | (simp; done)) ?aP (fun _ hk => hk.elim) ?aF ?aO ?aB ?aS ?aL ?_; (case aP => exact rfl); (case aF => exact (fun k hk => Nat.le_trans HL2.out.size hk)); (case aO => exact HO2.out); (case aB => exact Below.refl _ _); (case aS => exact HL2.out.size); (case aL => have := LM.out; omega); intro v533 w8 ho hb hg2 hat; rw [← NN.out] at ho; obtain ⟨Ao8, co8, eo8⟩ := Kd.R_slice ho; subst eo8; have HO3 := Aside0.mk ho; have HL3 := Aside0.mk (HL2.out.step hb); have u6 := (hb.cell (p := ⟨B6, 0, none⟩) b6).trans t6; have u6f := (hb.frozen (p := ⟨B6, 0, none⟩) b6).trans t6f; clear ho hb hg2 hat t5 t6 t6f ts)
                            refine hK _ _ ?_
                            clear hK K
                            refine wpAny_ready (rs := [8]) (by kernel_rfl) (by simp) ?_
                            refine AllReady.cons rfl (fun K hK => ?_) AllReady.nil
                            · go_simp
                              refine hK _ _ ?_
                              clear hK K
                              refine wpAny_done (by kernel_rfl) ?_ _
                              refine Tame.normal ?_
                              gi_wp2
                              gi_roundg k1
                              case measure => omega
                              case rel => exact ⟨j + 1, _, by first | rfl | simp, ⟨by omega, by have := HI.out.2; omega⟩, ⟨World.cell?_setCell_same' _ _ _ (by rw [u6]; rfl), by rw [World.frozen?_setCell]; exact u6f⟩, ⟨Kd.R_far HO3.out (p := ⟨B6, 0, none⟩) (fun k hk => by show k ≠ B6; omega) _⟩, ⟨HL3.out.set B6 (.inl rfl) _⟩⟩
            · go_simp
              refine hK _ _ ?_
              clear hK K
              refine wpAny_ready (rs := [0, 1]) (by kernel_rfl) (by simp) ?_
              refine AllReady.cons rfl (fun K hK => ?_) (AllReady.cons rfl (fun K hK => ?_) AllReady.nil)
              · go_simp
                refine hK _ _ ?_
                clear hK K
                refine wpAny_ready (rs := [1]) (by kernel_rfl) (by simp) ?_
                refine AllReady.cons rfl (fun K hK => ?_) AllReady.nil
                · go_simp
                  refine hK _ _ ?_
                  clear hK K
                  refine wpAny_ready (rs := [3]) (by kernel_rfl) (by simp) ?_
                  refine AllReady.cons rfl (fun K hK => ?_) AllReady.nil
                  · go_simp
                    refine hK _ _ ?_
                    clear hK K
                    refine wpAny_ready (rs := [4]) (by kernel_rfl) (by simp) ?_
                    refine AllReady.cons rfl (fun K hK => ?_) AllReady.nil
                    · go_simp
                      refine hK _ _ ?_
                      clear hK K
                      refine wpAny_ready (rs := [5]) (by kernel_rfl) (by simp) ?_
                      refine AllReady.cons rfl (fun K hK => ?_) AllReady.nil
                      · go_simp
                        refine hK _ _ ?_
                        clear hK K
                        refine wpAny_ready (rs := [6]) (by kernel_rfl) (by simp) ?_
                        refine AllReady.cons rfl (fun K hK => ?_) AllReady.nil
                        · go_simp
                          refine hK _ _ ?_
                          clear hK K
                          refine wpAny_ready (rs := [7]) (by kernel_rfl) (by simp) ?_
                          refine AllReady.cons rfl (fun K hK => ?_) AllReady.nil
                          · (refine Kd.R_append_step (Kd.int .i64) (w0 := W) W1.heap.size (by rfl) (.tmp 70) (.tmp 76) 22 3 (.int .i64 0) 8 rfl Try.underlying22 info3 rfl (by decide) (by omega) (.slice Ao (keeps (x.take j.toNat) l).length co) (keeps (x.take j.toNat) l) ((rd_T61 l (rd x j)).f0) [.int .i64 (rd_T61 l (rd x j)).f0] (fun k => W1.heap.size ≤ k) (fun _ => False) rfl (by first | rfl | (go_simp; done) | (simp; done)) ?aP (fun _ hk => hk.elim) ?aF ?aO ?aB ?aS ?aL ?_; (case aP => exact rfl); (case aF => exact (fun k hk => Nat.le_trans HL2.out.size hk)); (case aO => exact HO2.out); (case aB => exact Below.refl _ _); (case aS => exact HL2.out.size); (case aL => have := LM.out; omega); intro v533 w8 ho hb hg2 hat; rw [← NN.out] at ho; obtain ⟨Ao8, co8, eo8⟩ := Kd.R_slice ho; subst eo8; have HO3 := Aside0.mk ho; have HL3 := Aside0.mk (HL2.out.step hb); have u6 := (hb.cell (p := ⟨B6, 0, none⟩) b6).trans t6; have u6f := (hb.frozen (p := ⟨B6, 0, none⟩) b6).trans t6f; clear ho hb hg2 hat t5 t6 t6f ts)
                            refine hK _ _ ?_
                            clear hK K
                            refine wpAny_ready (rs := [8]) (by kernel_rfl) (by simp) ?_
                            refine AllReady.cons rfl (fun K hK => ?_) AllReady.nil
                            · go_simp
                              refine hK _ _ ?_
                              clear hK K
                              refine wpAny_done (by kernel_rfl) ?_ _
                              refine Tame.normal ?_
                              gi_wp2
                              gi_roundg k1
                              case measure => omega
                              case rel => exact ⟨j + 1, _, by first | rfl | simp, ⟨by omega, by have := HI.out.2; omega⟩, ⟨World.cell?_setCell_same' _ _ _ (by rw [u6]; rfl), by rw [World.frozen?_setCell]; exact u6f⟩, ⟨Kd.R_far HO3.out (p := ⟨B6, 0, none⟩) (fun k hk => by show k ≠ B6; omega) _⟩, ⟨HL3.out.set B6 (.inl rfl) _⟩⟩
              · go_simp
                refine hK _ _ ?_
                clear hK K
                refine wpAny_ready (rs := [0, 3]) (by kernel_rfl) (by simp) ?_
                refine AllReady.cons rfl (fun K hK => ?_) (AllReady.cons rfl (fun K hK => ?_) AllReady.nil)
                · go_simp
                  refine hK _ _ ?_
                  clear hK K
                  refine wpAny_ready (rs := [3]) (by kernel_rfl) (by simp) ?_
                  refine AllReady.cons rfl (fun K hK => ?_) AllReady.nil
                  · go_simp
                    refine hK _ _ ?_
                    clear hK K
                    refine wpAny_ready (rs := [4]) (by kernel_rfl) (by simp) ?_
                    refine AllReady.cons rfl (fun K hK => ?_) AllReady.nil
                    · go_simp
                      refine hK _ _ ?_
                      clear hK K
                      refine wpAny_ready (rs := [5]) (by kernel_rfl) (by simp) ?_
                      refine AllReady.cons rfl (fun K hK => ?_) AllReady.nil
                      · go_simp
                        refine hK _ _ ?_
                        clear hK K
                        refine wpAny_ready (rs := [6]) (by kernel_rfl) (by simp) ?_
                        refine AllReady.cons rfl (fun K hK => ?_) AllReady.nil
                        · go_simp
                          refine hK _ _ ?_
                          clear hK K
                          refine wpAny_ready (rs := [7]) (by kernel_rfl) (by simp) ?_
                          refine AllReady.cons rfl (fun K hK => ?_) AllReady.nil
                          · (refine Kd.R_append_step (Kd.int .i64) (w0 := W) W1.heap.size (by rfl) (.tmp 70) (.tmp 76) 22 3 (.int .i64 0) 8 rfl Try.underlying22 info3 rfl (by decide) (by omega) (.slice Ao (keeps (x.take j.toNat) l).length co) (keeps (x.take j.toNat) l) ((rd_T61 l (rd x j)).f0) [.int .i64 (rd_T61 l (rd x j)).f0] (fun k => W1.heap.size ≤ k) (fun _ => False) rfl (by first | rfl | (go_simp; done) | (simp; done)) ?aP (fun _ hk => hk.elim) ?aF ?aO ?aB ?aS ?aL ?_; (case aP => exact rfl); (case aF => exact (fun k hk => Nat.le_trans HL2.out.size hk)); (case aO => exact HO2.out); (case aB => exact Below.refl _ _); (case aS => exact HL2.out.size); (case aL => have := LM.out; omega); intro v533 w8 ho hb hg2 hat; rw [← NN.out] at ho; obtain ⟨Ao8, co8, eo8⟩ := Kd.R_slice ho; subst eo8; have HO3 := Aside0.mk ho; have HL3 := Aside0.mk (HL2.out.step hb); have u6 := (hb.cell (p := ⟨B6, 0, none⟩) b6).trans t6; have u6f := (hb.frozen (p := ⟨B6, 0, none⟩) b6).trans t6f; clear ho hb hg2 hat t5 t6 t6f ts)
                            refine hK _ _ ?_
                            clear hK K
                            refine wpAny_ready (rs := [8]) (by kernel_rfl) (by simp) ?_
                            refine AllReady.cons rfl (fun K hK => ?_) AllReady.nil
                            · go_simp
                              refine hK _ _ ?_
                              clear hK K
                              refine wpAny_done (by kernel_rfl) ?_ _
                              refine Tame.normal ?_
                              gi_wp2
                              gi_roundg k1
                              case measure => omega
                              case rel => exact ⟨j + 1, _, by first | rfl | simp, ⟨by omega, by have := HI.out.2; omega⟩, ⟨World.cell?_setCell_same' _ _ _ (by rw [u6]; rfl), by rw [World.frozen?_setCell]; exact u6f⟩, ⟨Kd.R_far HO3.out (p := ⟨B6, 0, none⟩) (fun k hk => by show k ≠ B6; omega) _⟩, ⟨HL3.out.set B6 (.inl rfl) _⟩⟩
                · go_simp
                  refine hK _ _ ?_
                  clear hK K
                  refine wpAny_ready (rs := [0, 4]) (by kernel_rfl) (by simp) ?_
                  refine AllReady.cons rfl (fun K hK => ?_) (AllReady.cons rfl (fun K hK => ?_) AllReady.nil)
                  · go_simp
                    refine hK _ _ ?_
                    clear hK K
                    refine wpAny_ready (rs := [4]) (by kernel_rfl) (by simp) ?_
                    refine AllReady.cons rfl (fun K hK => ?_) AllReady.nil
                    · go_simp
                      refine hK _ _ ?_
                      clear hK K
                      refine wpAny_ready (rs := [5]) (by kernel_rfl) (by simp) ?_
                      refine AllReady.cons rfl (fun K hK => ?_) AllReady.nil
                      · go_simp
                        refine hK _ _ ?_
                        clear hK K
                        refine wpAny_ready (rs := [6]) (by kernel_rfl) (by simp) ?_
                        refine AllReady.cons rfl (fun K hK => ?_) AllReady.nil
                        · go_simp
                          refine hK _ _ ?_
                          clear hK K
                          refine wpAny_ready (rs := [7]) (by kernel_rfl) (by simp) ?_
                          refine AllReady.cons rfl (fun K hK => ?_) AllReady.nil
                          · (refine Kd.R_append_step (Kd.int .i64) (w0 := W) W1.heap.size (by rfl) (.tmp 70) (.tmp 76) 22 3 (.int .i64 0) 8 rfl Try.underlying22 info3 rfl (by decide) (by omega) (.slice Ao (keeps (x.take j.toNat) l).length co) (keeps (x.take j.toNat) l) ((rd_T61 l (rd x j)).f0) [.int .i64 (rd_T61 l (rd x j)).f0] (fun k => W1.heap.size ≤ k) (fun _ => False) rfl (by first | rfl | (go_simp; done) | (simp; done)) ?aP (fun _ hk => hk.elim) ?aF ?aO ?aB ?aS ?aL ?_; (case aP => exact rfl); (case aF => exact (fun k hk => Nat.le_trans HL2.out.size hk)); (case aO => exact HO2.out); (case aB => exact Below.refl _ _); (case aS => exact HL2.out.size); (case aL => have := LM.out; omega); intro v533 w8 ho hb hg2 hat; rw [← NN.out] at ho; obtain ⟨Ao8, co8, eo8⟩ := Kd.R_slice ho; subst eo8; have HO3 := Aside0.mk ho; have HL3 := Aside0.mk (HL2.out.step hb); have u6 := (hb.cell (p := ⟨B6, 0, none⟩) b6).trans t6; have u6f := (hb.frozen (p := ⟨B6, 0, none⟩) b6).trans t6f; clear ho hb hg2 hat t5 t6 t6f ts)
                            refine hK _ _ ?_
                            clear hK K
                            refine wpAny_ready (rs := [8]) (by kernel_rfl) (by simp) ?_
                            refine AllReady.cons rfl (fun K hK => ?_) AllReady.nil
                            · go_simp
                              refine hK _ _ ?_
                              clear hK K
                              refine wpAny_done (by kernel_rfl) ?_ _
                              refine Tame.normal ?_
                              gi_wp2
                              gi_roundg k1
                              case measure => omega
                              case rel => exact ⟨j + 1, _, by first | rfl | simp, ⟨by omega, by have := HI.out.2; omega⟩, ⟨World.cell?_setCell_same' _ _ _ (by rw [u6]; rfl), by rw [World.frozen?_setCell]; exact u6f⟩, ⟨Kd.R_far HO3.out (p := ⟨B6, 0, none⟩) (fun k hk => by show k ≠ B6; omega) _⟩, ⟨HL3.out.set B6 (.inl rfl) _⟩⟩
                  · go_simp
                    refine hK _ _ ?_
                    clear hK K
                    refine wpAny_ready (rs := [0, 5]) (by kernel_rfl) (by simp) ?_
                    refine AllReady.cons rfl (fun K hK => ?_) (AllReady.cons rfl (fun K hK => ?_) AllReady.nil)
                    · go_simp
                      refine hK _ _ ?_
                      clear hK K
                      refine wpAny_ready (rs := [5]) (by kernel_rfl) (by simp) ?_
                      refine AllReady.cons rfl (fun K hK => ?_) AllReady.nil
                      · go_simp
                        refine hK _ _ ?_
                        clear hK K
                        refine wpAny_ready (rs := [6]) (by kernel_rfl) (by simp) ?_
                        refine AllReady.cons rfl (fun K hK => ?_) AllReady.nil
                        · go_simp
                          refine hK _ _ ?_
                          clear hK K
                          refine wpAny_ready (rs := [7]) (by kernel_rfl) (by simp) ?_
                          refine AllReady.cons rfl (fun K hK => ?_) AllReady.nil
                          · (refine Kd.R_append_step (Kd.int .i64) (w0 := W) W1.heap.size (by rfl) (.tmp 70) (.tmp 76) 22 3 (.int .i64 0) 8 rfl Try.underlying22 info3 rfl (by decide) (by omega) (.slice Ao (keeps (x.take j.toNat) l).length co) (keeps (x.take j.toNat) l) ((rd_T61 l (rd x j)).f0) [.int .i64 (rd_T61 l (rd x j)).f0] (fun k => W1.heap.size ≤ k) (fun _ => False) rfl (by first | rfl | (go_simp; done) | (simp; done)) ?aP (fun _ hk => hk.elim) ?aF ?aO ?aB ?aS ?aL ?_; (case aP => exact rfl); (case aF => exact (fun k hk => Nat.le_trans HL2.out.size hk)); (case aO => exact HO2.out); (case aB => exact Below.refl _ _); (case aS => exact HL2.out.size); (case aL => have := LM.out; omega); intro v533 w8 ho hb hg2 hat; rw [← NN.out] at ho; obtain ⟨Ao8, co8, eo8⟩ := Kd.R_slice ho; subst eo8; have HO3 := Aside0.mk ho; have HL3 := Aside0.mk (HL2.out.step hb); have u6 := (hb.cell (p := ⟨B6, 0, none⟩) b6).trans t6; have u6f := (hb.frozen (p := ⟨B6, 0, none⟩) b6).trans t6f; clear ho hb hg2 hat t5 t6 t6f ts)
                            refine hK _ _ ?_
                            clear hK K
                            refine wpAny_ready (rs := [8]) (by kernel_rfl) (by simp) ?_
                            refine AllReady.cons rfl (fun K hK => ?_) AllReady.nil
                            · go_simp
                              refine hK _ _ ?_
                              clear hK K
                              refine wpAny_done (by kernel_rfl) ?_ _
                              refine Tame.normal ?_
                              gi_wp2
                              gi_roundg k1
                              case measure => omega
                              case rel => exact ⟨j + 1, _, by first | rfl | simp, ⟨by omega, by have := HI.out.2; omega⟩, ⟨World.cell?_setCell_same' _ _ _ (by rw [u6]; rfl), by rw [World.frozen?_setCell]; exact u6f⟩, ⟨Kd.R_far HO3.out (p := ⟨B6, 0, none⟩) (fun k hk => by show k ≠ B6; omega) _⟩, ⟨HL3.out.set B6 (.inl rfl) _⟩⟩
                    · go_simp
                      refine hK _ _ ?_
                      clear hK K
                      refine wpAny_ready (rs := [0, 6]) (by kernel_rfl) (by simp) ?_
                      refine AllReady.cons rfl (fun K hK => ?_) (AllReady.cons rfl (fun K hK => ?_) AllReady.nil)
                      · go_simp
                        refine hK _ _ ?_
                        clear hK K
                        refine wpAny_ready (rs := [6]) (by kernel_rfl) (by simp) ?_
                        refine AllReady.cons rfl (fun K hK => ?_) AllReady.nil
                        · go_simp
                          refine hK _ _ ?_
                          clear hK K
                          refine wpAny_ready (rs := [7]) (by kernel_rfl) (by simp) ?_
                          refine AllReady.cons rfl (fun K hK => ?_) AllReady.nil
                          · (refine Kd.R_append_step (Kd.int .i64) (w0 := W) W1.heap.size (by rfl) (.tmp 70) (.tmp 76) 22 3 (.int .i64 0) 8 rfl Try.underlying22 info3 rfl (by decide) (by omega) (.slice Ao (keeps (x.take j.toNat) l).length co) (keeps (x.take j.toNat) l) ((rd_T61 l (rd x j)).f0) [.int .i64 (rd_T61 l (rd x j)).f0] (fun k => W1.heap.size ≤ k) (fun _ => False) rfl (by first | rfl | (go_simp; done) | (simp; done)) ?aP (fun _ hk => hk.elim) ?aF ?aO ?aB ?aS ?aL ?_; (case aP => exact rfl); (case aF => exact (fun k hk => Nat.le_trans HL2.out.size hk)); (case aO => exact HO2.out); (case aB => exact Below.refl _ _); (case aS => exact HL2.out.size); (case aL => have := LM.out; omega); intro v533 w8 ho hb hg2 hat; rw [← NN.out] at ho; obtain ⟨Ao8, co8, eo8⟩ := Kd.R_slice ho; subst eo8; have HO3 := Aside0.mk ho; have HL3 := Aside0.mk (HL2.out.step hb); have u6 := (hb.cell (p := ⟨B6, 0, none⟩) b6).trans t6; have u6f := (hb.frozen (p := ⟨B6, 0, none⟩) b6).trans t6f; clear ho hb hg2 hat t5 t6 t6f ts)
                            refine hK _ _ ?_
                            clear hK K
                            refine wpAny_ready (rs := [8]) (by kernel_rfl) (by simp) ?_
                            refine AllReady.cons rfl (fun K hK => ?_) AllReady.nil
                            · go_simp
                              refine hK _ _ ?_
                              clear hK K
                              refine wpAny_done (by kernel_rfl) ?_ _
                              refine Tame.normal ?_
                              gi_wp2
                              gi_roundg k1
                              case measure => omega
                              case rel => exact ⟨j + 1, _, by first | rfl | simp, ⟨by omega, by have := HI.out.2; omega⟩, ⟨World.cell?_setCell_same' _ _ _ (by rw [u6]; rfl), by rw [World.frozen?_setCell]; exact u6f⟩, ⟨Kd.R_far HO3.out (p := ⟨B6, 0, none⟩) (fun k hk => by show k ≠ B6; omega) _⟩, ⟨HL3.out.set B6 (.inl rfl) _⟩⟩
                      · go_simp
                        refine hK _ _ ?_
                        clear hK K
                        refine wpAny_ready (rs := [0]) (by kernel_rfl) (by simp) ?_
                        refine AllReady.cons rfl (fun K hK => ?_) AllReady.nil
                        · have t6a := Lib.cell?_alloc_some (.cells #[.int .i64 (rd_T61 l (rd x j)).f0] 3) t6; go_simp; clear t6a
                          refine hK _ _ ?_
                          clear hK K
                          refine wpAny_ready (rs := [7]) (by kernel_rfl) (by simp) ?_
                          refine AllReady.cons rfl (fun K hK => ?_) AllReady.nil
                          · (refine Kd.R_append_step (Kd.int .i64) (w0 := W) W1.heap.size (by rfl) (.tmp 70) (.tmp 76) 22 3 (.int .i64 0) 8 rfl Try.underlying22 info3 rfl (by decide) (by omega) (.slice Ao (keeps (x.take j.toNat) l).length co) (keeps (x.take j.toNat) l) ((rd_T61 l (rd x j)).f0) [.int .i64 (rd_T61 l (rd x j)).f0] (fun k => W1.heap.size ≤ k) (fun _ => False) rfl (by first | rfl | (go_simp; done) | (simp; done)) ?aP (fun _ hk => hk.elim) ?aF ?aO ?aB ?aS ?aL ?_; (case aP => exact rfl); (case aF => exact (fun k hk => Nat.le_trans HL2.out.size hk)); (case aO => exact HO2.out); (case aB => exact Below.refl _ _); (case aS => exact HL2.out.size); (case aL => have := LM.out; omega); intro v533 w8 ho hb hg2 hat; rw [← NN.out] at ho; obtain ⟨Ao8, co8, eo8⟩ := Kd.R_slice ho; subst eo8; have HO3 := Aside0.mk ho; have HL3 := Aside0.mk (HL2.out.step hb); have u6 := (hb.cell (p := ⟨B6, 0, none⟩) b6).trans t6; have u6f := (hb.frozen (p := ⟨B6, 0, none⟩) b6).trans t6f; clear ho hb hg2 hat t5 t6 t6f ts)
                            refine hK _ _ ?_
                            clear hK K
                            refine wpAny_ready (rs := [8]) (by kernel_rfl) (by simp) ?_
                            refine AllReady.cons rfl (fun K hK => ?_) AllReady.nil
                            · go_simp
                              refine hK _ _ ?_
                              clear hK K
                              refine wpAny_done (by kernel_rfl) ?_ _
                              refine Tame.normal ?_
                              gi_wp2
                              gi_roundg k1
                              case measure => omega
                              case rel => exact ⟨j + 1, _, by first | rfl | simp, ⟨by omega, by have := HI.out.2; omega⟩, ⟨World.cell?_setCell_same' _ _ _ (by rw [u6]; rfl), by rw [World.frozen?_setCell]; exact u6f⟩, ⟨Kd.R_far HO3.out (p := ⟨B6, 0, none⟩) (fun k hk => by show k ≠ B6; omega) _⟩, ⟨HL3.out.set B6 (.inl rfl) _⟩⟩
          · have hj : j = (x.length : Int) := by have := HI.out.2; omega
            subst hj
            rw [Int.toNat_natCast, List.take_length] at HO
            have t6 := H6.out.1
            have t6f := H6.out.2
            have kl : (keeps x l).length = x.length := by unfold keeps; rw [List.length_map]
            have HS := Aside0.mk (fun (W' : World) (hb : Below wr.heap.size wr W') => sort_c v6 (keeps x l) W1.heap.size W' (Kd.R_below HO.out hb) (by omega))
            have b7 : B7 < W1.heap.size := (Array.getElem?_eq_some_iff.1 O7.out).1
            have N67 := Aside0.mk n67
            have o7w : wr.heap[B7]? = some (.cells #[.int .i64 0] 24 (0, 0)) := (HL.out.block B7 b7 (fun e => n67 e.symm) (fun e => n67 e.symm)).trans O7.out
            have O7w := Aside0.mk o7w
            clear o7w n67 kl
            obtain ⟨Ao, co, eo⟩ := Kd.R_slice HO.out
            subst eo
            gi_wp2_with (refine ⟨trivial, CallsIn.mono (CallsIn.inRound lp (callsIn_wide.2 (HS.out _ (by repeat (first | exact Below.refl _ _ | apply below_alloc | apply pw_below_drewN | apply below_drew1))))) ?_⟩; rintro e w3 ⟨rfl, ho, hb⟩; have HO3 := Aside0.mk ho; have HL3 := Aside0.mk (HL.out.step hb); have u6 := (hb.cell (p := ⟨B6, 0, none⟩) b6).trans t6; have u6f := (hb.frozen (p := ⟨B6, 0, none⟩) b6).trans t6f; have u7 : w3.cell? ⟨B7, 0, none⟩ = some (.int .i64 0) := (hb.cell (p := ⟨B7, 0, none⟩) b7).trans (by simp [World.cell?, O7w.out]); have u7f : w3.frozen? ⟨B7, 0, none⟩ = false := (hb.frozen (p := ⟨B7, 0, none⟩) b7).trans (by simp [World.frozen?, O7w.out]); have u7b : (w3.setCell ⟨B6, 0, none⟩ (.slice Ao (keeps x l).length co)).cell? ⟨B7, 0, none⟩ = some (.int .i64 0) := (World.cell?_setCell_far _ _ _ _ N67.out).trans u7; clear ho hb t6 t6f)
            exact HG.out _ _ _ ((HL3.out.widen.set B6 (.inl rfl) _).set B7 (.inr rfl) _) ((World.cell?_setCell_far _ _ _ _ (Ne.symm N67.out)).trans (World.cell?_setCell_same' _ _ _ (by rw [u6]; rfl))) (World.cell?_setCell_same' _ _ _ (by rw [u7b]; rfl)) (Kd.R_far (Kd.R_far HO3.out (p := ⟨B6, 0, none⟩) (fun k hk => by show k ≠ B6; omega) _) (p := ⟨B7, 0, none⟩) (fun k hk => by show k ≠ B7; omega) _)
end Go.Proofs.Ytpfkfbbekfkcgaa.P
end
