/- Words and contracts for a claim. -/
import Derived.Test.YthoeindopljmkaaBase11
import Derived.Shelf.Bits.Mul64
import Derived.Laws.CopyOwn
section
namespace Go.Proofs.Ythoeindopljmkaa.P
open Go.RowKit Go.Shelf Go.Proofs.YthoeindopljmkaaW.PrintWords Go.Proofs.YthoeindopljmkaaW.PrintLast Go.Proofs.YthoeindopljmkaaW.PrintMore
set_option linter.unusedVariables false
set_option linter.unusedSimpArgs false
set_option maxHeartbeats 2000000 in
set_option maxRecDepth 100000 in
theorem mul99 (y : Nat) (hy : y < 1000000) (w : World) : Calls Try.prog 99 #[.int .u64 1, .int .u64 y] w fun e w' => e = .returned (.tuple #[.int .u64 0, .int .u64 y]) ∧ w' = w := by
  have e1 : y % 4294967296 = y := by omega
  have e2 : y / 4294967296 = 0 := by omega
  have m1 := Mul64.maskN 1 (by omega)
  have m2 := Mul64.maskN y (by omega)
  have b1 : bits .and .u64 1 4294967295 = 1 := by simpa using m1
  have b2 : bits .and .u64 (y : Int) 4294967295 = y := by rw [m2, e1]
  have b0 : bits .and .u64 0 4294967295 = 0 := by have := Mul64.maskN 0 (by omega); simpa using this
  have d2 : (y : Int) / 4294967296 = 0 := by omega
  have d1 : (1 : Int) / 4294967296 = 0 := by decide
  have d0 : (0 : Int) / 4294967296 = 0 := by decide
  have w0 : IntKind.u64.wrap 0 = 0 := by rw [IntKind.wrap_u64]; decide
  have wy : IntKind.u64.wrap (y : Int) = y := by rw [IntKind.wrap_u64]; omega
  go_enter Try.func99, Try.ntmps99
  go_wp2
  go_ret2
  refine ⟨?_, rfl⟩
  simp [b1, b2, b0, d2, d1, d0, w0, wy]
set_option maxHeartbeats 2000000 in
set_option maxRecDepth 100000 in
theorem mul88 (y : Nat) (hy : y < 1000000) (w : World) : Calls Try.prog 88 #[.int .u64 1, .int .u64 y] w fun e w' => e = .returned (.tuple #[.int .u64 0, .int .u64 y]) ∧ w' = w := by
  have H := mul99 y hy w
  go_enter Try.func88, Try.ntmps88
  go_wp2_with (go_at_call 99; refine H.mono ?_; rintro e w' ⟨rfl, rfl⟩)
  go_ret2
  exact ⟨rfl, rfl⟩
def IntsTo (n : Nat) (L : List Value) : Prop := ∀ j, j < n → ∃ x : Int, L[j]? = some (.int .i64 x)
theorem IntsTo.splice {n i : Nat} {L cs : List Value} (h : IntsTo n L) (hc : ∀ v ∈ cs, ∃ x : Int, v = .int .i64 x) (hi : i + cs.length ≤ L.length) : IntsTo n (Go.splice L i cs) := by
  intro j hj
  unfold Go.splice
  rw [List.getElem?_append]
  by_cases c1 : j < (L.take i).length
  · rw [if_pos c1, List.getElem?_take, if_pos (by rw [List.length_take] at c1; omega)]
    exact h j hj
  · rw [if_neg c1, List.getElem?_append]
    have hl : (L.take i).length = i := by rw [List.length_take]; omega
    rw [hl] at c1 ⊢
    by_cases c2 : j - i < cs.length
    · rw [if_pos c2, List.getElem?_eq_getElem c2]
      obtain ⟨x, hx⟩ := hc _ (List.getElem_mem c2)
      exact ⟨x, by rw [hx]⟩
    · rw [if_neg c2, List.getElem?_drop, show i + cs.length + (j - i - cs.length) = j by omega]
      exact h j hj
theorem IntsTo.row {w : World} {base g cap n : Nat} {L : List Value} (h : IntsTo n L) (hn : n ≤ cap) (hm : cap ≤ maxLen) (hl : L.length = cap) (hb : base ≤ g) (hg : w.heap[g]? = some (.cells L.toArray 3 (0, 0))) :
    ∃ xs : List Int, xs.length = n ∧ Kd.R (Kd.int .i64) 3 w base (fun _ => True) (.slice (some ⟨g, 0, none⟩) n cap) xs := by
  refine ⟨(L.take n).map (fun v => match v with | .int _ x => x | _ => 0), by rw [List.length_map, List.length_take]; omega, Kd.R_of_own (enc := Value.int .i64) (h1 := fun _ => rfl) ?_ (fun _ _ => trivial)⟩
  have e : encs (Value.int .i64) ((L.take n).map (fun v => match v with | .int _ x => x | _ => 0)) = L.take n := by
    unfold encs
    rw [List.map_map]
    refine (List.map_congr_left (fun v hv => ?_)).trans (List.map_id _)
    obtain ⟨j, hj, rfl⟩ := List.mem_iff_getElem.1 hv
    rw [List.length_take] at hj
    obtain ⟨x, hx⟩ := h j (by omega)
    rw [List.getElem?_eq_getElem (by omega)] at hx
    rw [List.getElem_take, Option.some.inj hx]; rfl
  rw [e, List.length_map, List.length_take, Nat.min_eq_left (by omega)]
  exact ⟨by rw [List.length_take]; omega, .inr ⟨g, cap, L.toArray, rfl, hb, hg, hn, hm, by simp [hl], by simp⟩⟩
theorem made_form {W : World} {base y : Nat} {v : Value} (h : Kd.R (Kd.int .i64) 3 W base (fun _ => True) v (List.replicate (y : Int).toNat 0)) (hy : 0 < y) :
    ∃ g cap L, v = .slice (some ⟨g, 0, none⟩) y cap ∧ base ≤ g ∧ W.heap[g]? = some (.cells (L : List Value).toArray 3 (0, 0)) ∧ y ≤ cap ∧ cap ≤ maxLen ∧ L.length = cap ∧ IntsTo y L := by
  have h2 := Kd.own_of_R h
  have hl : (List.replicate (y : Int).toNat (0 : Int)).length = y := by simp
  rw [hl] at h2
  obtain ⟨_, h3⟩ := h2
  rcases h3 with ⟨_, h0⟩ | ⟨g, cap, cur, e, hb, hg, hn, hm, hs, ht⟩
  · omega
  · refine ⟨g, cap, cur.toList, e, hb, by simpa using hg, hn, hm, by simpa using hs, fun j hj => ⟨0, ?_⟩⟩
    have e2 : (cur.toList.take (y * 1))[j]? = some (.int .i64 0) := by rw [ht]; unfold encs; rw [List.getElem?_map, List.getElem?_replicate, if_pos (by simpa using hj)]; rfl
    rw [List.getElem?_take, if_pos (by omega)] at e2
    exact e2
theorem size3 : (Try.prog.info? 3).map (·.size) = some 1 := by
  obtain ⟨i, hi, _, hs, _⟩ := info_parts info3
  rw [hi]; simp [hs]
set_option maxHeartbeats 4000000 in
set_option maxRecDepth 100000 in
theorem repeat_c (a : Int) (y : Nat) (ad : Addr) (cap : Nat) (w : World) (hy0 : 0 < y) (hy : y ≤ 1000) (hC : w.cell? ad = some (.int .i64 a)) :
  Calls Try.prog 74 #[.slice (some ad) 1 1, .int .i64 y] w fun e w' => ∃ v xs, e = .returned v ∧ xs.length = y ∧ Kd.R (Kd.int .i64) 3 w' w.heap.size (fun _ => True) v xs ∧ Below w.heap.size w w' := by
 have M := mul88 y (by omega)
 have w1 : IntKind.u64.wrap (y : Int) = y := by rw [IntKind.wrap_u64]; omega
 have w2 : IntKind.i64.wrap (y : Int) = y := (i64_w _).trans (w64s (by omega) (by omega))
 have w0 : IntKind.u64.wrap 1 = 1 := by rw [IntKind.wrap_u64]; decide
 have d1 : decide ((y : Int) < 0) = false := decide_eq_false (by omega)
 have d2 : decide ((9223372036854775807 : Int) < y) = false := decide_eq_false (by omega)
 have d3 : decide (9223372036854775807 < y) = false := decide_eq_false (by omega)
 have m0 : decide (0 ≤ (y : Int)) = true := decide_eq_true (by omega)
 have m1 : decide ((y : Int).toNat ≤ 35184372088832) = true := decide_eq_true (by omega)
 go_enter Try.func74, Try.ntmps74
 go_wp2_with (first
  | (go_at_call 88; refine (M _).mono ?_; rintro e w' ⟨rfl, rfl⟩)
  | ((with_reducible refine gate_dst (N := 30) rfl ?_); refine Kd.R_make (Kd.int .i64) _ 3 rfl (N := 30) rfl 30 _ _ rfl (y : Int) rfl rfl Try.underlying30 (.int .i64 0) 8 info3 rfl (by decide) (by omega) 0 (ok := fun _ => True) (okp := fun _ => True) rfl (fun _ hk => hk) trivial (of_decide_eq_true m0) (Nat.le_trans (Nat.mul_le_mul_right _ (of_decide_eq_true m1 : (y : Int).toNat ≤ 35184372088832)) (by omega)) (Below.refl _ _) (Nat.le_refl _) ?_; intro v30 w30 ho hb hg_ hnew_; clear hg_ hnew_; obtain ⟨gR, cR, L, ev, hbR, hgR, hnR, hmR, hlR, hIR⟩ := made_form ho hy0; subst ev; have HB := zA hb; have HGR := zA hgR; have HI := zA hIR; have HCC := zA ((hb.cell (World.block_lt_of_cell? _ _ hC)).trans hC); clear ho hb hgR hIR)
  | fail)
 have hrun := run_copy_row (P := Try.prog) w30 30 30 3 3 gR 0 y cR ad 1 1 L.toArray 3 [.int .i64 a] Try.underlying30 size3 HGR.out (show 1 = Nat.min 1 y from (Nat.min_eq_left hy0).symm) (fun j v hj => by (match j, hj with | 0, hj => (cases hj; rw [Addr.add_zero']; exact HCC.out) | (j + 1), hj => cases hj)) (by simp; omega) (by simp [Value.oneCell'])
 rw [hrun]
 obtain ⟨W4, hW4⟩ : ∃ W4, w30.setRow gR (L.toArray.toList.take 0 ++ [Value.int .i64 a] ++ L.toArray.toList.drop (0 + [Value.int .i64 a].length)).toArray = W4 := ⟨_, rfl⟩
 rw [hW4]
 have H4 : W4.heap[gR]? = some (.cells (splice L 0 [.int .i64 a]).toArray 3 (0, 0)) := by rw [← hW4]; have := setRow_heap w30 gR _ (L.toArray.toList.take 0 ++ [Value.int .i64 a] ++ L.toArray.toList.drop (0 + [Value.int .i64 a].length)).toArray 3 (0, 0) HGR.out; simpa [splice] using this
 have B4 : Below gR w30 W4 := by rw [← hW4]; exact below_setRow (Below.refl _ _) (Nat.le_refl _) _
 clear hrun hW4
 go_wp2
 have X4 := zA (IntsTo.splice (i := 0) (cs := [.int .i64 a]) HI.out (fun v hv => ⟨a, List.mem_singleton.1 hv⟩) (show 0 + 1 ≤ L.length by omega))
 have hl4 : (splice L 0 [Value.int .i64 a]).length = cR := (length_splice _ _ _ (show 0 + 1 ≤ L.length by omega)).trans hlR
 generalize hS : splice L 0 [Value.int .i64 a] = L4 at *
 have H4' := zA H4
 have B4' := zA B4
 have HL4 := zA hl4
 clear hS H4 B4 hl4 HI HGR HCC M w1 w0 d1 d2 d3 m0 m1 hlR hC
 go_loopg [8] y (fun kq v8 w' => ∃ (i : Nat) (L' : List Value), v8 = .int .i64 (i : Int) ∧ Aside0 (1 ≤ i ∧ i ≤ y ∧ kq = y - i + 1) ∧ Aside0 (w'.heap[gR]? = some (.cells L'.toArray 3 (0, 0)) ∧ L'.length = cR ∧ IntsTo y L') ∧ Aside0 (Below gR w30 w'))
 case atStart => exact ⟨1, L4, rfl, ⟨Nat.le_refl _, hy0, by omega⟩, ⟨H4'.out, HL4.out, X4.out⟩, B4'⟩
 case round =>
  clear H4' B4' HL4 X4
  obtain ⟨i, L', rfl, HI, HG, HB2⟩ := hrel
  by_cases c : i < y
  ·
   have c1 : decide ((i : Int) < y) = true := decide_eq_true (by omega)
   have c2 : decide (i < y) = true := decide_eq_true c
   have hi1 := HI.out.1
   have hg := HG.out.1
   have hk1 : ∀ W : World, (Instr.slice 30 (.slice (some ⟨gR, 0, none⟩) y cR) (some (.int .i64 (i : Int))) none none).run Try.prog W = .ok (.slice (some ⟨gR, i, none⟩) (y - i) (cR - i)) W := by
    obtain ⟨i3, hi3, _, hs3, _⟩ := info_parts info3
    have := cut_from (P := Try.prog) 30 3 .i64 Try.underlying30 hi3 1 hs3 (some ⟨gR, 0, none⟩) y cR (i : Int) (by omega) (by omega)
    rw [Int.toNat_natCast] at this
    intro W
    rw [this W, if_neg (by omega)]
    simp [Addr.add]
    omega
   have hk2 : ∀ W : World, (Instr.slice 30 (.slice (some ⟨gR, 0, none⟩) y cR) none (some (.int .i64 (i : Int))) none).run Try.prog W = .ok (.slice (some ⟨gR, 0, none⟩) i cR) W := by
    obtain ⟨i3, hi3, _, hs3, _⟩ := info_parts info3
    intro W
    have := (print_take_of (P := Try.prog) (Value.int .i64) 0 30 3 .i64 Try.underlying30 hi3 hs3 (some ⟨gR, 0, none⟩) cR (List.replicate y (0 : Int)) (i : Int) (by omega) (by simp; omega) (by simp; omega)).1 W
    simpa [Nat.min_eq_left (Nat.le_of_lt c)] using this
   obtain ⟨cs, hcs⟩ : ∃ cs, cs = L'.take (min i (y - i)) := ⟨_, rfl⟩
   have hcl : cs.length = Nat.min i (y - i) := by rw [hcs, List.length_take]; have := HG.out.2.1; show min (min i (y - i)) L'.length = min i (y - i); omega
   have hci : ∀ v ∈ cs, ∃ x : Int, v = .int .i64 x := fun v hv => by
    rw [hcs] at hv
    obtain ⟨j, hj, rfl⟩ := List.mem_iff_getElem.1 hv
    rw [List.length_take] at hj
    obtain ⟨x, hx⟩ := HG.out.2.2 j (by omega)
    rw [List.getElem?_eq_getElem (by omega)] at hx
    exact ⟨x, by rw [List.getElem_take]; exact Option.some.inj hx⟩
   have hsrc : ∀ j v, cs[j]? = some v → wr.drew.cell? ((⟨gR, 0, none⟩ : Addr).add j) = some v := fun j v hv => by
    rw [hcs, List.getElem?_take] at hv
    split at hv
    ·
     have e : (⟨gR, 0, none⟩ : Addr).add j = ⟨gR, j, none⟩ := by unfold Addr.add; split <;> simp_all
     rw [e]
     show wr.cell? _ = _
     unfold World.cell?
     rw [show (⟨gR, j, none⟩ : Addr).block = gR from rfl, hg]
     simpa using hv
    ·
     cases hv
   have HCL := zA hcl
   have HCI := zA hci
   have HSR := zA hsrc
   have hn0 : 1 ≤ cs.length := by rw [hcl]; show 1 ≤ min i (y - i); omega
   obtain ⟨q, hq⟩ : ∃ q, cs.length = q := ⟨_, rfl⟩
   have hqy : q ≤ y - i := by rw [← hq, hcl]; exact Nat.min_le_right _ _
   have hwq : IntKind.i64.wrap ((i : Int) + (cs.length : Int)) = ((i + q : Nat) : Int) := by rw [hq, i64_w, w64s (by omega) (by omega)]; omega
   have hwr : wrap64 ((i : Int) + (cs.length : Int)) = ((i + q : Nat) : Int) := by rw [← i64_w]; exact hwq
   have hfit : i + cs.length ≤ L'.length := by rw [hq, HG.out.2.1]; exact Nat.le_trans (Nat.add_le_add_left hqy i) (by rw [Nat.add_sub_cancel' (Nat.le_of_lt c)]; exact hnR)
   have hone : ∀ v ∈ cs, v.oneCell' = true := fun v hv => by obtain ⟨x, rfl⟩ := hci v hv; rfl
   have HF := zA (And.intro hfit (And.intro hone hqy))
   have HQ := zA hq
   have HN0 := zA (show 1 ≤ q by omega)
   clear hcl hci hsrc hcs hq hfit hone hqy
   go_wp2
   clear hg hnR hmR hbR hy hy0 w2 hi1 c hn0
   go_region_law (refine step_copy_splice rfl (.tmp 41) (.tmp 44) 30 30 rfl 3 Try.underlying30 size3 (some ⟨gR, i, none⟩) (some ⟨gR, 0, none⟩) (y - i) (cR - i) i cR ?hd ?hs gR i L' 3 HG.out.1 cs HCL.out (fun _ => ⟨rfl, _, rfl, HSR.out⟩) HF.out.1 HF.out.2.1 gR w30 (below_drew1 HB2.out) (Nat.le_refl _) ?_; (case hd => first | (go_simp; done) | (go_simp; rfl)); (case hs => first | (go_simp; done) | (go_simp; rfl)); intro w5 hg5 hb5; have H5 := zA (show w5.heap[gR]? = _ from hg5); have HB5 := zA hb5; clear hg5 hb5)
   have H6 := zA (And.intro H5.out (And.intro ((length_splice L' i cs HF.out.1).trans HG.out.2.1) (IntsTo.splice HG.out.2.2 HCI.out HF.out.1)))
   clear H5; generalize hS : splice L' i cs = L5 at *
   have hn1 : 1 ≤ q := HN0.out
   go_wp2
   go_roundg (y - (i + q) + 1)
   case measure => have := HI.out; have := HF.out.2.2; omega
   case rel => exact ⟨i + q, L5, by first | rfl | simp, ⟨by omega, by have := HF.out.2.2; have := HI.out.2.1; omega, rfl⟩, H6, HB5⟩
  ·
   obtain rfl : i = y := by have := HI.out.2.1; omega
   have c1 : decide ((i : Int) < i) = false := decide_eq_false (by omega)
   have c2 : decide (i < i) = false := decide_eq_false c
   obtain ⟨xs, hxl, hxR⟩ := IntsTo.row (base := w'.heap.size) HG.out.2.2 hnR hmR HG.out.2.1 hbR HG.out.1
   have HX := zA hxR
   have HBB := zA (below_chain HB.out HB2.out hbR)
   clear hxR
   go_wp2
   go_ret
   exact ⟨_, xs, rfl, hxl, HX.out, HBB.out⟩
end Go.Proofs.Ythoeindopljmkaa.P
end
section
namespace Go.Proofs.Ythoeindopljmkaa.P
open Go.RowKit Go.Shelf Go.Proofs.YthoeindopljmkaaW.PrintWords Go.Proofs.YthoeindopljmkaaW.PrintLast Go.Proofs.YthoeindopljmkaaW.PrintMore
set_option linter.unusedVariables false
set_option linter.unusedSimpArgs false
attribute [local go_sem] Oper.semAt_some
def bwFrom (n : Nat) : Nat → List (Fin n)
  | 0 => []
  | k + 1 => if h : k < n then ⟨k, h⟩ :: bwFrom n k else []
theorem bwFrom_succ {n k : Nat} (h : k < n) : bwFrom n (k + 1) = ⟨k, h⟩ :: bwFrom n k := by
  rw [bwFrom, dif_pos h]
set_option maxHeartbeats 2000000 in
set_option maxRecDepth 100000 in
theorem back_c (A : Option Addr) (n c : Nat) (w : World) :
    Calls Try.prog 72 #[.slice A n c] w fun e w' => e = .returned (.func (.func 87) #[] #[.pointer (some ⟨w.heap.size, 0, none⟩)]) ∧ w' = w.alloc (.cells #[.slice A n c] 109) := by
  go_enter Try.func72, Try.ntmps72
  go_wp2
  go_ret
  exact ⟨rfl, rfl⟩
def KeepB (b1 b2 : Nat) (A B : World) : Prop := B.heap[b1]? = A.heap[b1]? ∧ B.heap[b2]? = A.heap[b2]?
theorem KeepB.refl (b1 b2 : Nat) (A : World) : KeepB b1 b2 A A := ⟨rfl, rfl⟩
theorem KeepB.trans {b1 b2 : Nat} {A B C : World} (h : KeepB b1 b2 A B) (k : KeepB b1 b2 B C) : KeepB b1 b2 A C := ⟨k.1.trans h.1, k.2.trans h.2⟩
theorem cell_same {A B : World} {a : Addr} (h : B.heap[a.block]? = A.heap[a.block]?) : B.cell? a = A.cell? a := by unfold World.cell?; rw [h]
theorem add_block (ad : Addr) (j : Nat) : (ad.add j).block = ad.block := by unfold Addr.add; split <;> rfl
theorem KeepB.put {b1 b2 B : Nat} (h1 : b1 < B) (h2 : b2 < B) (W : World) (l : Nat) (o o' : Obj) (hl : B ≤ l) (_ : W.heap[l]? = some o) (_ : o.isCells = false) (_ : o.isWalk = false) : KeepB b1 b2 W (W.putObj l o') :=
  ⟨World.putObj_heap_other (by omega), World.putObj_heap_other (by omega)⟩
set_option maxHeartbeats 2000000 in
set_option maxRecDepth 100000 in
theorem back_stops (ad : Addr) (n c : Nat) (rows : Nat → Value × Value × Value) (Bs : Nat) (w : World) (hn : n ≤ 1000)
  (cl : w.cell? ⟨Bs, 0, none⟩ = some (.slice (some ad) n c))
  (hcell : ∀ j, j < n → w.cell? (ad.add (j * 3)) = some (rows j).1 ∧ w.cell? ⟨(ad.add (j * 3)).block, (ad.add (j * 3)).off + 1, none⟩ = some (rows j).2.1 ∧ w.cell? ⟨(ad.add (j * 3)).block, (ad.add (j * 3)).off + 2, none⟩ = some (rows j).2.2) :
  SeqStopsK Fence.wide 9 Try.prog 87 #[.pointer (some ⟨Bs, 0, none⟩)] (fun x : Fin n => #[.int .i64 (x.val : Int), .agg #[(rows x.val).1, (rows x.val).2.1, (rows x.val).2.2]]) (KeepB Bs ad.block) (fun ys => ys = bwFrom n n) (fun pre => pre <+: bwFrom n n) n w := by
 intro l J Jx W hW hJ hJx hY h0
 have hu115 := Try.underlying115
 have bl := World.block_lt_of_cell? _ _ cl
 refine callsIn_of_wp Try.func87 rfl trivial ?_ rfl
 simp only [Try.ntmps87, List.size_toArray, List.length_cons, List.length_nil, Nat.reduceAdd, Nat.reduceSub, Array.replicate_succ, Array.replicate_zero, List.push_toArray, List.append_toArray, List.nil_append, List.cons_append]
 have cl0 := (hW.cell (p := ⟨Bs, 0, none⟩) bl).trans cl
 have HY := zA hY
 have HJ := zA hJ
 have CL := zA cl0
 have HC := zA (fun j (hj : j < n) => (⟨(hW.cell (World.block_lt_of_cell? _ _ (hcell j hj).1)).trans (hcell j hj).1, (hW.cell (World.block_lt_of_cell? _ _ (hcell j hj).2.1)).trans (hcell j hj).2.1, (hW.cell (World.block_lt_of_cell? _ _ (hcell j hj).2.2)).trans (hcell j hj).2.2⟩ : _ ∧ _ ∧ _))
 clear hY hJ hJx cl hcell
 obtain ⟨n1, hn1⟩ : ∃ n1 : Int, (n : Int) - 1 = n1 := ⟨_, rfl⟩
 have hw1 : IntKind.i64.wrap ((n : Int) - 1) = n1 := by rw [i64_w, ← hn1]; unfold wrap64; omega
 have HN := zA hn1
 clear hn1
 gi_wp2
 gi_loopw [3] (fun i wr => ∃ (k : Nat) (pre : List (Fin n)), i = .int .i64 ((k : Int) - 1) ∧ k ≤ n ∧ pre.length + k = n ∧ Aside0 (bwFrom n n = pre ++ bwFrom n k) ∧ Aside0 (J pre wr) ∧ Aside0 (KeepB Bs ad.block W wr))
  (fun i _ => (intOf i + 1).toNat)
 case atStart => exact ⟨n, [], by rw [HN.out], Nat.le_refl _, by simp, ⟨rfl⟩, ⟨h0⟩, ⟨KeepB.refl _ _ _⟩⟩
 case round =>
  obtain ⟨k, pre, rfl, hk, hp, HW, HJ1, HB⟩ := hrel
  have cl1 := (cell_same (a := ⟨Bs, 0, none⟩) HB.out.1).trans CL.out
  cases k with
  | succ k =>
   rw [show (((k + 1 : Nat)) : Int) - 1 = (k : Int) by omega]
   have c1 : decide ((0 : Int) ≤ (k : Int)) = true := decide_eq_true (by omega)
   have c2 : k < n := by omega
   have c3 : decide (k < n) = true := decide_eq_true c2
   obtain ⟨g0, g1, g2⟩ := HC.out k c2
   have h0 : wr.cell? (ad.add (k * 3)) = some (rows k).1 := (cell_same (a := ad.add (k * 3)) (by show wr.heap[(ad.add (k * 3)).block]? = W.heap[(ad.add (k * 3)).block]?; rw [add_block]; exact HB.out.2)).trans g0
   have h1 : wr.cell? ⟨(ad.add (k * 3)).block, (ad.add (k * 3)).off + 1, none⟩ = some (rows k).2.1 := (cell_same (a := ⟨(ad.add (k * 3)).block, (ad.add (k * 3)).off + 1, none⟩) (by show wr.heap[(ad.add (k * 3)).block]? = W.heap[(ad.add (k * 3)).block]?; rw [add_block]; exact HB.out.2)).trans g1
   have h2 : wr.cell? ⟨(ad.add (k * 3)).block, (ad.add (k * 3)).off + 2, none⟩ = some (rows k).2.2 := (cell_same (a := ⟨(ad.add (k * 3)).block, (ad.add (k * 3)).off + 2, none⟩) (by show wr.heap[(ad.add (k * 3)).block]? = W.heap[(ad.add (k * 3)).block]?; rw [add_block]; exact HB.out.2)).trans g2
   have hw : IntKind.i64.wrap ((k : Int) - 1) = (k : Int) - 1 := by rw [i64_w]; unfold wrap64; omega
   obtain ⟨fn, tmps, assign, body, hy, hR⟩ := HY.out pre ⟨k, c2⟩ wr HJ1.out (by omega)
   have HRR := zA hR
   clear hR g0 g1 g2
   gi_wp2
   refine HRR.out.mono ?_
   rintro e W3 (⟨rfl, hJ3, hk3⟩ | ⟨rfl, hJx3⟩)
   ·
    have HK3 := zA (HB.out.trans hk3)
    have HJ3 := zA hJ3
    clear hJ3 hk3
    gi_wp2
    go_roundw
    case rel => exact ⟨k, pre ++ [⟨k, c2⟩], rfl, by omega, by simp; omega, ⟨by rw [HW.out, bwFrom_succ c2]; simp⟩, HJ3, HK3⟩
    case measure => simp [intOf]
   ·
    gi_wp2
    refine bodyPost_ret (results_none rfl _ _ _) rfl ?_
    exact ⟨⟨_, rfl⟩, .inr ⟨_, ⟨bwFrom n k, by rw [HW.out, bwFrom_succ c2]; simp⟩, hJx3⟩⟩
  | zero =>
   have c1 : decide ((0 : Int) ≤ ((0 : Nat) : Int) - 1) = false := by decide
   gi_wp2
   go_end0
   have e := HW.out
   exact ⟨⟨_, rfl⟩, .inl ⟨_, e.symm, by simpa [bwFrom] using HJ1.out⟩⟩
end Go.Proofs.Ythoeindopljmkaa.P
end
